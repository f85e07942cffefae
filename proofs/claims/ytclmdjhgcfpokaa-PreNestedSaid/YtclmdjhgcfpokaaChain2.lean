/- PreChain: the walk joined with its contracts. -/
import Derived.Test.YtclmdjhgcfpokaaChain
set_option linter.unusedVariables false
namespace Go.Proofs.Ytclmdjhgcfpokaa
open Go.RowKit Go.Sort Wc Wk

theorem pickLen_self (six : Bool) (k : Nat) (h : k ≤ wd six) : pickLen six k = k := by
  unfold pickLen
  have e : wdI six = (wd six : Int) := (pwide_range six).2.2
  rw [e, Int.emod_eq_of_lt (by omega) (by omega)]; omega

theorem preChain_walk (six : Bool) (hi lo n m : Int) (six' : Bool) (hi' lo' : Int) (w : World) (h1 : 0 ≤ hi ∧ hi < 18446744073709551616) (h2 : 0 ≤ lo ∧ lo < 18446744073709551616)
    (_hn : -9223372036854775808 ≤ n ∧ n ≤ 9223372036854775807) (_hm : -9223372036854775808 ≤ m ∧ m ≤ 9223372036854775807) (h3 : 0 ≤ hi' ∧ hi' < 18446744073709551616) (h4 : 0 ≤ lo' ∧ lo' < 18446744073709551616) :
    Calls Try.prog 7 #[.agg #[.bool six, .int .u64 hi, .int .u64 lo], .int .i64 n, .int .i64 m, .agg #[.bool six', .int .u64 hi', .int .u64 lo']] w fun e w' => e = .returned (.bool true) ∧ Below w.heap.size w w' := by
  have hR := rawN_fits six hi lo h1 h2
  have hQ := rawN_fits six hi' lo' h3 h4
  have e : wdI six = (wd six : Int) := (pwide_range six).2.2
  have r := pwide_range six
  have hk := pickLen_le six n
  have P1 := fun w => preOf_any six hi lo n w h1 h2
  generalize pickLen six n = k at *
  have j0 := Int.emod_nonneg m (show wdI six - k + 1 ≠ 0 by omega)
  have j1 := Int.emod_lt_of_pos m (show 0 < wdI six - k + 1 by omega)
  obtain ⟨j, hj⟩ := Int.eq_ofNat_of_zero_le j0
  have hk' : k + j ≤ wd six := by omega
  have P2 := fun w => preOf_any six hi lo ((k + j : Nat) : Int) w h1 h2
  rw [pickLen_self six _ hk'] at P2
  have v1 := vp_cut hR hk
  have v2 := vp_cut hR hk'
  refine preChain_core six six' hi lo n m hi' lo' w _ _ (rawN six hi' lo') k (k + j) (decide (cutN (wd six) (rawN six hi' lo') (k + j) = cutN (wd six) (rawN six hi lo) (k + j))) (decide (cutN (wd six) (rawN six hi' lo') k = cutN (wd six) (rawN six hi lo) k)) ?_ (by omega) hk' P1 P2 (fun w => ?_) (fun w => addrOf_any six hi' lo' w h3 h4) (fun w => ?_) (fun w => has_ok six _ _ _ w v2 hQ) (fun w => has_ok six _ _ _ w v1 hQ)
  · simp only [decide_eq_true_eq]
    intro h
    rw [cut_eq_iff] at h ⊢
    exact head_mono h (by omega) hk'
  · have := picked_any m (wdI six - k + 1) w (by omega) (by omega)
    rw [hj] at this
    rw [show (((k + j : Nat) : Int) - k) = (j : Int) from by omega]
    exact this
  · have := covers_ok six _ _ _ _ w v1 v2
    rwa [show decide (cov six (cutN (wd six) (rawN six hi lo) k) k (cutN (wd six) (rawN six hi lo) (k + j)) (k + j)) = true from by rw [decide_eq_true_eq]; exact ⟨by omega, cut_cut _ _ _ _ (by omega) hk'⟩] at this
end Go.Proofs.Ytclmdjhgcfpokaa
