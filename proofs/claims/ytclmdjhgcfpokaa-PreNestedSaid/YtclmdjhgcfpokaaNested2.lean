/- PreNested: the walk joined with its contracts. -/
import Derived.Test.YtclmdjhgcfpokaaNested
import Derived.Test.YtclmdjhgcfpokaaPlain6
set_option linter.unusedVariables false
namespace Go.Proofs.Ytclmdjhgcfpokaa
open Go.RowKit Go.Sort Wc Wk

theorem preNested_walk (six : Bool) (hi lo n : Int) (six' : Bool) (hi' lo' m : Int) (w : World) (h1 : 0 ≤ hi ∧ hi < 18446744073709551616) (h2 : 0 ≤ lo ∧ lo < 18446744073709551616)
    (_hn : -9223372036854775808 ≤ n ∧ n ≤ 9223372036854775807) (h3 : 0 ≤ hi' ∧ hi' < 18446744073709551616) (h4 : 0 ≤ lo' ∧ lo' < 18446744073709551616) (_hm : -9223372036854775808 ≤ m ∧ m ≤ 9223372036854775807) :
    Calls Try.prog 13 #[.agg #[.bool six, .int .u64 hi, .int .u64 lo], .int .i64 n, .agg #[.bool six', .int .u64 hi', .int .u64 lo'], .int .i64 m] w fun e w' => e = .returned (.bool true) ∧ Below w.heap.size w w' := by
  have vP := vp_cut (rawN_fits six hi lo h1 h2) (pickLen_le six n)
  have vO := vp_cut (rawN_fits six hi' lo' h3 h4) (pickLen_le six m)
  have P1 := fun w => preOf_any six hi lo n w h1 h2
  have P2 := fun w => preOf_any six hi' lo' m w h3 h4
  generalize cutN (wd six) (rawN six hi lo) (pickLen six n) = p at *
  generalize cutN (wd six) (rawN six hi' lo') (pickLen six m) = o at *
  generalize pickLen six n = k at *
  generalize pickLen six m = l at *
  have C1 := fun w => covers_ok six p k o l w vP vO
  have C2 := fun w => covers_ok six o l p k w vO vP
  have C3 := fun w => common_ok six p k o l w vP vO
  have vC := vp_cut vP.1 (Nat.le_trans (comLen_le six p k o l) vP.2.1)
  have C4 := fun w => covers_ok six _ _ p k w vC vP
  have C5 := fun w => covers_ok six _ _ o l w vC vO
  have cc := com_cov vP vO
  have H1 := fun w => has_ok six p k o w vP vO.1
  have H2 := fun w => has_ok six o l p w vO vP.1
  have hor := cov_or vP vO
  rw [decide_eq_true cc.1] at C4
  rw [decide_eq_true cc.2] at C5
  by_cases x : cov six p k o l
  · by_cases y : cov six o l p k
    · obtain ⟨rfl, rfl⟩ := cov_anti vP vO x y
      have sf := com_self vP
      rw [sf.2, sf.1] at C3 C4 C5
      rw [decide_eq_true x] at C1 C2
      rw [decide_eq_true vP.2.2] at H1 H2
      exact preNested_one six six' hi lo n hi' lo' m w p k 0 0 true trivial P1 P2 C1 C2 C3 C4 C5 H1 H2
    · have cm := cov_com vP vO x
      rw [cm.2, cm.1] at C3 C4 C5
      rw [decide_eq_true x] at C1
      rw [decide_eq_false y] at C2
      rw [decide_eq_true x.2] at H1
      exact preNested_two six six' hi lo n hi' lo' m w p k o l _ (by
        rw [beq_eq_false_iff_ne]
        intro h
        obtain rfl : k = l := by omega
        apply y
        obtain ⟨x1, x2⟩ := x
        rw [vO.2.2] at x2
        subst x2
        exact cov_self vP) P1 P2 C1 C2 C3 C4 C5 H1 H2
  · by_cases y : cov six o l p k
    · have cm := cov_com vO vP y
      have cs := com_comm vP.1 vO.1 vP.2.1 vO.2.1
      rw [cs.2, cs.1, cm.2, cm.1] at C3 C4 C5
      rw [decide_eq_false x] at C1
      rw [decide_eq_true y] at C2
      rw [decide_eq_true y.2] at H2
      exact preNested_three six six' hi lo n hi' lo' m w p k o l _ trivial P1 P2 C1 C2 C3 C4 C5 H1 H2
    · obtain ⟨hk, hl, hiff⟩ := cov_part vP vO x y
      have hno : ¬ (cutN (wd six) o k = p ∨ cutN (wd six) p l = o) := fun h => (hor.2 h).elim x y
      rw [decide_eq_false x] at C1
      rw [decide_eq_false y] at C2
      rw [decide_eq_false (fun h => hno (Or.inl h))] at H1
      rw [decide_eq_false (fun h => hno (Or.inr h))] at H2
      have hw := Nat.lt_of_lt_of_le hk vP.2.1
      obtain ⟨w1, w2⟩ := half_vp vC hw
      have HV := fun w => halves_ok six _ _ w vC hw
      have C6 := fun w => covers_ok six _ _ p k w w1 vP
      have C7 := fun w => covers_ok six _ _ o l w w2 vO
      rw [decide_eq_decide.2 hiff] at C6
      exact preNested_four six six' hi lo n hi' lo' m w p k o l _ _ _ _ _ _ P1 P2 C1 C2 C3 C4 C5 H1 H2 HV C6 C7
end Go.Proofs.Ytclmdjhgcfpokaa
