/- PreSize: the walk of the law. -/
import Derived.Test.YtclmdjhgcfpokaaChain2
import Derived.Deep.DeepCutAuto
set_option linter.unusedVariables false
namespace Go.Proofs.Ytclmdjhgcfpokaa
open Go.RowKit Go.Sort Wc Wk

theorem wrap_i64_pow (j : Nat) (h : j < 30) : IntKind.i64.wrap (2 ^ j) = 2 ^ j := by
  have h1 : 2 ^ j ≤ 2 ^ 30 := Nat.pow_le_pow_right (by decide) (by omega)
  have e : ((2 : Int) ^ j) = ((2 ^ j : Nat) : Int) := by simp
  rw [e]
  generalize 2 ^ j = p at *
  exact IntWalk.i64_in _ (by omega)
theorem wrap_i64_pow1 (j : Nat) (h : j < 30) : IntKind.i64.wrap (2 ^ j - 1) = 2 ^ j - 1 := by
  have h1 : 2 ^ j ≤ 2 ^ 30 := Nat.pow_le_pow_right (by decide) (by omega)
  have e : ((2 : Int) ^ j) = ((2 ^ j : Nat) : Int) := by simp
  rw [e]
  generalize 2 ^ j = p at *
  exact IntWalk.i64_in _ (by omega)


set_option maxHeartbeats 4000000 in
theorem preSize_core (six : Bool) (hi lo n : Int) (w : World) (p l k j : Nat) (sz : Int) (hj : j < 30) (hk : (k : Int) = wdI six - j)
    (P1 : Hid (∀ w, Calls Try.prog 23 #[.agg #[.bool six, .int .u64 hi, .int .u64 lo], .int .i64 k] w fun e w' => e = .returned (Value.agg #[.bool six, .int .u64 (hiOf six p), .int .u64 (loOf p), .int .i64 k]) ∧ Below w.heap.size w w'))
    (P : Hid (∀ w, Calls Try.prog 18 #[.int .i64 n, .int .i64 30] w fun e w' => e = .returned (.int .i64 j) ∧ w = w'))
    (S1 : Hid (∀ w, Calls Try.prog 30 #[Value.agg #[.bool six, .int .u64 (hiOf six p), .int .u64 (loOf p), .int .i64 k]] w fun e w' => e = .returned (.tuple #[Value.agg #[.bool six, .int .u64 (hiOf six p), .int .u64 (loOf p)], Value.agg #[.bool six, .int .u64 (hiOf six l), .int .u64 (loOf l)], .int .i64 0]) ∧ Below w.heap.size w w'))
    (N : Hid (∀ w, Calls Try.prog 19 #[Value.agg #[.bool six, .int .u64 (hiOf six p), .int .u64 (loOf p)], .int .i64 (2 ^ j - 1)] w fun e w' => e = .returned (.tuple #[Value.agg #[.bool six, .int .u64 (hiOf six l), .int .u64 (loOf l)], .int .i64 0]) ∧ Below w.heap.size w w')) :
    Calls Try.prog 11 #[.agg #[.bool six, .int .u64 hi, .int .u64 lo], .int .i64 n] w fun e w' => e = .returned (.bool true) ∧ Below w.heap.size w w' := by
  have W := Lib.hid (fun w => kwide_any six w)
  have S := Lib.hid preSure_any
  have HK := Lib.hid hk
  obtain ⟨r0, r1⟩ := (show 32 ≤ wdI six ∧ wdI six ≤ 128 from by cases six <;> decide)
  have ew1 : IntKind.i64.wrap (wdI six - j) = k := by rw [← hk]; exact IntWalk.i64_in _ (by omega)
  have ew2 : IntKind.i64.wrap (wdI six - k) = j := by rw [show wdI six - (k : Int) = j from by omega]; exact IntWalk.i64_in _ (by omega)
  have E2 := Lib.hid ew2
  clear hk ew2
  go_enter Try.func11, Try.ntmps11
  go_upto_region 1 with fail
  go_cut [5] (fun s5 wx => ∃ g : Nat, s5 = .pointer (some ⟨g, 0, none⟩) ∧ wx.cell? ⟨g, 0, none⟩ = some (.bool six) ∧ wx.cell? ⟨g, 1, none⟩ = some (.int .u64 (hiOf six p)) ∧ wx.cell? ⟨g, 2, none⟩ = some (.int .u64 (loOf p)) ∧ wx.cell? ⟨g, 3, none⟩ = some (.int .i64 k) ∧ Below w.heap.size w wx ∧ g < wx.heap.size)
  case first =>
    go_region_held3 (fun w' => w'.cell? ⟨w.heap.size, 0, none⟩ = some (.bool six) ∧ w'.cell? ⟨w.heap.size, 1, none⟩ = some (.int .u64 hi) ∧ w'.cell? ⟨w.heap.size, 2, none⟩ = some (.int .u64 lo)) (first | (go_simp; done) | (simp [*, go_sem, World.cell?_alloc_past, World.cell?_setCell_far]; done))
      (first | ((with_reducible refine (P.out _).mono ?_); rintro e w' ⟨rfl, rfl⟩) | ((with_reducible refine (W.out _).mono ?_); rintro e w' ⟨rfl, rfl⟩) | ((with_reducible refine (P1.out _).mono ?_); rintro e w1 ⟨rfl, hb1⟩; (repeat (with_reducible (replace hb1 := Below.undrew hb1))); obtain ⟨hc1, hf1⟩ := bcell hb1; have hz1 := hb1.size; (repeat (first | rw [World.size_alloc] at hz1 | rw [World.size_drew] at hz1 | rw [World.size_setCell] at hz1)); (try have : g < w1.heap.size := by omega); (try have : g < w1.heap.size + 1 := by omega); (try have : g < w1.heap.size + 1 + 1 := by omega); (try have : g < w1.heap.size + 1 + 1 + 1 := by omega); (try have : w.heap.size < w1.heap.size := by omega); (try have : w.heap.size < w1.heap.size + 1 := by omega); (try have : w.heap.size < w1.heap.size + 1 + 1 := by omega); (try have : w.heap.size < w1.heap.size + 1 + 1 + 1 := by omega)))
    all_goals
      go_wp2_with fail
      go_meet
      clear ew1
      refine ⟨_, rfl, ?_, ?_, ?_, ?_, by (repeat' (first | (with_reducible exact Below.refl _ _) | (with_reducible assumption) | (with_reducible refine Below.al ?_ _) | (with_reducible refine Below.dr ?_) | (with_reducible refine Below.step ?_ (by assumption)) | (with_reducible refine Below.set ?_ ?_ _) | omega | (dsimp only; omega) | (simp; done) | (simp; omega))), ?_⟩
      all_goals first | (go_simp; done) | (simp; omega) | (simp; done)
  case rest =>
    obtain ⟨g, rfl, g0, g1, g2, g3, hbg, hg⟩ := hcut
    have hzg := hbg.size
    clear ew1
    go_wp2_with (first | ((with_reducible refine (S1.out _).mono ?_); rintro e w2 ⟨rfl, hb2⟩; (repeat (with_reducible (replace hb2 := Below.undrew hb2))); obtain ⟨hc2, hf2⟩ := bcell hb2; have hz2 := hb2.size; (repeat (first | rw [World.size_alloc] at hz2 | rw [World.size_drew] at hz2 | rw [World.size_setCell] at hz2)); (try have : g < w2.heap.size := by omega); (try have : g < w2.heap.size + 1 := by omega); (try have : g < w2.heap.size + 1 + 1 := by omega); (try have : g < w2.heap.size + 1 + 1 + 1 := by omega); (try have : w.heap.size < w2.heap.size := by omega); (try have : w.heap.size < w2.heap.size + 1 := by omega); (try have : w.heap.size < w2.heap.size + 1 + 1 := by omega); (try have : w.heap.size < w2.heap.size + 1 + 1 + 1 := by omega); (try have : w1.heap.size < w2.heap.size := by omega); (try have : w1.heap.size < w2.heap.size + 1 := by omega); (try have : w1.heap.size < w2.heap.size + 1 + 1 := by omega); (try have : w1.heap.size < w2.heap.size + 1 + 1 + 1 := by omega); (try have : w1.heap.size + 1 < w2.heap.size := by omega); (try have : w1.heap.size + 1 < w2.heap.size + 1 := by omega); (try have : w1.heap.size + 1 < w2.heap.size + 1 + 1 := by omega); (try have : w1.heap.size + 1 < w2.heap.size + 1 + 1 + 1 := by omega)))
    have ew2 := E2.out
    have ew3 : IntKind.i64.wrap (2 ^ j) = 2 ^ j := wrap_i64_pow j hj
    have ew4 : IntKind.i64.wrap (2 ^ j - 1) = 2 ^ j - 1 := wrap_i64_pow1 j hj
    go_region_held3 (fun w' => w'.cell? ⟨w2.heap.size, 0, none⟩ = some (.bool six) ∧ w'.cell? ⟨w2.heap.size, 1, none⟩ = some (.int .u64 (hiOf six p)) ∧ w'.cell? ⟨w2.heap.size, 2, none⟩ = some (.int .u64 (loOf p)) ∧ w'.cell? ⟨g, 0, none⟩ = some (.bool six) ∧ w'.cell? ⟨g, 3, none⟩ = some (.int .i64 k)) (first | (go_simp; done) | (simp [*, go_sem, World.cell?_alloc_past, World.cell?_setCell_far]; done))
      (first | ((with_reducible refine (W.out _).mono ?_); rintro e w' ⟨rfl, rfl⟩) | ((with_reducible refine (N.out _).mono ?_); rintro e w3 ⟨rfl, hb3⟩; (repeat (with_reducible (replace hb3 := Below.undrew hb3))); obtain ⟨hc3, hf3⟩ := bcell hb3; have hz3 := hb3.size; (repeat (first | rw [World.size_alloc] at hz3 | rw [World.size_drew] at hz3 | rw [World.size_setCell] at hz3)); (try have : g < w3.heap.size := by omega); (try have : g < w3.heap.size + 1 := by omega); (try have : g < w3.heap.size + 1 + 1 := by omega); (try have : g < w3.heap.size + 1 + 1 + 1 := by omega); (try have : w.heap.size < w3.heap.size := by omega); (try have : w.heap.size < w3.heap.size + 1 := by omega); (try have : w.heap.size < w3.heap.size + 1 + 1 := by omega); (try have : w.heap.size < w3.heap.size + 1 + 1 + 1 := by omega); (try have : w1.heap.size < w3.heap.size := by omega); (try have : w1.heap.size < w3.heap.size + 1 := by omega); (try have : w1.heap.size < w3.heap.size + 1 + 1 := by omega); (try have : w1.heap.size < w3.heap.size + 1 + 1 + 1 := by omega); (try have : w1.heap.size + 1 < w3.heap.size := by omega); (try have : w1.heap.size + 1 < w3.heap.size + 1 := by omega); (try have : w1.heap.size + 1 < w3.heap.size + 1 + 1 := by omega); (try have : w1.heap.size + 1 < w3.heap.size + 1 + 1 + 1 := by omega); (try have : w2.heap.size < w3.heap.size := by omega); (try have : w2.heap.size < w3.heap.size + 1 := by omega); (try have : w2.heap.size < w3.heap.size + 1 + 1 := by omega); (try have : w2.heap.size < w3.heap.size + 1 + 1 + 1 := by omega); (try have : w2.heap.size + 1 < w3.heap.size := by omega); (try have : w2.heap.size + 1 < w3.heap.size + 1 := by omega); (try have : w2.heap.size + 1 < w3.heap.size + 1 + 1 := by omega); (try have : w2.heap.size + 1 < w3.heap.size + 1 + 1 + 1 := by omega); (try have : w2.heap.size + 2 < w3.heap.size := by omega); (try have : w2.heap.size + 2 < w3.heap.size + 1 := by omega); (try have : w2.heap.size + 2 < w3.heap.size + 1 + 1 := by omega); (try have : w2.heap.size + 2 < w3.heap.size + 1 + 1 + 1 := by omega)))
    all_goals clear ew2 ew3 ew4
    all_goals go_wp2_with (first | ((with_reducible refine (S.out _).mono ?_); rintro e w4 ⟨rfl, hb4⟩; (repeat (with_reducible (replace hb4 := Below.undrew hb4))); obtain ⟨hc4, hf4⟩ := bcell hb4; have hz4 := hb4.size; (repeat (first | rw [World.size_alloc] at hz4 | rw [World.size_drew] at hz4 | rw [World.size_setCell] at hz4)); (try have : g < w4.heap.size := by omega); (try have : g < w4.heap.size + 1 := by omega); (try have : g < w4.heap.size + 1 + 1 := by omega); (try have : g < w4.heap.size + 1 + 1 + 1 := by omega); (try have : w.heap.size < w4.heap.size := by omega); (try have : w.heap.size < w4.heap.size + 1 := by omega); (try have : w.heap.size < w4.heap.size + 1 + 1 := by omega); (try have : w.heap.size < w4.heap.size + 1 + 1 + 1 := by omega); (try have : w1.heap.size < w4.heap.size := by omega); (try have : w1.heap.size < w4.heap.size + 1 := by omega); (try have : w1.heap.size < w4.heap.size + 1 + 1 := by omega); (try have : w1.heap.size < w4.heap.size + 1 + 1 + 1 := by omega); (try have : w1.heap.size + 1 < w4.heap.size := by omega); (try have : w1.heap.size + 1 < w4.heap.size + 1 := by omega); (try have : w1.heap.size + 1 < w4.heap.size + 1 + 1 := by omega); (try have : w1.heap.size + 1 < w4.heap.size + 1 + 1 + 1 := by omega); (try have : w2.heap.size < w4.heap.size := by omega); (try have : w2.heap.size < w4.heap.size + 1 := by omega); (try have : w2.heap.size < w4.heap.size + 1 + 1 := by omega); (try have : w2.heap.size < w4.heap.size + 1 + 1 + 1 := by omega); (try have : w2.heap.size + 1 < w4.heap.size := by omega); (try have : w2.heap.size + 1 < w4.heap.size + 1 := by omega); (try have : w2.heap.size + 1 < w4.heap.size + 1 + 1 := by omega); (try have : w2.heap.size + 1 < w4.heap.size + 1 + 1 + 1 := by omega); (try have : w2.heap.size + 2 < w4.heap.size := by omega); (try have : w2.heap.size + 2 < w4.heap.size + 1 := by omega); (try have : w2.heap.size + 2 < w4.heap.size + 1 + 1 := by omega); (try have : w2.heap.size + 2 < w4.heap.size + 1 + 1 + 1 := by omega); (try have : w3.heap.size < w4.heap.size := by omega); (try have : w3.heap.size < w4.heap.size + 1 := by omega); (try have : w3.heap.size < w4.heap.size + 1 + 1 := by omega); (try have : w3.heap.size < w4.heap.size + 1 + 1 + 1 := by omega)))
    all_goals go_returns
    all_goals exact ⟨rfl, by (repeat' (first | (with_reducible exact Below.refl _ _) | (with_reducible assumption) | (with_reducible refine Below.al ?_ _) | (with_reducible refine Below.dr ?_) | (with_reducible refine Below.step ?_ (by assumption)) | (with_reducible refine Below.set ?_ ?_ _) | omega | (dsimp only; omega) | (simp; done) | (simp; omega)))⟩

theorem preSize_walk (six : Bool) (hi lo n : Int) (w : World) (h1 : 0 ≤ hi ∧ hi < 18446744073709551616) (h2 : 0 ≤ lo ∧ lo < 18446744073709551616) (_hn : -9223372036854775808 ≤ n ∧ n ≤ 9223372036854775807) :
    Calls Try.prog 11 #[.agg #[.bool six, .int .u64 hi, .int .u64 lo], .int .i64 n] w fun e w' => e = .returned (.bool true) ∧ Below w.heap.size w w' := by
  have hR := rawN_fits six hi lo h1 h2
  have e : wdI six = (wd six : Int) := (pwide_range six).2.2
  have r := pwide_range six
  have j0 := Int.emod_nonneg n (show (30 : Int) ≠ 0 by decide)
  have j1 := Int.emod_lt_of_pos n (show (0 : Int) < 30 by decide)
  obtain ⟨j, hj⟩ := Int.eq_ofNat_of_zero_le j0
  have hk : wd six - j ≤ wd six := by omega
  have P1 := fun w => preOf_any six hi lo ((wd six - j : Nat) : Int) w h1 h2
  rw [pickLen_self six _ hk] at P1
  have v := vp_cut hR hk
  have hl := last_fits v
  have ej : wd six - (wd six - j) = j := by omega
  have p0 := pow_pos' j
  have p1 : 2 ^ j ≤ 2 ^ 30 := Nat.pow_le_pow_right (by decide) (by omega)
  have ep : ((2 : Int) ^ j) = ((2 ^ j : Nat) : Int) := by simp
  refine preSize_core six hi lo n w _ _ (wd six - j) j 0 (by omega) (by omega) P1 (fun w => ?_) (fun w => span_ok six _ _ w v) (fun w => ?_)
  · have := picked_any n 30 w (by decide) (by decide)
    rwa [hj] at this
  · have hm : ((lastN (wd six) (cutN (wd six) (rawN six hi lo) (wd six - j)) (wd six - j) : Nat) : Int) = (cutN (wd six) (rawN six hi lo) (wd six - j) : Nat) + ((2 : Int) ^ j - 1) := by
      unfold lastN
      rw [ej, ep]
      generalize 2 ^ j = p at *
      omega
    rw [ep]
    rw [ep] at hm
    generalize 2 ^ j = p at *
    exact next_ok six _ _ w v.1 (by omega) (by omega) _ hm hl
end Go.Proofs.Ytclmdjhgcfpokaa
