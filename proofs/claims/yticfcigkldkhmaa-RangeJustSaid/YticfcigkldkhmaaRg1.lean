
/- Contracts: addr.Less; pre.Check of a prefix whose bits may be off. -/
import Derived.Test.YticfcigkldkhmaaRg0
set_option linter.unusedVariables false
namespace Go.Proofs.Yticfcigkldkhmaa
open Go Go.RowKit Go.Sort Wc Wk


theorem less_any (six : Bool) (a b : Nat) (w : World) (ha : Fits six a) (hb : Fits six b) :
    Calls Try.prog 50 #[Value.agg #[.bool six, .int .u64 (hiOf six a), .int .u64 (loOf a)], Value.agg #[.bool six, .int .u64 (hiOf six b), .int .u64 (loOf b)]] w fun e w' => e = .returned (.bool (decide (a < b))) ∧ Below w.heap.size w w' := by
  have L := lt_words ha hb
  have E := addr_eq ha hb
  generalize hiOf six a = h1 at *
  generalize hiOf six b = h2 at *
  generalize loOf a = l1 at *
  generalize loOf b = l2 at *
  by_cases c1 : h1 < h2
  · have d := L.1 (.inl c1)
    rw [decide_eq_true d]
    clear L E d
    go_enter Try.func50, Try.ntmps50
    go_wp2
    go_returns
    exact ⟨rfl, by (repeat' (first | (with_reducible exact Below.refl _ _) | (with_reducible assumption) | (with_reducible refine Below.al ?_ _) | (with_reducible refine Below.dr ?_) | (with_reducible refine Below.step ?_ (by assumption)) | (with_reducible refine Below.set ?_ ?_ _) | omega | (dsimp only; omega) | (simp; done) | (simp; omega)))⟩
  · by_cases c2 : h1 = h2
    · subst c2
      by_cases c3 : l1 < l2
      · have d := L.1 (.inr ⟨rfl, c3⟩)
        rw [decide_eq_true d]
        clear L E d
        go_enter Try.func50, Try.ntmps50
        go_wp2
        go_returns
        exact ⟨rfl, by (repeat' (first | (with_reducible exact Below.refl _ _) | (with_reducible assumption) | (with_reducible refine Below.al ?_ _) | (with_reducible refine Below.dr ?_) | (with_reducible refine Below.step ?_ (by assumption)) | (with_reducible refine Below.set ?_ ?_ _) | omega | (dsimp only; omega) | (simp; done) | (simp; omega)))⟩
      · have d : ¬ a < b := fun h => by rcases L.2 h with h | h <;> omega
        rw [decide_eq_false d]
        clear L E d
        go_enter Try.func50, Try.ntmps50
        go_wp2
        go_returns
        exact ⟨rfl, by (repeat' (first | (with_reducible exact Below.refl _ _) | (with_reducible assumption) | (with_reducible refine Below.al ?_ _) | (with_reducible refine Below.dr ?_) | (with_reducible refine Below.step ?_ (by assumption)) | (with_reducible refine Below.set ?_ ?_ _) | omega | (dsimp only; omega) | (simp; done) | (simp; omega)))⟩
    · have d : ¬ a < b := fun h => by rcases L.2 h with h | h <;> omega
      rw [decide_eq_false d]
      clear L E d
      go_enter Try.func50, Try.ntmps50
      go_wp2
      go_returns
      exact ⟨rfl, by (repeat' (first | (with_reducible exact Below.refl _ _) | (with_reducible assumption) | (with_reducible refine Below.al ?_ _) | (with_reducible refine Below.dr ?_) | (with_reducible refine Below.step ?_ (by assumption)) | (with_reducible refine Below.set ?_ ?_ _) | omega | (dsimp only; omega) | (simp; done) | (simp; omega)))⟩


set_option maxHeartbeats 1000000 in
theorem check_bits (six : Bool) (n k : Nat) (w : World) (hf : Fits six n) (hk : k ≤ wd six) (hne : ¬ cutN (wd six) n k = n) :
    Calls Try.prog 54 #[Value.agg #[.bool six, .int .u64 (hiOf six n), .int .u64 (loOf n), .int .i64 k]] w fun e w' => e = .returned (.int .i64 5) ∧ Below w.heap.size w w' := by
  obtain ⟨r0, r1, r2⟩ := pwide_range six
  have M := Lib.hid (fun w => may_any six n w hf)
  have W := Lib.hid (fun w => wide_any six w)
  have C := Lib.hid (fun w => cut_any six n k w hf hk)
  rw [r2] at W
  have E := fun h => hne ((addr_eq (fits_cut hf k) hf).1 h)
  clear r2 hf hne
  generalize cutN (wd six) n k = c at *
  generalize wd six = u at *
  have hd : decide ((u : Int) < k) = false := by simp; omega
  by_cases h1 : hiOf six c = hiOf six n
  · have h2 : ¬ loOf c = loOf n := fun h => E ⟨h1, h⟩
    rw [h1] at C
    clear E h1
    go_enter Try.func54, Try.ntmps54
    go_wp2_with (first | ((with_reducible refine (M.out _).mono ?_); rintro e w1 ⟨rfl, hb1⟩; (repeat (with_reducible (replace hb1 := Below.undrew hb1))); obtain ⟨hc1, hf1⟩ := bcell hb1; have hz1 := hb1.size; (repeat (first | rw [World.size_alloc] at hz1 | rw [World.size_drew] at hz1 | rw [World.size_setCell] at hz1)); (try have : w.heap.size < w1.heap.size := by omega); (try have : w.heap.size < w1.heap.size + 1 := by omega); (try have : w.heap.size < w1.heap.size + 1 + 1 := by omega); (try have : w.heap.size < w1.heap.size + 1 + 1 + 1 := by omega); (try have : w.heap.size + 1 < w1.heap.size := by omega); (try have : w.heap.size + 1 < w1.heap.size + 1 := by omega); (try have : w.heap.size + 1 < w1.heap.size + 1 + 1 := by omega); (try have : w.heap.size + 1 < w1.heap.size + 1 + 1 + 1 := by omega)))
    refine wp_region_qb (by kernel_rfl) (by kernel_rfl) (fun kq => ?_)
    repeat (quiet_step (first | (with_reducible exact Calls.regrown_same (W.out _))))
    clear kq
    refine wpQuiet_nil ?_; intro w2 hb2; (repeat (with_reducible (replace hb2 := Below.undrew hb2))); obtain ⟨hc2, hf2⟩ := bcell hb2; have hz2 := hb2.size; (repeat (first | rw [World.size_alloc] at hz2 | rw [World.size_drew] at hz2 | rw [World.size_setCell] at hz2)); (try have : w.heap.size < w2.heap.size := by omega); (try have : w.heap.size < w2.heap.size + 1 := by omega); (try have : w.heap.size < w2.heap.size + 1 + 1 := by omega); (try have : w.heap.size < w2.heap.size + 1 + 1 + 1 := by omega); (try have : w.heap.size + 1 < w2.heap.size := by omega); (try have : w.heap.size + 1 < w2.heap.size + 1 := by omega); (try have : w.heap.size + 1 < w2.heap.size + 1 + 1 := by omega); (try have : w.heap.size + 1 < w2.heap.size + 1 + 1 + 1 := by omega); (try have : w1.heap.size < w2.heap.size := by omega); (try have : w1.heap.size < w2.heap.size + 1 := by omega); (try have : w1.heap.size < w2.heap.size + 1 + 1 := by omega); (try have : w1.heap.size < w2.heap.size + 1 + 1 + 1 := by omega)
    go_wp2_with (first | ((with_reducible refine (M.out _).mono ?_); rintro e w1 ⟨rfl, hb1⟩; (repeat (with_reducible (replace hb1 := Below.undrew hb1))); obtain ⟨hc1, hf1⟩ := bcell hb1; have hz1 := hb1.size; (repeat (first | rw [World.size_alloc] at hz1 | rw [World.size_drew] at hz1 | rw [World.size_setCell] at hz1)); (try have : w.heap.size < w1.heap.size := by omega); (try have : w.heap.size < w1.heap.size + 1 := by omega); (try have : w.heap.size < w1.heap.size + 1 + 1 := by omega); (try have : w.heap.size < w1.heap.size + 1 + 1 + 1 := by omega); (try have : w.heap.size + 1 < w1.heap.size := by omega); (try have : w.heap.size + 1 < w1.heap.size + 1 := by omega); (try have : w.heap.size + 1 < w1.heap.size + 1 + 1 := by omega); (try have : w.heap.size + 1 < w1.heap.size + 1 + 1 + 1 := by omega)))
    refine wp_region_qb (by kernel_rfl) (by kernel_rfl) (fun kq => ?_)
    repeat (quiet_step (first | (with_reducible exact Calls.regrown_of (C.out _))))
    clear kq
    refine wpQuiet_nil ?_; intro w3 hb3; (repeat (with_reducible (replace hb3 := Below.undrew hb3))); obtain ⟨hc3, hf3⟩ := bcell hb3; have hz3 := hb3.size; (repeat (first | rw [World.size_alloc] at hz3 | rw [World.size_drew] at hz3 | rw [World.size_setCell] at hz3)); (try have : w.heap.size < w3.heap.size := by omega); (try have : w.heap.size < w3.heap.size + 1 := by omega); (try have : w.heap.size < w3.heap.size + 1 + 1 := by omega); (try have : w.heap.size < w3.heap.size + 1 + 1 + 1 := by omega); (try have : w.heap.size + 1 < w3.heap.size := by omega); (try have : w.heap.size + 1 < w3.heap.size + 1 := by omega); (try have : w.heap.size + 1 < w3.heap.size + 1 + 1 := by omega); (try have : w.heap.size + 1 < w3.heap.size + 1 + 1 + 1 := by omega); (try have : w1.heap.size < w3.heap.size := by omega); (try have : w1.heap.size < w3.heap.size + 1 := by omega); (try have : w1.heap.size < w3.heap.size + 1 + 1 := by omega); (try have : w1.heap.size < w3.heap.size + 1 + 1 + 1 := by omega)
    go_wp2
    go_returns
    exact ⟨rfl, by (repeat' (first | (with_reducible exact Below.refl _ _) | (with_reducible assumption) | (with_reducible refine Below.al ?_ _) | (with_reducible refine Below.dr ?_) | (with_reducible refine Below.step ?_ (by assumption)) | (with_reducible refine Below.set ?_ ?_ _) | omega | (dsimp only; omega) | (simp; done) | (simp; omega)))⟩
  · clear E
    go_enter Try.func54, Try.ntmps54
    go_wp2_with (first | ((with_reducible refine (M.out _).mono ?_); rintro e w1 ⟨rfl, hb1⟩; (repeat (with_reducible (replace hb1 := Below.undrew hb1))); obtain ⟨hc1, hf1⟩ := bcell hb1; have hz1 := hb1.size; (repeat (first | rw [World.size_alloc] at hz1 | rw [World.size_drew] at hz1 | rw [World.size_setCell] at hz1)); (try have : w.heap.size < w1.heap.size := by omega); (try have : w.heap.size < w1.heap.size + 1 := by omega); (try have : w.heap.size < w1.heap.size + 1 + 1 := by omega); (try have : w.heap.size < w1.heap.size + 1 + 1 + 1 := by omega); (try have : w.heap.size + 1 < w1.heap.size := by omega); (try have : w.heap.size + 1 < w1.heap.size + 1 := by omega); (try have : w.heap.size + 1 < w1.heap.size + 1 + 1 := by omega); (try have : w.heap.size + 1 < w1.heap.size + 1 + 1 + 1 := by omega)))
    refine wp_region_qb (by kernel_rfl) (by kernel_rfl) (fun kq => ?_)
    repeat (quiet_step (first | (with_reducible exact Calls.regrown_same (W.out _))))
    clear kq
    refine wpQuiet_nil ?_; intro w2 hb2; (repeat (with_reducible (replace hb2 := Below.undrew hb2))); obtain ⟨hc2, hf2⟩ := bcell hb2; have hz2 := hb2.size; (repeat (first | rw [World.size_alloc] at hz2 | rw [World.size_drew] at hz2 | rw [World.size_setCell] at hz2)); (try have : w.heap.size < w2.heap.size := by omega); (try have : w.heap.size < w2.heap.size + 1 := by omega); (try have : w.heap.size < w2.heap.size + 1 + 1 := by omega); (try have : w.heap.size < w2.heap.size + 1 + 1 + 1 := by omega); (try have : w.heap.size + 1 < w2.heap.size := by omega); (try have : w.heap.size + 1 < w2.heap.size + 1 := by omega); (try have : w.heap.size + 1 < w2.heap.size + 1 + 1 := by omega); (try have : w.heap.size + 1 < w2.heap.size + 1 + 1 + 1 := by omega); (try have : w1.heap.size < w2.heap.size := by omega); (try have : w1.heap.size < w2.heap.size + 1 := by omega); (try have : w1.heap.size < w2.heap.size + 1 + 1 := by omega); (try have : w1.heap.size < w2.heap.size + 1 + 1 + 1 := by omega)
    go_wp2_with (first | ((with_reducible refine (M.out _).mono ?_); rintro e w1 ⟨rfl, hb1⟩; (repeat (with_reducible (replace hb1 := Below.undrew hb1))); obtain ⟨hc1, hf1⟩ := bcell hb1; have hz1 := hb1.size; (repeat (first | rw [World.size_alloc] at hz1 | rw [World.size_drew] at hz1 | rw [World.size_setCell] at hz1)); (try have : w.heap.size < w1.heap.size := by omega); (try have : w.heap.size < w1.heap.size + 1 := by omega); (try have : w.heap.size < w1.heap.size + 1 + 1 := by omega); (try have : w.heap.size < w1.heap.size + 1 + 1 + 1 := by omega); (try have : w.heap.size + 1 < w1.heap.size := by omega); (try have : w.heap.size + 1 < w1.heap.size + 1 := by omega); (try have : w.heap.size + 1 < w1.heap.size + 1 + 1 := by omega); (try have : w.heap.size + 1 < w1.heap.size + 1 + 1 + 1 := by omega)))
    refine wp_region_qb (by kernel_rfl) (by kernel_rfl) (fun kq => ?_)
    repeat (quiet_step (first | (with_reducible exact Calls.regrown_of (C.out _))))
    clear kq
    refine wpQuiet_nil ?_; intro w3 hb3; (repeat (with_reducible (replace hb3 := Below.undrew hb3))); obtain ⟨hc3, hf3⟩ := bcell hb3; have hz3 := hb3.size; (repeat (first | rw [World.size_alloc] at hz3 | rw [World.size_drew] at hz3 | rw [World.size_setCell] at hz3)); (try have : w.heap.size < w3.heap.size := by omega); (try have : w.heap.size < w3.heap.size + 1 := by omega); (try have : w.heap.size < w3.heap.size + 1 + 1 := by omega); (try have : w.heap.size < w3.heap.size + 1 + 1 + 1 := by omega); (try have : w.heap.size + 1 < w3.heap.size := by omega); (try have : w.heap.size + 1 < w3.heap.size + 1 := by omega); (try have : w.heap.size + 1 < w3.heap.size + 1 + 1 := by omega); (try have : w.heap.size + 1 < w3.heap.size + 1 + 1 + 1 := by omega); (try have : w1.heap.size < w3.heap.size := by omega); (try have : w1.heap.size < w3.heap.size + 1 := by omega); (try have : w1.heap.size < w3.heap.size + 1 + 1 := by omega); (try have : w1.heap.size < w3.heap.size + 1 + 1 + 1 := by omega)
    go_wp2
    go_returns
    exact ⟨rfl, by (repeat' (first | (with_reducible exact Below.refl _ _) | (with_reducible assumption) | (with_reducible refine Below.al ?_ _) | (with_reducible refine Below.dr ?_) | (with_reducible refine Below.step ?_ (by assumption)) | (with_reducible refine Below.set ?_ ?_ _) | omega | (dsimp only; omega) | (simp; done) | (simp; omega)))⟩
end Go.Proofs.Yticfcigkldkhmaa
