
/- Contracts of package pre: what is in, what covers. -/
import Derived.Test.YticfcigkldkhmaaPre
set_option linter.unusedVariables false
namespace Go.Proofs.Yticfcigkldkhmaa
open Go.RowKit Go.Sort Wc Wk


theorem in_any (six : Bool) (n k a : Nat) (w : World) (hn : Fits six n) (hk : k ≤ wd six) (ha : Fits six a) :
    Calls Try.prog 66 #[Value.agg #[.bool six, .int .u64 (hiOf six n), .int .u64 (loOf n), .int .i64 k], Value.agg #[.bool six, .int .u64 (hiOf six a), .int .u64 (loOf a)]] w fun e w' => e = .returned (.bool (decide (cutN (wd six) a k = n))) ∧ Below w.heap.size w w' := by
  have C := Lib.hid (fun w => cut_any six a k w ha hk)
  have hf := fits_cut ha k
  generalize cutN (wd six) a k = m at *
  have hE := addr_eq hf hn
  by_cases hm : m = n
  · subst hm
    clear hE hn hf hk ha
    rw [show decide (m = m) = true from by simp]
    go_enter Try.func66, Try.ntmps66
    go_wp2
    refine wp_region_qb (by kernel_rfl) (by kernel_rfl) (fun kq => ?_)
    repeat (quiet_step (first | (with_reducible exact Calls.regrown_of (C.out _))))
    clear kq
    refine wpQuiet_nil ?_; intro w3 hb3; (repeat (with_reducible (replace hb3 := Below.undrew hb3))); obtain ⟨hc3, hf3⟩ := bcell hb3; have hz3 := hb3.size; (repeat (first | rw [World.size_alloc] at hz3 | rw [World.size_drew] at hz3 | rw [World.size_setCell] at hz3)); (try have : w.heap.size < w3.heap.size := by omega); (try have : w.heap.size < w3.heap.size + 1 := by omega); (try have : w.heap.size < w3.heap.size + 1 + 1 := by omega); (try have : w.heap.size < w3.heap.size + 1 + 1 + 1 := by omega); (try have : w.heap.size + 1 < w3.heap.size := by omega); (try have : w.heap.size + 1 < w3.heap.size + 1 := by omega); (try have : w.heap.size + 1 < w3.heap.size + 1 + 1 := by omega); (try have : w.heap.size + 1 < w3.heap.size + 1 + 1 + 1 := by omega); (try have : w.heap.size + 2 < w3.heap.size := by omega); (try have : w.heap.size + 2 < w3.heap.size + 1 := by omega); (try have : w.heap.size + 2 < w3.heap.size + 1 + 1 := by omega); (try have : w.heap.size + 2 < w3.heap.size + 1 + 1 + 1 := by omega); (try have : w1.heap.size < w3.heap.size := by omega); (try have : w1.heap.size < w3.heap.size + 1 := by omega); (try have : w1.heap.size < w3.heap.size + 1 + 1 := by omega); (try have : w1.heap.size < w3.heap.size + 1 + 1 + 1 := by omega); (try have : w1.heap.size + 1 < w3.heap.size := by omega); (try have : w1.heap.size + 1 < w3.heap.size + 1 := by omega); (try have : w1.heap.size + 1 < w3.heap.size + 1 + 1 := by omega); (try have : w1.heap.size + 1 < w3.heap.size + 1 + 1 + 1 := by omega); (try have : w2.heap.size < w3.heap.size := by omega); (try have : w2.heap.size < w3.heap.size + 1 := by omega); (try have : w2.heap.size < w3.heap.size + 1 + 1 := by omega); (try have : w2.heap.size < w3.heap.size + 1 + 1 + 1 := by omega); (try have : w2.heap.size + 1 < w3.heap.size := by omega); (try have : w2.heap.size + 1 < w3.heap.size + 1 := by omega); (try have : w2.heap.size + 1 < w3.heap.size + 1 + 1 := by omega); (try have : w2.heap.size + 1 < w3.heap.size + 1 + 1 + 1 := by omega)
    go_wp2
    go_returns
    exact ⟨rfl, by (repeat' (first | (with_reducible exact Below.refl _ _) | (with_reducible assumption) | (with_reducible refine Below.al ?_ _) | (with_reducible refine Below.dr ?_) | (with_reducible refine Below.step ?_ (by assumption)) | (with_reducible refine Below.set ?_ ?_ _) | omega | (dsimp only; omega) | (simp; done) | (simp; omega)))⟩
  · have hm' : decide (m = n) = false := by simpa using hm
    rw [hm']
    have h2 : ¬ (hiOf six m = hiOf six n ∧ loOf m = loOf n) := fun h => hm (hE.1 h)
    clear hE hn hf hm hm' hk ha
    generalize hiOf six m = x at *
    generalize loOf m = p at *
    generalize hiOf six n = y at *
    generalize loOf n = q at *
    by_cases hx : x = y
    · subst hx
      have hp : (p == q) = false := by rw [beq_eq_false_iff_ne]; intro h; exact h2 ⟨rfl, h⟩
      clear h2
      go_enter Try.func66, Try.ntmps66
      go_wp2
      refine wp_region_qb (by kernel_rfl) (by kernel_rfl) (fun kq => ?_)
      repeat (quiet_step (first | (with_reducible exact Calls.regrown_of (C.out _))))
      clear kq
      refine wpQuiet_nil ?_; intro w3 hb3; (repeat (with_reducible (replace hb3 := Below.undrew hb3))); obtain ⟨hc3, hf3⟩ := bcell hb3; have hz3 := hb3.size; (repeat (first | rw [World.size_alloc] at hz3 | rw [World.size_drew] at hz3 | rw [World.size_setCell] at hz3)); (try have : w.heap.size < w3.heap.size := by omega); (try have : w.heap.size < w3.heap.size + 1 := by omega); (try have : w.heap.size < w3.heap.size + 1 + 1 := by omega); (try have : w.heap.size < w3.heap.size + 1 + 1 + 1 := by omega); (try have : w.heap.size + 1 < w3.heap.size := by omega); (try have : w.heap.size + 1 < w3.heap.size + 1 := by omega); (try have : w.heap.size + 1 < w3.heap.size + 1 + 1 := by omega); (try have : w.heap.size + 1 < w3.heap.size + 1 + 1 + 1 := by omega); (try have : w.heap.size + 2 < w3.heap.size := by omega); (try have : w.heap.size + 2 < w3.heap.size + 1 := by omega); (try have : w.heap.size + 2 < w3.heap.size + 1 + 1 := by omega); (try have : w.heap.size + 2 < w3.heap.size + 1 + 1 + 1 := by omega); (try have : w1.heap.size < w3.heap.size := by omega); (try have : w1.heap.size < w3.heap.size + 1 := by omega); (try have : w1.heap.size < w3.heap.size + 1 + 1 := by omega); (try have : w1.heap.size < w3.heap.size + 1 + 1 + 1 := by omega); (try have : w1.heap.size + 1 < w3.heap.size := by omega); (try have : w1.heap.size + 1 < w3.heap.size + 1 := by omega); (try have : w1.heap.size + 1 < w3.heap.size + 1 + 1 := by omega); (try have : w1.heap.size + 1 < w3.heap.size + 1 + 1 + 1 := by omega); (try have : w2.heap.size < w3.heap.size := by omega); (try have : w2.heap.size < w3.heap.size + 1 := by omega); (try have : w2.heap.size < w3.heap.size + 1 + 1 := by omega); (try have : w2.heap.size < w3.heap.size + 1 + 1 + 1 := by omega); (try have : w2.heap.size + 1 < w3.heap.size := by omega); (try have : w2.heap.size + 1 < w3.heap.size + 1 := by omega); (try have : w2.heap.size + 1 < w3.heap.size + 1 + 1 := by omega); (try have : w2.heap.size + 1 < w3.heap.size + 1 + 1 + 1 := by omega)
      go_wp2
      go_returns
      exact ⟨rfl, by (repeat' (first | (with_reducible exact Below.refl _ _) | (with_reducible assumption) | (with_reducible refine Below.al ?_ _) | (with_reducible refine Below.dr ?_) | (with_reducible refine Below.step ?_ (by assumption)) | (with_reducible refine Below.set ?_ ?_ _) | omega | (dsimp only; omega) | (simp; done) | (simp; omega)))⟩
    · have hp : (x == y) = false := by rw [beq_eq_false_iff_ne]; exact hx
      clear h2 hx
      go_enter Try.func66, Try.ntmps66
      go_wp2
      refine wp_region_qb (by kernel_rfl) (by kernel_rfl) (fun kq => ?_)
      repeat (quiet_step (first | (with_reducible exact Calls.regrown_of (C.out _))))
      clear kq
      refine wpQuiet_nil ?_; intro w3 hb3; (repeat (with_reducible (replace hb3 := Below.undrew hb3))); obtain ⟨hc3, hf3⟩ := bcell hb3; have hz3 := hb3.size; (repeat (first | rw [World.size_alloc] at hz3 | rw [World.size_drew] at hz3 | rw [World.size_setCell] at hz3)); (try have : w.heap.size < w3.heap.size := by omega); (try have : w.heap.size < w3.heap.size + 1 := by omega); (try have : w.heap.size < w3.heap.size + 1 + 1 := by omega); (try have : w.heap.size < w3.heap.size + 1 + 1 + 1 := by omega); (try have : w.heap.size + 1 < w3.heap.size := by omega); (try have : w.heap.size + 1 < w3.heap.size + 1 := by omega); (try have : w.heap.size + 1 < w3.heap.size + 1 + 1 := by omega); (try have : w.heap.size + 1 < w3.heap.size + 1 + 1 + 1 := by omega); (try have : w.heap.size + 2 < w3.heap.size := by omega); (try have : w.heap.size + 2 < w3.heap.size + 1 := by omega); (try have : w.heap.size + 2 < w3.heap.size + 1 + 1 := by omega); (try have : w.heap.size + 2 < w3.heap.size + 1 + 1 + 1 := by omega); (try have : w1.heap.size < w3.heap.size := by omega); (try have : w1.heap.size < w3.heap.size + 1 := by omega); (try have : w1.heap.size < w3.heap.size + 1 + 1 := by omega); (try have : w1.heap.size < w3.heap.size + 1 + 1 + 1 := by omega); (try have : w1.heap.size + 1 < w3.heap.size := by omega); (try have : w1.heap.size + 1 < w3.heap.size + 1 := by omega); (try have : w1.heap.size + 1 < w3.heap.size + 1 + 1 := by omega); (try have : w1.heap.size + 1 < w3.heap.size + 1 + 1 + 1 := by omega); (try have : w2.heap.size < w3.heap.size := by omega); (try have : w2.heap.size < w3.heap.size + 1 := by omega); (try have : w2.heap.size < w3.heap.size + 1 + 1 := by omega); (try have : w2.heap.size < w3.heap.size + 1 + 1 + 1 := by omega); (try have : w2.heap.size + 1 < w3.heap.size := by omega); (try have : w2.heap.size + 1 < w3.heap.size + 1 := by omega); (try have : w2.heap.size + 1 < w3.heap.size + 1 + 1 := by omega); (try have : w2.heap.size + 1 < w3.heap.size + 1 + 1 + 1 := by omega)
      go_wp2
      go_returns
      exact ⟨rfl, by (repeat' (first | (with_reducible exact Below.refl _ _) | (with_reducible assumption) | (with_reducible refine Below.al ?_ _) | (with_reducible refine Below.dr ?_) | (with_reducible refine Below.step ?_ (by assumption)) | (with_reducible refine Below.set ?_ ?_ _) | omega | (dsimp only; omega) | (simp; done) | (simp; omega)))⟩
end Go.Proofs.Yticfcigkldkhmaa
