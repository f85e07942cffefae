
/- Contracts of package offers: Check, better. -/
import Derived.Test.YtllemhknmleklaaOfK
import Derived.Test.YtllemhknmleklaaShelf
import Derived.Test.YtllemhknmleklaaKit
set_option linter.unusedVariables false
set_option linter.unusedSimpArgs false
namespace Go.Proofs.Ytllemhknmleklaa
open Go.RowKit Go.Sort Wc Wk

theorem oout_no (n : Nat) (m : Int) (w : World) (h : m ≤ n) (h2 : n ≤ 999) :
    Calls Try.prog 166 #[.int .i64 n, .int .i64 m] w fun e w' => e = .returned (.bool false) ∧ w = w' := by
  have e1 : decide ((n : Int) < m) = false := by simp; omega
  have e2 : decide ((999 : Int) < n) = false := by simp; omega
  go_enter Try.func166, Try.ntmps166
  go_wp2
  go_ret
  exact ⟨ret_bool (by first | rfl | exact e1 | simp [e1]), rfl⟩


set_option maxHeartbeats 1000000 in
theorem ocheck_any (o : OfD) (w : World) (h : o.ok) : Calls Try.prog 148 #[.agg #[.bool false, .int .u64 (hiOf false o.n), .int .u64 (loOf o.n), .int .i64 o.k, .int .i64 o.src, .int .i64 o.peer, .int .i64 o.met, .int .i64 o.hop]] w fun e w' => e = .returned (.int .i64 0) ∧ Below w.heap.size w w' := by
  obtain ⟨h1, h2, h3, h4, h5, h6, h7⟩ := h
  have C := Lib.hid (fun w => check_ok false o.n o.k w h1)
  have O1 := Lib.hid (fun w => oout_no o.peer 0 w (by omega) h4)
  have O2 := Lib.hid (fun w => oout_no o.met 0 w (by omega) h5)
  have O3 := Lib.hid (fun w => oout_no o.hop 1 w (by omega) h7)
  have d1 : decide ((o.src : Int) < 1) = false := by (first | omega | (simp; done) | (simp; omega))
  have d2 : decide ((4 : Int) < o.src) = false := by (first | omega | (simp; done) | (simp; omega))
  clear h1
  go_enter Try.func148, Try.ntmps148
  go_wp2_with (first | ((with_reducible refine (O1.out _).mono ?_); rintro e w' ⟨rfl, rfl⟩) | ((with_reducible refine (O2.out _).mono ?_); rintro e w' ⟨rfl, rfl⟩) | ((with_reducible refine (O3.out _).mono ?_); rintro e w' ⟨rfl, rfl⟩) | ((with_reducible refine (C.out _).mono ?_); rintro e w1 ⟨rfl, hb1⟩; (repeat (with_reducible (replace hb1 := Below.undrew hb1))); obtain ⟨hc1, hf1⟩ := bcell hb1; have hz1 := hb1.size; (repeat (first | rw [World.size_alloc] at hz1 | rw [World.size_drew] at hz1 | rw [World.size_setCell] at hz1)); (try have : w.heap.size < w1.heap.size := by omega); (try have : w.heap.size < w1.heap.size + 1 := by omega); (try have : w.heap.size < w1.heap.size + 1 + 1 := by omega); (try have : w.heap.size < w1.heap.size + 1 + 1 + 1 := by omega); (try have : w.heap.size + 1 < w1.heap.size := by omega); (try have : w.heap.size + 1 < w1.heap.size + 1 := by omega); (try have : w.heap.size + 1 < w1.heap.size + 1 + 1 := by omega); (try have : w.heap.size + 1 < w1.heap.size + 1 + 1 + 1 := by omega)))
  go_returns
  exact ⟨rfl, by (repeat' (first | (with_reducible exact Below.refl _ _) | (with_reducible assumption) | (with_reducible refine Below.alloc ?_ ?_ _) | (with_reducible refine Below.drew ?_) | (with_reducible refine Below.stepG ?_ (by assumption) ?_) | (with_reducible refine Below.setCell ?_ ?_ _) | omega | (dsimp only; omega) | (simp; done) | (simp; omega)))⟩
end Go.Proofs.Ytllemhknmleklaa
