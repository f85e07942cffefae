
/- Contracts of package pre: spans, halves, what is common. -/
import Derived.Test.YticfcigkldkhmaaPre3
import Derived.Test.YticfcigkldkhmaaPlain4
import Derived.Test.YticfcigkldkhmaaShelf
set_option linter.unusedVariables false
namespace Go.Proofs.Yticfcigkldkhmaa
open Go.RowKit Go.Sort Wc Wk


set_option maxHeartbeats 1000000 in
theorem span_ok (six : Bool) (n k : Nat) (w : World) (hp : VP six n k) :
    Calls Try.prog 27 #[Value.agg #[.bool six, .int .u64 (hiOf six n), .int .u64 (loOf n), .int .i64 k]] w fun e w' => e = .returned (.tuple #[Value.agg #[.bool six, .int .u64 (hiOf six n), .int .u64 (loOf n)], Value.agg #[.bool six, .int .u64 (hiOf six (lastN (wd six) n k)), .int .u64 (loOf (lastN (wd six) n k))], .int .i64 0]) ∧ Below w.heap.size w w' := by
  have C := Lib.hid (fun w => check_ok six n k w hp)
  have L := Lib.hid (fun w => last_any six n k w hp)
  clear hp
  go_enter Try.func27, Try.ntmps27
  go_wp2_with (first | ((with_reducible refine (C.out _).mono ?_); rintro e w1 ⟨rfl, hb1⟩; (repeat (with_reducible (replace hb1 := Below.undrew hb1))); obtain ⟨hc1, hf1⟩ := bcell hb1; have hz1 := hb1.size; (repeat (first | rw [World.size_alloc] at hz1 | rw [World.size_drew] at hz1 | rw [World.size_setCell] at hz1)); (try have : w.heap.size < w1.heap.size := by omega); (try have : w.heap.size + 1 < w1.heap.size := by omega); (try have : w.heap.size + 2 < w1.heap.size := by omega)))
  go_region_held3 (fun w' => w'.cell? ⟨w.heap.size, 0, none⟩ = some (.bool six) ∧ w'.cell? ⟨w.heap.size, 1, none⟩ = some (.int .u64 (hiOf six n)) ∧ w'.cell? ⟨w.heap.size, 2, none⟩ = some (.int .u64 (loOf n)) ∧ w'.cell? ⟨w.heap.size, 3, none⟩ = some (.int .i64 k)) (first | (go_simp; done) | (simp [*, go_sem, World.cell?_alloc_past]; done))
    (first | ((with_reducible refine (L.out _).mono ?_); rintro e w2 ⟨rfl, hb2⟩; (repeat (with_reducible (replace hb2 := Below.undrew hb2))); obtain ⟨hc2, hf2⟩ := bcell hb2; have hz2 := hb2.size; (repeat (first | rw [World.size_alloc] at hz2 | rw [World.size_drew] at hz2 | rw [World.size_setCell] at hz2)); (try have : w.heap.size < w2.heap.size := by omega); (try have : w.heap.size + 1 < w2.heap.size := by omega); (try have : w.heap.size + 2 < w2.heap.size := by omega); (try have : w1.heap.size < w2.heap.size := by omega); (try have : w1.heap.size + 1 < w2.heap.size := by omega)))
  all_goals go_wp2
  go_goals
  all_goals refine bodyPost_ret (v := .tuple #[Value.agg #[.bool six, .int .u64 (hiOf six n), .int .u64 (loOf n)], Value.agg #[.bool six, .int .u64 (hiOf six (lastN (wd six) n k)), .int .u64 (loOf (lastN (wd six) n k))], .int .i64 0]) (by simp [results, Try.results27, go_sem, *]) rfl ⟨rfl, by (repeat' (first | (with_reducible exact Below.refl _ _) | (with_reducible assumption) | (with_reducible refine Below.al ?_ _) | (with_reducible refine Below.dr ?_) | (with_reducible refine Below.step ?_ (by assumption)) | (with_reducible refine Below.set ?_ ?_ _) | omega | (dsimp only; omega) | (simp; done) | (simp; omega)))⟩
end Go.Proofs.Yticfcigkldkhmaa
