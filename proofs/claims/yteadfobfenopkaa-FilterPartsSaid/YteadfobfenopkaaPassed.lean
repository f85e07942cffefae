
/- Contract of passed: what rules say of a prefix. -/
import Derived.Test.YteadfobfenopkaaPass3
import Derived.Test.YteadfobfenopkaaKit
set_option linter.unusedVariables false
namespace Go.Proofs.Yteadfobfenopkaa
open Go.RowKit Go.Sort Wc Wk
theorem one_yes : passY [⟨true, 0, 0, 0, 8⟩] 0 0 = true := by decide
theorem one_at : passI [⟨true, 0, 0, 0, 8⟩] 0 0 = 0 := by decide
theorem all_ok : ∀ q ∈ [(⟨true, 0, 0, 0, 8⟩ : RuleD)], RuleD.ok q := by
  intro q hq
  simp at hq
  subst hq
  exact ⟨vp_zero, by decide, by decide, by decide⟩
theorem sl_all {W : World} {b : Nat} (hb : b = W.heap.size) : Sl (W.alloc (.cells #[.bool true, .bool false, .int .u64 0, .int .u64 0, .int .i64 0, .int .i64 0, .int .i64 8] 113)) 7 (.slice (some ⟨b, 0, none⟩) 1 1) ([(⟨true, 0, 0, 0, 8⟩ : RuleD)].map ruleCells) :=
  sl_new (c := ruleCells ⟨true, 0, 0, 0, 8⟩) hb rfl


set_option maxRecDepth 100000 in
set_option maxHeartbeats 2000000 in
theorem passed_any (a : Option Addr) (cap : Nat) (rs : List RuleD) (n k : Nat) (w : World) (hs : Sl w 7 (.slice a rs.length cap) (rs.map ruleCells)) (hlen : rs.length ≤ 30) (hok : ∀ q ∈ rs, RuleD.ok q) (hp : VP false n k) :
    Calls Try.prog 29 #[.slice a rs.length cap, Value.agg #[.bool false, .int .u64 (hiOf false n), .int .u64 (loOf n), .int .i64 k]] w fun e w' => e = .returned (.tuple #[.bool (passY rs n k), .int .i64 (passI rs n k), .bool true]) ∧ Below w.heap.size w w' := by
  have HS := Lib.hid hs
  clear hs
  generalize hy : passY rs n k = y
  generalize hi : passI rs n k = i
  have C := Lib.hid (fun a cap w hs => (pass_pub a cap rs n k w hs hlen hok hp))
  rw [hy, hi] at C
  clear hy hi
  go_enter Try.func29, Try.ntmps29
  go_wp2_with fail
  go_region_law (first
    | (refine step_copy rfl (.tmp 14) 58 113 7 56 _ rfl eiRule _ _ rfl (HS.out.below (by (repeat' (first | (with_reducible exact Below.refl _ _) | (with_reducible assumption) | (with_reducible refine Below.al ?_ _) | (with_reducible refine Below.dr ?_) | (with_reducible refine Below.step ?_ (by assumption)) | (with_reducible refine Below.set ?_ ?_ _) | omega | (dsimp only; omega) | (simp; done) | (simp; omega))))) (by intro c hc; obtain ⟨r, _, rfl⟩ := List.mem_map.1 hc; exact ruleCells_one r) (by simp; omega) (by decide) ?_
       intro v1 w1 hown hb1
       (repeat (with_reducible (replace hb1 := Below.undrew hb1))); obtain ⟨hc1, hf1⟩ := bcell hb1; have hz1 := hb1.size; rw [World.size_alloc] at hz1
       obtain ⟨a1, cap1, rfl⟩ := hown.shape
       rw [List.length_map] at hown ⊢
       have HO := Lib.hid hown
       clear hown)
    | (go_simp; refine (C.out _ _ _ HO.out.sl).mono ?_; rintro e w2 ⟨rfl, hb2⟩; (repeat (with_reducible (replace hb2 := Below.undrew hb2))); obtain ⟨hc2, hf2⟩ := bcell hb2; have hz2 := hb2.size; (repeat (first | rw [World.size_alloc] at hz2 | rw [World.size_drew] at hz2 | rw [World.size_setCell] at hz2)); (try have : w.heap.size < w2.heap.size := by omega); (try have : w.heap.size < w2.heap.size + 1 := by omega); (try have : w.heap.size < w2.heap.size + 1 + 1 := by omega); (try have : w.heap.size < w2.heap.size + 1 + 1 + 1 := by omega); (try have : w1.heap.size < w2.heap.size := by omega); (try have : w1.heap.size < w2.heap.size + 1 := by omega); (try have : w1.heap.size < w2.heap.size + 1 + 1 := by omega); (try have : w1.heap.size < w2.heap.size + 1 + 1 + 1 := by omega)))
  all_goals go_wp2_with fail
  all_goals refine (pass_pub _ _ [⟨true, 0, 0, 0, 8⟩] 0 0 _ (sl_all (by simp)) (by simp) all_ok vp_zero).mono ?_
  all_goals rintro e w3 ⟨he, hb3⟩
  all_goals rw [one_yes, one_at] at he
  all_goals subst he
  all_goals go_wp2
  all_goals go_returns
  all_goals exact ⟨rfl, by (repeat' (first | (with_reducible exact Below.refl _ _) | (with_reducible assumption) | (with_reducible refine Below.al ?_ _) | (with_reducible refine Below.dr ?_) | (with_reducible refine Below.step ?_ (by assumption)) | (with_reducible refine Below.set ?_ ?_ _) | omega | (dsimp only; omega) | (simp; done) | (simp; omega)))⟩
end Go.Proofs.Yteadfobfenopkaa
