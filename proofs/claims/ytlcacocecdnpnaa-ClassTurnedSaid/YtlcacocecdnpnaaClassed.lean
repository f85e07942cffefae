
/- Contract of classed: what matches say of a flow. -/
import Derived.Test.YtlcacocecdnpnaaClsM
import Derived.Test.YtlcacocecdnpnaaSl2
set_option linter.unusedVariables false
namespace Go.Proofs.Ytlcacocecdnpnaa
open Go.RowKit Go.Sort Wc Wk
theorem four_at : classI [⟨0, 0, 0, 0, 4⟩] 0 0 = 0 := by decide
theorem four_cls : classC [⟨0, 0, 0, 0, 4⟩] 0 0 = 4 := by decide
theorem four_ok : ∀ q ∈ [(⟨0, 0, 0, 0, 4⟩ : MatchD)], MatchD.ok q := by
  intro q hq
  simp at hq
  subst hq
  exact ⟨vp_zero, vp_zero, by decide, by decide⟩
theorem fits_zero : Fits false 0 := by unfold Fits wd; decide
theorem sl_four {W : World} {b : Nat} (hb : b = W.heap.size) : Sl (W.alloc (.cells #[.bool false, .int .u64 0, .int .u64 0, .int .i64 0, .bool false, .int .u64 0, .int .u64 0, .int .i64 0, .int .i64 4] 78)) 9 (.slice (some ⟨b, 0, none⟩) 1 1) ([(⟨0, 0, 0, 0, 4⟩ : MatchD)].map matchCells) :=
  sl_new (c := matchCells ⟨0, 0, 0, 0, 4⟩) hb rfl


set_option maxHeartbeats 1000000 in
theorem classed_any (a : Option Addr) (cap : Nat) (l : List MatchD) (n m : Nat) (w : World) (hs : Sl w 9 (.slice a l.length cap) (l.map matchCells)) (hlen : l.length ≤ 30) (hok : ∀ q ∈ l, MatchD.ok q) (hn : Fits false n) (hm : Fits false m) :
    Calls Try.prog 29 #[.slice a l.length cap, .agg #[.bool false, .int .u64 (hiOf false n), .int .u64 (loOf n), .bool false, .int .u64 (hiOf false m), .int .u64 (loOf m)]] w fun e w' => e = .returned (.tuple #[.int .i64 (classC l n m : Nat), .int .i64 (classI l n m), .bool true]) ∧ Below w.heap.size w w' := by
  have HS := Lib.hid hs
  clear hs
  generalize hy : classC l n m = y
  generalize hi : classI l n m = i
  have C := Lib.hid (fun a cap w hs => (cfind_any a cap l n m w hs hlen hok hn hm))
  rw [hy, hi] at C
  clear hy hi
  go_enter Try.func29, Try.ntmps29
  go_wp2_with fail
  go_region_law (first
    | (refine step_copy rfl (.tmp 14) 66 78 9 72 _ rfl eiMatch _ _ rfl (HS.out.below (by (repeat' (first | (with_reducible exact Below.refl _ _) | (with_reducible assumption) | (with_reducible refine Below.al ?_ _) | (with_reducible refine Below.dr ?_) | (with_reducible refine Below.step ?_ (by assumption)) | (with_reducible refine Below.set ?_ ?_ _) | omega | (dsimp only; omega) | (simp; done) | (simp; omega))))) (by intro c hc; obtain ⟨r, _, rfl⟩ := List.mem_map.1 hc; exact matchCells_one r) (by simp; omega) (by decide) ?_
       intro v1 w1 hown hb1
       (repeat (with_reducible (replace hb1 := Below.undrew hb1))); obtain ⟨hc1, hf1⟩ := bcell hb1; have hz1 := hb1.size; rw [World.size_alloc] at hz1
       obtain ⟨a1, cap1, rfl⟩ := hown.shape
       rw [List.length_map] at hown ⊢
       have HO := Lib.hid hown
       clear hown)
    | (go_simp; refine (C.out _ _ _ HO.out.sl).mono ?_; rintro e w2 ⟨rfl, hb2⟩; (repeat (with_reducible (replace hb2 := Below.undrew hb2))); obtain ⟨hc2, hf2⟩ := bcell hb2; have hz2 := hb2.size; (repeat (first | rw [World.size_alloc] at hz2 | rw [World.size_drew] at hz2 | rw [World.size_setCell] at hz2)); (try have : w.heap.size < w2.heap.size := by omega); (try have : w.heap.size < w2.heap.size + 1 := by omega); (try have : w.heap.size < w2.heap.size + 1 + 1 := by omega); (try have : w.heap.size < w2.heap.size + 1 + 1 + 1 := by omega); (try have : w1.heap.size < w2.heap.size := by omega); (try have : w1.heap.size < w2.heap.size + 1 := by omega); (try have : w1.heap.size < w2.heap.size + 1 + 1 := by omega); (try have : w1.heap.size < w2.heap.size + 1 + 1 + 1 := by omega)))
  all_goals go_wp2_with fail
  all_goals refine (cfind_any _ _ [⟨0, 0, 0, 0, 4⟩] 0 0 _ (sl_four (by simp)) (by simp) four_ok fits_zero fits_zero).mono ?_
  all_goals rintro e w3 ⟨he, hb3⟩
  all_goals rw [four_cls, four_at] at he
  all_goals subst he
  all_goals go_wp2
  all_goals go_returns
  all_goals exact ⟨rfl, by (repeat' (first | (with_reducible exact Below.refl _ _) | (with_reducible assumption) | (with_reducible refine Below.al ?_ _) | (with_reducible refine Below.dr ?_) | (with_reducible refine Below.step ?_ (by assumption)) | (with_reducible refine Below.set ?_ ?_ _) | omega | (dsimp only; omega) | (simp; done) | (simp; omega)))⟩
end Go.Proofs.Ytlcacocecdnpnaa
