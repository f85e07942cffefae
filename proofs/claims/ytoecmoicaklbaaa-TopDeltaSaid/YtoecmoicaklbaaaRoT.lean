
/- whipcordtop's routesOf. -/
import Derived.Test.YtoecmoicaklbaaaRo
import Derived.Test.YtoecmoicaklbaaaLk
set_option linter.unusedVariables false
set_option linter.unusedSimpArgs false
namespace Go.Proofs.Ytoecmoicaklbaaa
open Go Go.RowKit Go.Sort Wc Wk


set_option maxRecDepth 100000 in
set_option maxHeartbeats 1000000 in
theorem routesTop_any (a : Option Addr) (cap n : Nat) (al : List ActD) (w : World) (hn : n = al.length) (hs : Sl w 9 (.slice a n cap) (al.map actCells)) (hl : al.length ≤ 100) (hok : ∀ x ∈ al, ActD.fit x) :
    Calls Try.prog 15 #[.slice a n cap] w (RetRts w (tend [] al)) := by
  subst hn
  have HS := Lib.hid hs
  have HOK := Lib.hid hok
  clear hs hok
  go_enter Try.func15, Try.ntmps15
  go_wp2_with (at_builtin; refine stop_at ?_; intro G hG)
  rw [← hG.out]; clear hG G
  refine wpList_append_any rfl _ _ 39 32 9 72 _ rfl eiAct (w.heap.size) _ ((([] : List ActD)).map actCells) rfl (Wk.Own.nil _ _ _ _) _ ((al).map actCells) rfl (HS.out) (by intro c hc; obtain ⟨r, _, rfl⟩ := List.mem_map.1 hc; exact actCells_one r) (by skip; first | omega | (simp; omega)) (by decide) (by first | omega | (simp; done) | (simp; omega)) ?_
  intro v1 w1 hown1 hb1
  rw [← List.map_append] at hown1
  obtain ⟨xs1, hxs1⟩ : ∃ x : List ActD, x = (([] : List ActD)) ++ (al) := ⟨_, rfl⟩
  rw [← hxs1] at hown1
  have hl1 : xs1.length = (([] : List ActD)).length + (al).length := by rw [hxs1, List.length_append]
  have HX1 := Lib.hid hxs1
  clear hxs1
  have HL1 := Lib.hid hl1
  clear hl1
  obtain ⟨a1, cap1, rfl⟩ := hown1.shape
  rw [List.length_map] at hown1 ⊢
  have HO1 := Lib.hid hown1
  clear hown1
  obtain ⟨hc1, hf1⟩ := bcellB hb1; have hz1 := hb1.size; (repeat (first | rw [World.size_alloc] at hz1 | rw [World.size_drew] at hz1 | rw [World.size_setCell] at hz1)); (try have : w.heap.size < w1.heap.size := by omega); (try have : w.heap.size < w1.heap.size + 1 := by omega); (try have : w.heap.size < w1.heap.size + 1 + 1 := by omega); (try have : w.heap.size < w1.heap.size + 1 + 1 + 1 := by omega)
  have hx := HX1.out
  rw [List.nil_append] at hx
  replace hx := hx.symm
  subst hx
  go_wp2_with fail
  refine (routes_any _ _ al _ HO1.out.sl hl HOK.out).mono ?_
  rintro e w2 ⟨v, rfl, HD, hb2⟩
  (repeat (with_reducible (replace hb2 := Below.undrew hb2))); obtain ⟨hc2, hf2⟩ := bcell hb2; have hz2 := hb2.size; (repeat (first | rw [World.size_alloc] at hz2 | rw [World.size_drew] at hz2 | rw [World.size_setCell] at hz2)); (try have : w.heap.size < w2.heap.size := by omega); (try have : w.heap.size < w2.heap.size + 1 := by omega); (try have : w.heap.size < w2.heap.size + 1 + 1 := by omega); (try have : w.heap.size < w2.heap.size + 1 + 1 + 1 := by omega); (try have : w1.heap.size < w2.heap.size := by omega); (try have : w1.heap.size < w2.heap.size + 1 := by omega); (try have : w1.heap.size < w2.heap.size + 1 + 1 := by omega); (try have : w1.heap.size < w2.heap.size + 1 + 1 + 1 := by omega)
  obtain ⟨va, vc, rfl⟩ := HD.shape
  have HD1 := Lib.hid HD
  have HW2 := Lib.hid (show Below w.heap.size w w2 by (repeat' (first | (with_reducible exact Below.refl _ _) | (with_reducible assumption) | (with_reducible refine Below.al ?_ _) | (with_reducible refine Below.dr ?_) | (with_reducible refine Below.step ?_ (by assumption)) | (with_reducible refine Below.set ?_ ?_ _) | omega | (dsimp only; omega) | (simp; done) | (simp; omega))))
  clear HD
  rw [List.length_map] at HD1 ⊢
  go_wp2_with fail
  have HJ := Lib.hid (sl_many (W := w2) (sz := 9) (n := 1) (xs := oneA.map actCells) (cs := #[.int .i64 1, .bool false, .int .u64 0, .int .u64 0, .int .i64 0, .int .i64 7, .bool false, .int .u64 0, .int .u64 0]) (E := 32) rfl (by intro c hc; obtain ⟨j, _, rfl⟩ := List.mem_map.1 hc; rfl) rfl rfl (by decide))
  refine (Routes_n _ _ _ oneA _ rfl HJ.out (by decide) oneA_fit).mono ?_
  rintro e w3 ⟨v2, rfl, HD2, hb3⟩
  clear HJ
  rw [oneA_end] at HD2
  obtain ⟨ua, uc, rfl⟩ := HD2.shape
  obtain ⟨g, gc, hv, hg1, hg2, _, _, _, hcells⟩ := HD2.at (by simp)
  simp only [Value.slice.injEq] at hv
  obtain ⟨rfl, _, rfl⟩ := hv
  have c1 := hcells 0 _ rfl 4 _ rfl
  have hb23 : Below w2.heap.size w2 w3 := ((Below.refl _ _).alloc (Nat.le_refl _) _).trans (hb3.mono (by simp))
  have HD3 := Lib.hid (HD1.out.below hb23)
  have HF := Lib.hid (HW2.out.trans (hb23.mono HW2.out.size))
  clear HD2 hcells hb23 hc1 hf1 hc2 hf2 HD1 HW2 hb3
  go_wp2_with fail
  go_quiet (fail)
  go_wp2
  go_returns
  exact ⟨_, rfl, (HD3.out.below (below_drewN (Below.refl _ _) _)).base hz1, HF.out.trans (below_drewN (Below.refl _ _) _)⟩
end Go.Proofs.Ytoecmoicaklbaaa
