
/- Contracts of package table: Get. -/
import Derived.Test.YteadfobfenopkaaTblC
import Derived.Test.YteadfobfenopkaaTbl0
set_option linter.unusedVariables false
namespace Go.Proofs.Yteadfobfenopkaa
open Go Go.RowKit Go.Sort Wc Wk

/-- What a list has at a prefix; 0: nothing. -/
def Has (L : List (Nat × Nat × Nat)) (n k h : Nat) : Prop := ∀ h', h' ≠ 0 → ((n, k, h') ∈ L ↔ h = h')
theorem has_unique {L : List (Nat × Nat × Nat)} {n k h h' : Nat} (a : Has L n k h) (b : Has L n k h') : h = h' := by
  by_cases h0 : h = 0
  · by_cases h1 : h' = 0
    · rw [h0, h1]
    · exact (a h' h1).1 ((b h' h1).2 rfl)
  · exact ((b h h0).1 ((a h h0).2 rfl)).symm


set_option maxRecDepth 100000 in
set_option maxHeartbeats 2000000 in
theorem get_any (tb cnt n k : Nat) (T : BT) (w : World) (ht : TabR w tb T cnt) (hw : T.wf) (hp : VP false n k) :
    Calls Try.prog 66 #[.pointer (some ⟨tb, 0, none⟩), Value.agg #[.bool false, .int .u64 (hiOf false n), .int .u64 (loOf n), .int .i64 k]] w fun e w' => (∃ h : Nat, e = .returned (.int .i64 h) ∧ Has T.list n k h) ∧ Below w.heap.size w w' := by
  have HT := Lib.hid ht
  have PL := Lib.hid (fun w ht => place_nil tb cnt n k T w ht hw hp)
  have HW := Lib.hid hw
  have HP := Lib.hid hp
  clear ht hw hp
  go_enter Try.func66, Try.ntmps66
  go_wp2_with fail
  refine (PL.out _ (HT.out.below (by (repeat' (first | (with_reducible exact Below.refl _ _) | (with_reducible assumption) | (with_reducible refine Below.alloc ?_ ?_ _) | (with_reducible refine Below.drew ?_) | (with_reducible refine Below.stepG ?_ (by assumption) ?_) | (with_reducible refine Below.setCell ?_ ?_ _) | omega | (dsimp only; omega) | (simp; done) | (simp; omega)))))).mono ?_
  rintro e w1 ⟨c, t, hc, ho, hs, rfl, hb1⟩; (repeat (with_reducible (replace hb1 := Below.undrew hb1))); obtain ⟨hc1, hf1⟩ := bcell hb1; have hz1 := hb1.size; (repeat (first | rw [World.size_alloc] at hz1 | rw [World.size_drew] at hz1 | rw [World.size_setCell] at hz1)); (try have : w.heap.size < w1.heap.size := by omega); (try have : w.heap.size < w1.heap.size + 1 := by omega); (try have : w.heap.size < w1.heap.size + 1 + 1 := by omega); (try have : w.heap.size < w1.heap.size + 1 + 1 + 1 := by omega)
  have F0 : w1.cell? ⟨w.heap.size, 0, none⟩ = some (.bool false) := by rw [hc1 _ _ (by simp)]; simp
  have F1 : w1.cell? ⟨w.heap.size, 1, none⟩ = some (.int .u64 (hiOf false n)) := by rw [hc1 _ _ (by simp)]; simp
  have F2 : w1.cell? ⟨w.heap.size, 2, none⟩ = some (.int .u64 (loOf n)) := by rw [hc1 _ _ (by simp)]; simp
  have F3 : w1.cell? ⟨w.heap.size, 3, none⟩ = some (.int .i64 k) := by rw [hc1 _ _ (by simp)]; simp
  have TT := HT.out.below (w' := w1) (by (repeat' (first | (with_reducible exact Below.refl _ _) | (with_reducible assumption) | (with_reducible refine Below.alloc ?_ ?_ _) | (with_reducible refine Below.drew ?_) | (with_reducible refine Below.stepG ?_ (by assumption) ?_) | (with_reducible refine Below.setCell ?_ ?_ _) | omega | (dsimp only; omega) | (simp; done) | (simp; omega))))
  rw [hc] at TT
  obtain ⟨t1, t2, t3⟩ := tab_plug.1 TT
  obtain ⟨sl, sc, _⟩ := t1.at_slot
  have hwp : (plug c t).wf := by rw [← hc]; exact HW.out
  have hwt := (plug_wf hwp).1
  have GS := Lib.hid (fun h hh => get_says hwp ho HP.out hs h hh)
  rw [← hc] at GS
  have HBB : Below w.heap.size w w1 := by (repeat' (first | (with_reducible exact Below.refl _ _) | (with_reducible assumption) | (with_reducible refine Below.alloc ?_ ?_ _) | (with_reducible refine Below.drew ?_) | (with_reducible refine Below.stepG ?_ (by assumption) ?_) | (with_reducible refine Below.setCell ?_ ?_ _) | omega | (dsimp only; omega) | (simp; done) | (simp; omega)))
  clear TT t1 t3 hc1 hf1 hc hwp HT PL hb1 ho
  generalize slotB tb c = sb at *
  generalize slotO c = so at *
  cases t with
  | nil =>
    have sc' : w1.cell? ⟨sb, so, none⟩ = some (.pointer none) := sc
    clear sc
    go_wp2_with fail
    refine wp_region_qb (by kernel_rfl) (by kernel_rfl) (fun kq => ?_)
    repeat (quiet_step (fail))
    clear kq
    refine wpQuiet_nil ?_; intro w2 hb2; (repeat (with_reducible (replace hb2 := Below.undrew hb2))); obtain ⟨hc2, hf2⟩ := bcell hb2; have hz2 := hb2.size; (repeat (first | rw [World.size_alloc] at hz2 | rw [World.size_drew] at hz2 | rw [World.size_setCell] at hz2)); (try have : w.heap.size < w2.heap.size := by omega); (try have : w.heap.size < w2.heap.size + 1 := by omega); (try have : w.heap.size < w2.heap.size + 1 + 1 := by omega); (try have : w.heap.size < w2.heap.size + 1 + 1 + 1 := by omega); (try have : w1.heap.size < w2.heap.size := by omega); (try have : w1.heap.size < w2.heap.size + 1 := by omega); (try have : w1.heap.size < w2.heap.size + 1 + 1 := by omega); (try have : w1.heap.size < w2.heap.size + 1 + 1 + 1 := by omega)
    go_wp2
    go_returns
    exact ⟨⟨0, rfl, fun h hh => by rw [GS.out h hh]; rfl⟩, by (repeat' (first | (with_reducible exact Below.refl _ _) | (with_reducible assumption) | (with_reducible refine Below.alloc ?_ ?_ _) | (with_reducible refine Below.drew ?_) | (with_reducible refine Below.stepG ?_ (by assumption) ?_) | (with_reducible refine Below.setCell ?_ ?_ _) | omega | (dsimp only; omega) | (simp; done) | (simp; omega)))⟩
  | node b n' k' h l r =>
    have sc' : w1.cell? ⟨sb, so, none⟩ = some (.pointer (some ⟨b, 0, none⟩)) := sc
    clear sc
    obtain ⟨⟨ltb, d0, d1, d2, d3, d4, d5, d6, _⟩, _, _⟩ := t2
    by_cases hex : n' = n ∧ k' = k
    · obtain ⟨rfl, rfl⟩ := hex
      go_wp2_with fail
      refine wp_region_qb (by kernel_rfl) (by kernel_rfl) (fun kq => ?_)
      repeat (quiet_step (fail))
      clear kq
      refine wpQuiet_nil ?_; intro w2 hb2; (repeat (with_reducible (replace hb2 := Below.undrew hb2))); obtain ⟨hc2, hf2⟩ := bcell hb2; have hz2 := hb2.size; (repeat (first | rw [World.size_alloc] at hz2 | rw [World.size_drew] at hz2 | rw [World.size_setCell] at hz2)); (try have : w.heap.size < w2.heap.size := by omega); (try have : w.heap.size < w2.heap.size + 1 := by omega); (try have : w.heap.size < w2.heap.size + 1 + 1 := by omega); (try have : w.heap.size < w2.heap.size + 1 + 1 + 1 := by omega); (try have : w1.heap.size < w2.heap.size := by omega); (try have : w1.heap.size < w2.heap.size + 1 := by omega); (try have : w1.heap.size < w2.heap.size + 1 + 1 := by omega); (try have : w1.heap.size < w2.heap.size + 1 + 1 + 1 := by omega)
      have d4' := (hc2 b 4 ltb).trans d4
      clear hc2 hf2
      go_wp2
      go_returns
      exact ⟨⟨h, rfl, fun h' hh => by rw [GS.out h' hh]; simp [exactH]⟩, by (repeat' (first | (with_reducible exact Below.refl _ _) | (with_reducible assumption) | (with_reducible refine Below.alloc ?_ ?_ _) | (with_reducible refine Below.drew ?_) | (with_reducible refine Below.stepG ?_ (by assumption) ?_) | (with_reducible refine Below.setCell ?_ ?_ _) | omega | (dsimp only; omega) | (simp; done) | (simp; omega)))⟩
    · have hE : exactH (.node b n' k' h l r) n k = 0 := by simp [exactH, hex]
      rw [hE] at GS
      by_cases hkk : k' = k
      · have hne : ¬ n' = n := fun e => hex ⟨e, hkk⟩
        have hl : ¬ loOf n' = loOf n := fun e => hne (by
          rw [loOf_false hwt.1.1, loOf_false HP.out.1] at e
          omega)
        subst hkk
        clear hex hne
        go_wp2_with fail
        refine wp_region_qb (by kernel_rfl) (by kernel_rfl) (fun kq => ?_)
        repeat (quiet_step (fail))
        clear kq
        refine wpQuiet_nil ?_; intro w2 hb2; (repeat (with_reducible (replace hb2 := Below.undrew hb2))); obtain ⟨hc2, hf2⟩ := bcell hb2; have hz2 := hb2.size; (repeat (first | rw [World.size_alloc] at hz2 | rw [World.size_drew] at hz2 | rw [World.size_setCell] at hz2)); (try have : w.heap.size < w2.heap.size := by omega); (try have : w.heap.size < w2.heap.size + 1 := by omega); (try have : w.heap.size < w2.heap.size + 1 + 1 := by omega); (try have : w.heap.size < w2.heap.size + 1 + 1 + 1 := by omega); (try have : w1.heap.size < w2.heap.size := by omega); (try have : w1.heap.size < w2.heap.size + 1 := by omega); (try have : w1.heap.size < w2.heap.size + 1 + 1 := by omega); (try have : w1.heap.size < w2.heap.size + 1 + 1 + 1 := by omega)
        go_wp2
        go_returns
        exact ⟨⟨0, rfl, GS.out⟩, by (repeat' (first | (with_reducible exact Below.refl _ _) | (with_reducible assumption) | (with_reducible refine Below.alloc ?_ ?_ _) | (with_reducible refine Below.drew ?_) | (with_reducible refine Below.stepG ?_ (by assumption) ?_) | (with_reducible refine Below.setCell ?_ ?_ _) | omega | (dsimp only; omega) | (simp; done) | (simp; omega)))⟩
      · have hki : ¬ ((k' : Int) = k) := by omega
        clear hex
        go_wp2_with fail
        refine wp_region_qb (by kernel_rfl) (by kernel_rfl) (fun kq => ?_)
        repeat (quiet_step (fail))
        clear kq
        refine wpQuiet_nil ?_; intro w2 hb2; (repeat (with_reducible (replace hb2 := Below.undrew hb2))); obtain ⟨hc2, hf2⟩ := bcell hb2; have hz2 := hb2.size; (repeat (first | rw [World.size_alloc] at hz2 | rw [World.size_drew] at hz2 | rw [World.size_setCell] at hz2)); (try have : w.heap.size < w2.heap.size := by omega); (try have : w.heap.size < w2.heap.size + 1 := by omega); (try have : w.heap.size < w2.heap.size + 1 + 1 := by omega); (try have : w.heap.size < w2.heap.size + 1 + 1 + 1 := by omega); (try have : w1.heap.size < w2.heap.size := by omega); (try have : w1.heap.size < w2.heap.size + 1 := by omega); (try have : w1.heap.size < w2.heap.size + 1 + 1 := by omega); (try have : w1.heap.size < w2.heap.size + 1 + 1 + 1 := by omega)
        go_wp2
        go_returns
        exact ⟨⟨0, rfl, GS.out⟩, by (repeat' (first | (with_reducible exact Below.refl _ _) | (with_reducible assumption) | (with_reducible refine Below.alloc ?_ ?_ _) | (with_reducible refine Below.drew ?_) | (with_reducible refine Below.stepG ?_ (by assumption) ?_) | (with_reducible refine Below.setCell ?_ ?_ _) | omega | (dsimp only; omega) | (simp; done) | (simp; omega)))⟩
end Go.Proofs.Yteadfobfenopkaa
