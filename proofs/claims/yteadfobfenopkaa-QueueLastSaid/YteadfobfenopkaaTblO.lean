
/- Contracts of package table: only. -/
import Derived.Test.YteadfobfenopkaaTblP
set_option linter.unusedVariables false
namespace Go.Proofs.Yteadfobfenopkaa
open Go Go.RowKit Go.Sort Wc Wk

theorem ptr_nil {t : BT} (h : t.isNil = true) : t.ptr = none := by cases t with | nil => rfl | node => cases h
theorem ptr_node {t : BT} (h : t.isNil = false) : ∃ b, t.ptr = some (b, 0) := by cases t with | nil => cases h | node b => exact ⟨b, rfl⟩
set_option maxHeartbeats 1000000 in
theorem only_any (b n k h : Nat) (l r : BT) (w : World) (rt : BRep w (.node b n k h l r)) :
    Calls Try.prog 87 #[.pointer (some ⟨b, 0, none⟩)] w fun e w' => e = .returned (ptrV (BT.node b n k h l r).only.ptr) ∧ Below w.heap.size w w' := by
  obtain ⟨⟨ltb, d0, d1, d2, d3, d4, d5, d6, _⟩, _, _⟩ := rt
  rw [only_node]
  by_cases h0 : h = 0
  · subst h0
    rcases hl : l.isNil with _ | _
    · obtain ⟨x, hx⟩ := ptr_node hl
      rw [hx] at d5
      have D5 : w.cell? ⟨b, 5, none⟩ = some (.pointer (some ⟨x, 0, none⟩)) := d5
      rcases hr : r.isNil with _ | _
      · obtain ⟨y, hy⟩ := ptr_node hr
        rw [hy] at d6
        have D6 : w.cell? ⟨b, 6, none⟩ = some (.pointer (some ⟨y, 0, none⟩)) := d6
        rw [if_pos (.inr ⟨rfl, rfl⟩)]
        clear d5 d6 hl hr hx hy
        go_enter Try.func87, Try.ntmps87
        go_wp2
        go_returns
        exact ⟨rfl, by (repeat' (first | (with_reducible exact Below.refl _ _) | (with_reducible assumption) | (with_reducible refine Below.al ?_ _) | (with_reducible refine Below.dr ?_) | (with_reducible refine Below.step ?_ (by assumption)) | (with_reducible refine Below.set ?_ ?_ _) | omega | (dsimp only; omega) | (simp; done) | (simp; omega)))⟩
      · rw [ptr_nil hr] at d6
        have D6 : w.cell? ⟨b, 6, none⟩ = some (.pointer none) := d6
        rw [if_neg (by simp), if_pos rfl, hx]
        clear d5 d6 hl hr hx
        go_enter Try.func87, Try.ntmps87
        go_wp2
        go_returns
        exact ⟨rfl, by (repeat' (first | (with_reducible exact Below.refl _ _) | (with_reducible assumption) | (with_reducible refine Below.al ?_ _) | (with_reducible refine Below.dr ?_) | (with_reducible refine Below.step ?_ (by assumption)) | (with_reducible refine Below.set ?_ ?_ _) | omega | (dsimp only; omega) | (simp; done) | (simp; omega)))⟩
    · rw [ptr_nil hl] at d5
      have D5 : w.cell? ⟨b, 5, none⟩ = some (.pointer none) := d5
      rw [if_neg (by simp), if_neg (by simp)]
      rcases hr : r.isNil with _ | _
      · obtain ⟨y, hy⟩ := ptr_node hr
        rw [hy] at d6 ⊢
        have D6 : w.cell? ⟨b, 6, none⟩ = some (.pointer (some ⟨y, 0, none⟩)) := d6
        clear d5 d6 hl hr hy
        go_enter Try.func87, Try.ntmps87
        go_wp2
        go_returns
        exact ⟨rfl, by (repeat' (first | (with_reducible exact Below.refl _ _) | (with_reducible assumption) | (with_reducible refine Below.al ?_ _) | (with_reducible refine Below.dr ?_) | (with_reducible refine Below.step ?_ (by assumption)) | (with_reducible refine Below.set ?_ ?_ _) | omega | (dsimp only; omega) | (simp; done) | (simp; omega)))⟩
      · rw [ptr_nil hr] at d6 ⊢
        have D6 : w.cell? ⟨b, 6, none⟩ = some (.pointer none) := d6
        clear d5 d6 hl hr
        go_enter Try.func87, Try.ntmps87
        go_wp2
        go_returns
        exact ⟨rfl, by (repeat' (first | (with_reducible exact Below.refl _ _) | (with_reducible assumption) | (with_reducible refine Below.al ?_ _) | (with_reducible refine Below.dr ?_) | (with_reducible refine Below.step ?_ (by assumption)) | (with_reducible refine Below.set ?_ ?_ _) | omega | (dsimp only; omega) | (simp; done) | (simp; omega)))⟩
  · rw [if_pos (.inl h0)]
    have h0' : ((h : Int) == 0) = false := by rw [beq_eq_false_iff_ne]; omega
    have h0n : ¬ ((h : Int) = 0) := by omega
    clear d5 d6
    go_enter Try.func87, Try.ntmps87
    go_wp2
    go_returns
    exact ⟨rfl, by (repeat' (first | (with_reducible exact Below.refl _ _) | (with_reducible assumption) | (with_reducible refine Below.al ?_ _) | (with_reducible refine Below.dr ?_) | (with_reducible refine Below.step ?_ (by assumption)) | (with_reducible refine Below.set ?_ ?_ _) | omega | (dsimp only; omega) | (simp; done) | (simp; omega)))⟩
end Go.Proofs.Yteadfobfenopkaa
