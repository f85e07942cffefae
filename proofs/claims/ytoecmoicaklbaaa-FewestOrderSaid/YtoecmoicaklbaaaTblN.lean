
/- Contracts of package table: only. -/
import Derived.Test.YtoecmoicaklbaaaTblP
set_option linter.unusedVariables false
namespace Go.Proofs.Ytoecmoicaklbaaa
open Go Go.RowKit Go.Sort Wc Wk

theorem ptr_nil {t : BT} (h : t.isNil = true) : t.ptr = none := by cases t with | nil => rfl | node => cases h
theorem ptr_node {t : BT} (h : t.isNil = false) : ∃ b, t.ptr = some (b, 0) := by cases t with | nil => cases h | node b => exact ⟨b, rfl⟩
set_option maxHeartbeats 1000000 in
theorem only_any (b n k h : Nat) (l r : BT) (w : World) (rt : BRep w (.node b n k h l r)) :
    Calls Try.prog 121 #[.pointer (some ⟨b, 0, none⟩)] w fun e w' => e = .returned (ptrV (BT.node b n k h l r).only.ptr) ∧ Below w.heap.size w w' := by
  obtain ⟨⟨ltb, d0, d1, d2, d3, d4, d5, d6, _⟩, _, _⟩ := rt
  rw [only_node]
  by_cases h0 : h = 0
  · subst h0
    rcases hl : l.isNil with _ | _
    · obtain ⟨x, hx⟩ := ptr_node hl
      rw [hx] at d5
      have D5 : w.cell? ⟨b, 5, none⟩ = some (.pointer (some ⟨x, 0, none⟩)) := d5
      rcases hr : r.isNil with _ | _
      · obtain ⟨y, hy⟩ := ptr_node hr
        rw [hy] at d6
        have D6 : w.cell? ⟨b, 6, none⟩ = some (.pointer (some ⟨y, 0, none⟩)) := d6
        rw [if_pos (.inr ⟨rfl, rfl⟩)]
        clear d5 d6 hl hr hx hy
        go_enter Try.func121, Try.ntmps121
        go_wp2
        go_returns
        exact ⟨rfl, by (repeat' (first | (with_reducible exact Below.refl _ _) | (with_reducible assumption) | (with_reducible refine Below.al ?_ _) | (with_reducible refine Below.dr ?_) | (with_reducible refine Below.step ?_ (by assumption)) | (with_reducible refine Below.set ?_ ?_ _) | omega | (dsimp only; omega) | (simp; done) | (simp; omega)))⟩
      · rw [ptr_nil hr] at d6
        have D6 : w.cell? ⟨b, 6, none⟩ = some (.pointer none) := d6
        rw [if_neg (by simp), if_pos rfl, hx]
        clear d5 d6 hl hr hx
        go_enter Try.func121, Try.ntmps121
        go_wp2
        go_returns
        exact ⟨rfl, by (repeat' (first | (with_reducible exact Below.refl _ _) | (with_reducible assumption) | (with_reducible refine Below.al ?_ _) | (with_reducible refine Below.dr ?_) | (with_reducible refine Below.step ?_ (by assumption)) | (with_reducible refine Below.set ?_ ?_ _) | omega | (dsimp only; omega) | (simp; done) | (simp; omega)))⟩
    · rw [ptr_nil hl] at d5
      have D5 : w.cell? ⟨b, 5, none⟩ = some (.pointer none) := d5
      rw [if_neg (by simp), if_neg (by simp)]
      rcases hr : r.isNil with _ | _
      · obtain ⟨y, hy⟩ := ptr_node hr
        rw [hy] at d6 ⊢
        have D6 : w.cell? ⟨b, 6, none⟩ = some (.pointer (some ⟨y, 0, none⟩)) := d6
        clear d5 d6 hl hr hy
        go_enter Try.func121, Try.ntmps121
        go_wp2
        go_returns
        exact ⟨rfl, by (repeat' (first | (with_reducible exact Below.refl _ _) | (with_reducible assumption) | (with_reducible refine Below.al ?_ _) | (with_reducible refine Below.dr ?_) | (with_reducible refine Below.step ?_ (by assumption)) | (with_reducible refine Below.set ?_ ?_ _) | omega | (dsimp only; omega) | (simp; done) | (simp; omega)))⟩
      · rw [ptr_nil hr] at d6 ⊢
        have D6 : w.cell? ⟨b, 6, none⟩ = some (.pointer none) := d6
        clear d5 d6 hl hr
        go_enter Try.func121, Try.ntmps121
        go_wp2
        go_returns
        exact ⟨rfl, by (repeat' (first | (with_reducible exact Below.refl _ _) | (with_reducible assumption) | (with_reducible refine Below.al ?_ _) | (with_reducible refine Below.dr ?_) | (with_reducible refine Below.step ?_ (by assumption)) | (with_reducible refine Below.set ?_ ?_ _) | omega | (dsimp only; omega) | (simp; done) | (simp; omega)))⟩
  · rw [if_pos (.inl h0)]
    have h0' : ((h : Int) == 0) = false := by rw [beq_eq_false_iff_ne]; omega
    have h0n : ¬ ((h : Int) = 0) := by omega
    clear d5 d6
    go_enter Try.func121, Try.ntmps121
    go_wp2
    go_returns
    exact ⟨rfl, by (repeat' (first | (with_reducible exact Below.refl _ _) | (with_reducible assumption) | (with_reducible refine Below.al ?_ _) | (with_reducible refine Below.dr ?_) | (with_reducible refine Below.step ?_ (by assumption)) | (with_reducible refine Below.set ?_ ?_ _) | omega | (dsimp only; omega) | (simp; done) | (simp; omega)))⟩
end Go.Proofs.Ytoecmoicaklbaaa

/- Contracts of package table: Look's note. -/
set_option linter.unusedVariables false
namespace Go.Proofs.Ytoecmoicaklbaaa
open Go Go.RowKit Go.Sort Wc Wk

/-- The box of an answer. -/
structure Box (w : World) (o hop len : Nat) : Prop where
  lt : o < w.heap.size
  c0 : w.cell? ⟨o, 0, none⟩ = some (.int .i64 0)
  c1 : w.cell? ⟨o, 1, none⟩ = some (.int .i64 hop)
  c2 : w.cell? ⟨o, 2, none⟩ = some (.int .i64 len)
  f0 : w.frozen? ⟨o, 0, none⟩ = false
  f1 : w.frozen? ⟨o, 1, none⟩ = false
  f2 : w.frozen? ⟨o, 2, none⟩ = false
theorem Box.below {w w' : World} {o p q : Nat} (h : Box w o p q) (hb : Below w.heap.size w w') : Box w' o p q :=
  ⟨Nat.lt_of_lt_of_le h.lt hb.size, (hb.cell (p := ⟨o, 0, none⟩) h.lt).trans h.c0, (hb.cell (p := ⟨o, 1, none⟩) h.lt).trans h.c1, (hb.cell (p := ⟨o, 2, none⟩) h.lt).trans h.c2, (hb.frozen (p := ⟨o, 0, none⟩) h.lt).trans h.f0, (hb.frozen (p := ⟨o, 1, none⟩) h.lt).trans h.f1, (hb.frozen (p := ⟨o, 2, none⟩) h.lt).trans h.f2⟩
theorem Box.one {w : World} {o p q : Nat} (h : Box w o p q) (x : Nat) (u : Value) : Chg w (w.setCell ⟨o, x, none⟩ u) (fun k _ => k = o) := chg_blk w o x u
theorem Box.set0 {w : World} {o p q : Nat} (h : Box w o p q) : Box (w.setCell ⟨o, 0, none⟩ (.int .i64 0)) o p q := by
  have s := chg_set w o 0 (.int .i64 0)
  exact ⟨Nat.lt_of_lt_of_le h.lt s.size, World.cell?_setCell_same _ _ _ h.c0, (s.cell _ _ h.lt (fun h => absurd h.2 (by decide))).trans h.c1, (s.cell _ _ h.lt (fun h => absurd h.2 (by decide))).trans h.c2, (s.froz _ _ h.lt).trans h.f0, (s.froz _ _ h.lt).trans h.f1, (s.froz _ _ h.lt).trans h.f2⟩
theorem Box.set1 {w : World} {o p q : Nat} (h : Box w o p q) (p' : Nat) : Box (w.setCell ⟨o, 1, none⟩ (.int .i64 p')) o p' q := by
  have s := chg_set w o 1 (.int .i64 p')
  exact ⟨Nat.lt_of_lt_of_le h.lt s.size, (s.cell _ _ h.lt (fun h => absurd h.2 (by decide))).trans h.c0, World.cell?_setCell_same _ _ _ h.c1, (s.cell _ _ h.lt (fun h => absurd h.2 (by decide))).trans h.c2, (s.froz _ _ h.lt).trans h.f0, (s.froz _ _ h.lt).trans h.f1, (s.froz _ _ h.lt).trans h.f2⟩
theorem Box.set2 {w : World} {o p q : Nat} (h : Box w o p q) (q' : Nat) : Box (w.setCell ⟨o, 2, none⟩ (.int .i64 q')) o p q' := by
  have s := chg_set w o 2 (.int .i64 q')
  exact ⟨Nat.lt_of_lt_of_le h.lt s.size, (s.cell _ _ h.lt (fun h => absurd h.2 (by decide))).trans h.c0, (s.cell _ _ h.lt (fun h => absurd h.2 (by decide))).trans h.c1, World.cell?_setCell_same _ _ _ h.c2, (s.froz _ _ h.lt).trans h.f0, (s.froz _ _ h.lt).trans h.f1, (s.froz _ _ h.lt).trans h.f2⟩
set_option maxHeartbeats 1000000 in
theorem note_any (b n k h o hop len : Nat) (pl pr : Option (Nat × Nat)) (w : World) (a : TN w b n k h pl pr) (bx : Box w o hop len) (hne : b ≠ o) :
    Calls Try.prog 86 #[.pointer (some ⟨b, 0, none⟩), .pointer (some ⟨o, 0, none⟩)] w fun e w' => e = .returned (.tuple #[]) ∧ Box w' o (if h = 0 then hop else h) (if h = 0 then len else k) ∧ Chg w w' (fun x _ => x = o) := by
  have HB := Lib.hid bx
  obtain ⟨ltb, d0, d1, d2, d3, d4, d5, d6, _⟩ := a
  obtain ⟨lto, e0, e1, e2, z0, z1, z2⟩ := bx
  clear d5 d6
  by_cases h0 : h = 0
  · rw [if_pos h0, if_pos h0]
    subst h0
    go_enter Try.func86, Try.ntmps86
    go_wp2
    go_returns
    exact ⟨rfl, HB.out, Chg.refl _ _⟩
  · rw [if_neg h0, if_neg h0]
    have h0' : ((h : Int) == 0) = false := by rw [beq_eq_false_iff_ne]; omega
    have h0n : ¬ ((h : Int) = 0) := by omega
    go_enter Try.func86, Try.ntmps86
    go_wp2_with fail
    go_region
    all_goals go_wp2_with fail
    all_goals go_end0
    have B1 := HB.out.set0
    have B2 := B1.set1 0
    have B3 := B2.set2 0
    have B4 := B3.set1 h
    have B5 := B4.set2 k
    have c := ((((chg_blk w o 0 (.int .i64 0)).trans (B1.one 1 (.int .i64 ((0 : Nat) : Int))) (fun _ _ _ h => h)).trans (B2.one 2 (.int .i64 ((0 : Nat) : Int))) (fun _ _ _ h => h)).trans (B3.one 1 (.int .i64 h)) (fun _ _ _ h => h)).trans (B4.one 2 (.int .i64 k)) (fun _ _ _ h => h)
    exact ⟨rfl, B5.below (Below.drew (Below.refl _ _)), c.trans (Chg.of_below (Below.drew (Below.refl _ _)) (fun x (_ : Nat) => x = o)) (fun _ _ _ h => h)⟩
end Go.Proofs.Ytoecmoicaklbaaa
