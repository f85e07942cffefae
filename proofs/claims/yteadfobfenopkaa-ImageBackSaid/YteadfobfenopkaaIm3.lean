
/- Contracts of package image: the reader of bytes. -/
import Derived.Test.YteadfobfenopkaaILong
import Derived.Test.YteadfobfenopkaaPrM
set_option linter.unusedVariables false
set_option linter.unusedSimpArgs false
namespace Go.Proofs.Yteadfobfenopkaa
open Go Go.RowKit Go.Sort Wc Wk

theorem grown_put (w : World) (b i : Nat) (v : Value) : w.grownBy (w.setCell ⟨b, i, none⟩ v) (some b) :=
  ⟨rfl, rfl, rfl, by simp [World.setCell], fun k _ hk => Below.heap_setCell _ _ _ _ (fun e => hk (by simp [e]))⟩
/-- So many values in a block. -/
structure BxN (w : World) (G k : Nat) (vs : Nat → Value) : Prop where
  lt : G < w.heap.size
  c : ∀ n, n < k → w.cell? ⟨G, n, none⟩ = some (vs n)
  fz : ∀ n, n < k → w.frozen? ⟨G, n, none⟩ = false
theorem BxN.kept {w w' : World} {G k : Nat} {vs : Nat → Value} (h : BxN w G k vs) (hs : w.heap.size ≤ w'.heap.size) (e : w'.heap[G]? = w.heap[G]?) : BxN w' G k vs :=
  ⟨Nat.lt_of_lt_of_le h.lt hs, fun n hn => (World.cell?_of_block (a := ⟨G, n, none⟩) e).trans (h.c n hn), fun n hn => (World.frozen?_of_block (a := ⟨G, n, none⟩) e).trans (h.fz n hn)⟩
theorem BxN.cast {w : World} {G k : Nat} {vs vs' : Nat → Value} (h : BxN w G k vs) (e : ∀ n, n < k → vs n = vs' n) : BxN w G k vs' := ⟨h.lt, fun n hn => by rw [← e n hn]; exact h.c n hn, h.fz⟩
theorem BxN.set {w : World} {G k : Nat} {vs : Nat → Value} (h : BxN w G k vs) {n : Nat} (hn : n < k) (v : Value) : BxN (w.setCell ⟨G, n, none⟩ v) G k (up vs n v) := by
  have s0 := chg_set w G n v
  refine ⟨Nat.lt_of_lt_of_le h.lt s0.size, fun m hm => ?_, fun m hm => (s0.froz _ _ h.lt).trans (h.fz m hm)⟩
  by_cases e : m = n
  · subst e
    rw [up_same]
    exact World.cell?_setCell_same _ _ _ (h.c m hm)
  · rw [up_other _ _ e]
    exact (s0.cell _ _ h.lt (fun g => e g.2)).trans (h.c m hm)
/-- A reader of bytes at R: what is left, and whether it went bad. -/
structure Rdr (w : World) (R : Nat) (l : List Nat) (bad : Bool) : Prop where
  lt : R < w.heap.size
  b : ∃ a c, BxN w R 2 (fun n => if n = 0 then .slice a l.length c else .bool bad) ∧ Sl w 1 (.slice a l.length c) (l.map byteCells) ∧ ∀ x, a = some x → x.block < R
theorem BxN.below' {w w' : World} {G k B : Nat} {vs : Nat → Value} (h : BxN w G k vs) (hb : Below B w w') (hB : G < B) : BxN w' G k vs := h.kept hb.size (hb.block G hB)
theorem Rdr.below' {w w' : World} {R B : Nat} {l : List Nat} {bad : Bool} (h : Rdr w R l bad) (hb : Below B w w') (hR : R < B) : Rdr w' R l bad := by
  obtain ⟨a, c, h1, h2, h3⟩ := h.b
  exact ⟨Nat.lt_of_lt_of_le h.lt hb.size, a, c, h1.below' hb hR, h2.below' hb (fun x hx => Nat.lt_trans (h3 x hx) hR), h3⟩
theorem run_byte_drop (g off n c : Nat) (h1 : 1 ≤ n) (h2 : n ≤ c) (h3 : c ≤ 9223372036854775807) (hne : c ≠ 1) (W : World) : (Instr.slice 64 (.slice (some ⟨g, off, none⟩) n c) (some (.int .i64 1)) none none).run Try.prog W = .ok (.slice (some ⟨g, off + 1, none⟩) (n - 1) (c - 1)) W := by
  have h4 : 1 ≤ c := by omega
  go_simp
  intro h; omega
theorem run_byte_end (g off : Nat) (W : World) : (Instr.slice 64 (.slice (some ⟨g, off, none⟩) 1 1) (some (.int .i64 1)) none none).run Try.prog W = .ok (.slice (some ⟨g, off, none⟩) 0 0) W := by
  go_simp
/-- The next byte of a reader; nought where there is none, and it is bad. -/
theorem take_any (R : Nat) (l : List Nat) (bad : Bool) (w : World) (h : Rdr w R l bad) (h256 : ∀ x ∈ l, x < 256) :
    Calls Try.prog 53 #[.pointer (some ⟨R, 0, none⟩)] w fun e w' => e = .returned (.int .i64 (l.headD 0)) ∧ Rdr w' R l.tail (bad || l.isEmpty) ∧ w.grownBy w' (some R) := by
  obtain ⟨a, c, h1, h2, h3⟩ := h.b
  have hlt := h.lt
  have c0 := h1.c 0 (by decide)
  have c1 := h1.c 1 (by decide)
  have f0 := h1.fz 0 (by decide)
  have f1 := h1.fz 1 (by decide)
  have hl := h2.lens.2.1
  have hc := h2.lens.2.2
  simp only [if_pos, if_neg (show ¬ (1 : Nat) = 0 by decide)] at c0 c1
  have HX := Lib.hid h1
  have HS := Lib.hid h2
  have H3 := Lib.hid h3
  clear h1 h2 h3 h
  cases l with
  | nil =>
    go_enter Try.func53, Try.ntmps53
    go_wp2_with fail
    go_returns
    refine ⟨rfl, ⟨by simpa [World.setCell] using hlt, a, c, ?_, HS.out.below' (B := R) (Below.setCell (Below.refl R w) (Nat.le_refl R) (p := ⟨R, 1, none⟩) (.bool true)) H3.out, H3.out⟩, grown_put _ _ _ _⟩
    refine (HX.out.set (n := 1) (by decide) (.bool true)).cast (fun n hn => ?_)
    match n, hn with
    | 0, _ => rfl
    | 1, _ => simp [up]
  | cons x l =>
    have hx := h256 x List.mem_cons_self
    obtain ⟨b, off, rfl, hb, d0⟩ := Sl.byte HS.out (Below.refl _ _) (i := 0) (r := x) rfl
    rw [Nat.add_zero] at d0
    have hbR : b < R := H3.out _ rfl
    have hbR2 : b ≠ R := by omega
    have hcase : ∃ a2 c2, (∀ W : World, (Instr.slice 64 (.slice (some ⟨b, off, none⟩) (x :: l).length c) (some (.int .i64 1)) none none).run Try.prog W = .ok (.slice a2 l.length c2) W) ∧ Sl w 1 (.slice a2 l.length c2) (l.map byteCells) ∧ ∀ x, a2 = some x → x.block < R := by
      rcases HS.out.behind 1 (by simp) with ⟨e1, e2, _, hs'⟩ | ⟨hne, hs'⟩
      · have el : l.length = 0 := by simpa using e2
        refine ⟨some ⟨b, off, none⟩, 0, fun W => ?_, ?_, fun x hx => by cases hx; exact hbR⟩
        · rw [e1, e2, el]
          exact run_byte_end b off W
        · rw [el]; exact hs'
      · refine ⟨some ⟨b, off + 1, none⟩, c - 1, fun W => ?_, ?_, fun x hx => by cases hx; exact hbR⟩
        · have := run_byte_drop b off (x :: l).length c (by simp) hl hc hne W
          rw [show (x :: l).length - 1 = l.length by simp] at this
          exact this
        · rw [show (x :: l).length - 1 = l.length by simp] at hs'
          exact hs'
    obtain ⟨a2, c2, hrun, hs2, h32⟩ := hcase
    have HS2 := Lib.hid hs2
    have H32 := Lib.hid h32
    obtain ⟨n, hn⟩ : ∃ n, n = (x :: l).length := ⟨_, rfl⟩
    have hn1 : 1 ≤ n := by rw [hn]; simp
    have hz1 : ((n : Int) == 0) = false := by rw [beq_eq_false_iff_ne]; omega
    rw [← hn] at c0 hrun hl
    have HN := Lib.hid hn
    obtain ⟨m, hm⟩ : ∃ m, m = l.length := ⟨_, rfl⟩
    rw [← hm] at hrun HS2
    have HM := Lib.hid hm
    clear hs2 h32 hn hm h256
    go_enter Try.func53, Try.ntmps53
    go_wp2_with fail
    go_returns
    refine ⟨by simp, ⟨by simpa [World.setCell] using hlt, a2, c2, ?_, ?_, H32.out⟩, grown_put _ _ _ _⟩
    · refine (HX.out.set (n := 0) (by decide) (.slice a2 m c2)).cast (fun n hn => ?_)
      match n, hn with
      | 0, _ => simp [up, HM.out]
      | 1, _ => simp [up]
    · have := HS2.out.below' (B := R) (Below.setCell (Below.refl R w) (Nat.le_refl R) (p := ⟨R, 0, none⟩) (.slice a2 m c2)) H32.out
      rw [HM.out] at this
      rw [HM.out]
      exact this
/-- The reader behind c of its bytes. -/
def RdAt (w : World) (R : Nat) (l : List Nat) (bad : Bool) (c : Nat) : Prop := Rdr w R (l.drop c) (bad || decide (l.length < c))
theorem take_at (R : Nat) (l : List Nat) (bad : Bool) (c : Nat) (w : World) (h : RdAt w R l bad c) (h256 : ∀ x ∈ l, x < 256) :
    Calls Try.prog 53 #[.pointer (some ⟨R, 0, none⟩)] w fun e w' => e = .returned (.int .i64 (l.getD c 0)) ∧ RdAt w' R l bad (c + 1) ∧ w.grownBy w' (some R) := by
  refine (take_any R (l.drop c) _ w h (fun x hx => h256 x (List.mem_of_mem_drop hx))).mono ?_
  rintro e w' ⟨h1, h2, h3⟩
  refine ⟨?_, ?_, h3⟩
  · rw [h1]
    congr 3
    rw [List.headD_eq_head?_getD, List.head?_drop, List.getD_eq_getElem?_getD]
  · rw [List.tail_drop] at h2
    have e : (bad || decide (l.length < c) || (l.drop c).isEmpty) = (bad || decide (l.length < c + 1)) := by
      rw [Bool.or_assoc]
      congr 1
      by_cases hc : l.length ≤ c
      · rw [List.drop_of_length_le hc]
        simp
        omega
      · have h1 : (l.drop c).isEmpty = false := by
          rw [List.isEmpty_eq_false_iff]
          intro e
          have := congrArg List.length e
          rw [List.length_drop, List.length_nil] at this
          omega
        rw [h1]
        simp
        omega
    rw [e] at h2
    exact h2
end Go.Proofs.Yteadfobfenopkaa
