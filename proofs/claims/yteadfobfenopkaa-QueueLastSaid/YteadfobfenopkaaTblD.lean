
/- Contracts of package table: what an act comes to (Do). -/
import Derived.Test.YteadfobfenopkaaTblU
import Derived.Test.YteadfobfenopkaaQ2
set_option linter.unusedVariables false
namespace Go.Proofs.Yteadfobfenopkaa
open Go Go.RowKit Go.Sort Wc Wk

theorem Tab.ok {w : World} {tb : Nat} {L : List (Nat × Nat × Nat)} {F : Nat → Prop} (t : Tab w tb L F) : Srt L ∧ Hops L ∧ ∀ x ∈ L, VP false x.1 x.2.1 := by
  obtain ⟨T, _, hw, rfl, _⟩ := t
  refine ⟨list_sorted hw, hops_list T, fun x hx => ?_⟩
  have hx' := (List.mem_filter.1 hx).1
  cases T with
  | nil => cases hx'
  | node b n k h l r => exact (wf_cov hw rfl x hx').1
theorem tab_get (tb n k : Nat) (L : List (Nat × Nat × Nat)) (F : Nat → Prop) (w : World) (t : Tab w tb L F) (hp : VP false n k) :
    Calls Try.prog 66 #[.pointer (some ⟨tb, 0, none⟩), Value.agg #[.bool false, .int .u64 (hiOf false n), .int .u64 (loOf n), .int .i64 k]] w fun e w' => e = .returned (.int .i64 (hasL L n k : Nat)) ∧ Below w.heap.size w w' := by
  have ok := t.ok
  obtain ⟨T, a, hw, rfl, _⟩ := t
  refine (get_any tb _ n k T w a hw hp).mono ?_
  rintro e w' ⟨⟨h, rfl, hh⟩, hb⟩
  refine ⟨?_, hb⟩
  rw [has_unique hh (fun h' h0 => has_hasL ok.1 n k h' h0)]
theorem tab_look (tb a : Nat) (L : List (Nat × Nat × Nat)) (F : Nat → Prop) (w : World) (t : Tab w tb L F) (ha : Fits false a) :
    Calls Try.prog 62 #[.pointer (some ⟨tb, 0, none⟩), Value.agg #[.bool false, .int .u64 (hiOf false a), .int .u64 (loOf a)]] w fun e w' => e = .returned (.agg #[.int .i64 0, .int .i64 ((goesL L a).1 : Nat), .int .i64 ((goesL L a).2 : Nat)]) ∧ Below w.heap.size w w' := by
  have ok := t.ok
  obtain ⟨T, tr, hw, rfl, _⟩ := t
  refine (look_any tb _ a T w tr hw ha).mono ?_
  rintro e w' ⟨⟨h, l, rfl, hg⟩, hb⟩
  obtain ⟨e1, e2⟩ := goes_eq ok.1 ok.2.1 ok.2.2 hg
  exact ⟨by rw [e1, e2], hb⟩
theorem tab_put (tb n k hop : Nat) (L : List (Nat × Nat × Nat)) (F : Nat → Prop) (w : World) (t : Tab w tb L F) (hl : L.length ≤ 1000) (hp : VP false n k) (h0 : hop ≠ 0) (h1 : hop ≤ 999) :
    Calls Try.prog 67 #[.pointer (some ⟨tb, 0, none⟩), Value.agg #[.bool false, .int .u64 (hiOf false n), .int .u64 (loOf n), .int .i64 k], .int .i64 hop] w fun e w' => e = .returned (.int .i64 (hasL L n k : Nat)) ∧ Tab w' tb (putL L n k hop) (fun b => F b ∨ w.heap.size ≤ b) ∧ Chg w w' (fun b _ => F b) := by
  have ok := t.ok
  obtain ⟨T, tr, hw, rfl, hF⟩ := t
  refine (put_core tb n k hop T w F tr hw hF (by omega) hp h0 (by omega)).mono ?_
  rintro e w' ⟨was, L', rfl, hh, hm, _, ht, hc⟩
  have e : L' = putL T.list n k hop := sorted_ext ht.ok.1 (srt_putL ok.1 n k hop) (fun x => by rw [hm, mem_putL ok.1])
  subst e
  refine ⟨?_, ht, hc⟩
  rw [has_unique hh (fun h' h0 => has_hasL ok.1 n k h' h0)]
theorem tab_cut (tb n k : Nat) (L : List (Nat × Nat × Nat)) (F : Nat → Prop) (w : World) (t : Tab w tb L F) (hl : L.length ≤ 1000) (hp : VP false n k) :
    Calls Try.prog 65 #[.pointer (some ⟨tb, 0, none⟩), Value.agg #[.bool false, .int .u64 (hiOf false n), .int .u64 (loOf n), .int .i64 k]] w fun e w' => e = .returned (.int .i64 (hasL L n k : Nat)) ∧ Tab w' tb (cutL L n k) F ∧ Chg w w' (fun b _ => F b) := by
  obtain ⟨T, tr, hw, rfl, hF⟩ := t
  exact cut_core tb n k T w F tr hw hF (by omega) hp
/-- The count of a table. -/
theorem Tab.count {w : World} {tb : Nat} {L : List (Nat × Nat × Nat)} {F : Nat → Prop} (t : Tab w tb L F) : tb < w.heap.size ∧ F tb ∧ w.cell? ⟨tb, 2, none⟩ = some (.int .i64 L.length) := by
  obtain ⟨T, tr, _, _, hF⟩ := t
  exact ⟨tr.tab.lt, hF _ List.mem_cons_self, tr.tab.r2⟩

/-- The box of an answer, of whatever code. -/
structure B3 (w : World) (o : Nat) (c p q : Int) : Prop where
  lt : o < w.heap.size
  c0 : w.cell? ⟨o, 0, none⟩ = some (.int .i64 c)
  c1 : w.cell? ⟨o, 1, none⟩ = some (.int .i64 p)
  c2 : w.cell? ⟨o, 2, none⟩ = some (.int .i64 q)
  f0 : w.frozen? ⟨o, 0, none⟩ = false
  f1 : w.frozen? ⟨o, 1, none⟩ = false
  f2 : w.frozen? ⟨o, 2, none⟩ = false
theorem b3_new (w : World) (E : TypeId) : B3 (w.alloc (.cells #[.int .i64 0, .int .i64 0, .int .i64 0] E)) w.heap.size 0 0 0 := by constructor <;> simp
theorem B3.below {w w' : World} {o : Nat} {c p q : Int} (h : B3 w o c p q) (hb : Below w.heap.size w w') : B3 w' o c p q :=
  ⟨Nat.lt_of_lt_of_le h.lt hb.size, (hb.cell (p := ⟨o, 0, none⟩) h.lt).trans h.c0, (hb.cell (p := ⟨o, 1, none⟩) h.lt).trans h.c1, (hb.cell (p := ⟨o, 2, none⟩) h.lt).trans h.c2, (hb.frozen (p := ⟨o, 0, none⟩) h.lt).trans h.f0, (hb.frozen (p := ⟨o, 1, none⟩) h.lt).trans h.f1, (hb.frozen (p := ⟨o, 2, none⟩) h.lt).trans h.f2⟩
theorem B3.chg {w w' : World} {o : Nat} {c p q : Int} {F : Nat → Prop} (h : B3 w o c p q) (k : Chg w w' (fun x _ => F x)) (hne : ¬ F o) : B3 w' o c p q :=
  ⟨Nat.lt_of_lt_of_le h.lt k.size, (k.cell _ _ h.lt hne).trans h.c0, (k.cell _ _ h.lt hne).trans h.c1, (k.cell _ _ h.lt hne).trans h.c2, (k.froz _ _ h.lt).trans h.f0, (k.froz _ _ h.lt).trans h.f1, (k.froz _ _ h.lt).trans h.f2⟩
theorem B3.set {w : World} {o : Nat} {c p q : Int} (h : B3 w o c p q) (c' p' q' : Int) : B3 (((w.setCell ⟨o, 0, none⟩ (.int .i64 c')).setCell ⟨o, 1, none⟩ (.int .i64 p')).setCell ⟨o, 2, none⟩ (.int .i64 q')) o c' p' q' := by
  have s0 := chg_set w o 0 (.int .i64 c')
  have h0 : B3 (w.setCell ⟨o, 0, none⟩ (.int .i64 c')) o c' p q := ⟨Nat.lt_of_lt_of_le h.lt s0.size, World.cell?_setCell_same _ _ _ h.c0, (s0.cell _ _ h.lt (fun h => absurd h.2 (by decide))).trans h.c1, (s0.cell _ _ h.lt (fun h => absurd h.2 (by decide))).trans h.c2, (s0.froz _ _ h.lt).trans h.f0, (s0.froz _ _ h.lt).trans h.f1, (s0.froz _ _ h.lt).trans h.f2⟩
  have s1 := chg_set (w.setCell ⟨o, 0, none⟩ (.int .i64 c')) o 1 (.int .i64 p')
  have h1 : B3 ((w.setCell ⟨o, 0, none⟩ (.int .i64 c')).setCell ⟨o, 1, none⟩ (.int .i64 p')) o c' p' q := ⟨Nat.lt_of_lt_of_le h0.lt s1.size, (s1.cell _ _ h0.lt (fun h => absurd h.2 (by decide))).trans h0.c0, World.cell?_setCell_same _ _ _ h0.c1, (s1.cell _ _ h0.lt (fun h => absurd h.2 (by decide))).trans h0.c2, (s1.froz _ _ h0.lt).trans h0.f0, (s1.froz _ _ h0.lt).trans h0.f1, (s1.froz _ _ h0.lt).trans h0.f2⟩
  have s2 := chg_set ((w.setCell ⟨o, 0, none⟩ (.int .i64 c')).setCell ⟨o, 1, none⟩ (.int .i64 p')) o 2 (.int .i64 q')
  exact ⟨Nat.lt_of_lt_of_le h1.lt s2.size, (s2.cell _ _ h1.lt (fun h => absurd h.2 (by decide))).trans h1.c0, (s2.cell _ _ h1.lt (fun h => absurd h.2 (by decide))).trans h1.c1, World.cell?_setCell_same _ _ _ h1.c2, (s2.froz _ _ h1.lt).trans h1.f0, (s2.froz _ _ h1.lt).trans h1.f1, (s2.froz _ _ h1.lt).trans h1.f2⟩

theorem no_any (c : Int) (w : World) : Calls Try.prog 60 #[.int .i64 c] w fun e w' => e = .returned (.agg #[.int .i64 c, .int .i64 0, .int .i64 0]) ∧ Below w.heap.size w w' := by
  go_enter Try.func60, Try.ntmps60
  go_wp2
  refine bodyPost_ret (v := .agg #[.int .i64 c, .int .i64 0, .int .i64 0]) (by simp [results, Try.results60, go_sem, *]) rfl ⟨rfl, by (repeat' (first | (with_reducible exact Below.refl _ _) | (with_reducible assumption) | (with_reducible refine Below.al ?_ _) | (with_reducible refine Below.dr ?_) | (with_reducible refine Below.step ?_ (by assumption)) | (with_reducible refine Below.set ?_ ?_ _) | omega | (dsimp only; omega) | (simp; done) | (simp; omega)))⟩
theorem had_any (h wide : Nat) (w : World) : Calls Try.prog 64 #[.int .i64 h, .int .i64 wide] w fun e w' => e = .returned (.agg #[.int .i64 (hadA h wide).code, .int .i64 (hadA h wide).hop, .int .i64 (hadA h wide).len]) ∧ Below w.heap.size w w' := by
  have N := Lib.hid (fun w => no_any 7 w)
  by_cases h0 : h = 0
  · subst h0
    go_enter Try.func64, Try.ntmps64
    go_wp2_with (first | ((with_reducible refine (N.out _).mono ?_); rintro e w1 ⟨rfl, hb1⟩; (repeat (with_reducible (replace hb1 := Below.undrew hb1))); obtain ⟨hc1, hf1⟩ := bcell hb1; have hz1 := hb1.size; (repeat (first | rw [World.size_alloc] at hz1 | rw [World.size_drew] at hz1 | rw [World.size_setCell] at hz1))))
    refine bodyPost_ret (v := .agg #[.int .i64 (7 : Nat), .int .i64 (0 : Nat), .int .i64 (0 : Nat)]) (by simp [results, Try.results64, go_sem, *]) rfl ⟨rfl, by (repeat' (first | (with_reducible exact Below.refl _ _) | (with_reducible assumption) | (with_reducible refine Below.al ?_ _) | (with_reducible refine Below.dr ?_) | (with_reducible refine Below.step ?_ (by assumption)) | (with_reducible refine Below.set ?_ ?_ _) | omega | (dsimp only; omega) | (simp; done) | (simp; omega)))⟩
  · have h0' : ((h : Int) == 0) = false := by rw [beq_eq_false_iff_ne]; omega
    have h0n : ¬ ((h : Int) = 0) := by omega
    have e : hadA h wide = ⟨0, h, wide⟩ := by unfold hadA; rw [if_neg h0]
    rw [e]
    go_enter Try.func64, Try.ntmps64
    go_wp2
    refine bodyPost_ret (v := .agg #[.int .i64 (0 : Nat), .int .i64 h, .int .i64 wide]) (by simp [results, Try.results64, go_sem, *]) rfl ⟨rfl, by (repeat' (first | (with_reducible exact Below.refl _ _) | (with_reducible assumption) | (with_reducible refine Below.al ?_ _) | (with_reducible refine Below.dr ?_) | (with_reducible refine Below.step ?_ (by assumption)) | (with_reducible refine Below.set ?_ ?_ _) | omega | (dsimp only; omega) | (simp; done) | (simp; omega)))⟩
end Go.Proofs.Yteadfobfenopkaa
