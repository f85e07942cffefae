
/- Contracts of package table: what an act comes to (Do). -/
import Derived.Test.YtoecmoicaklbaaaDoorTblU
import Derived.Test.YtoecmoicaklbaaaDoorQx
set_option linter.unusedVariables false
namespace Go.Proofs.YtoecmoicaklbaaaDoor
open Go Go.RowKit Go.Sort Wc Wk

theorem Tab.ok {w : World} {tb : Nat} {L : List (Nat × Nat × Nat)} {F : Nat → Prop} (t : Tab w tb L F) : Srt L ∧ Hops L ∧ ∀ x ∈ L, VP false x.1 x.2.1 := by
  obtain ⟨T, _, hw, rfl, _⟩ := t
  refine ⟨list_sorted hw, hops_list T, fun x hx => ?_⟩
  have hx' := (List.mem_filter.1 hx).1
  cases T with
  | nil => cases hx'
  | node b n k h l r => exact (wf_cov hw rfl x hx').1
theorem tab_get (tb n k : Nat) (L : List (Nat × Nat × Nat)) (F : Nat → Prop) (w : World) (t : Tab w tb L F) (hp : VP false n k) :
    Calls Tryd.prog 72 #[.pointer (some ⟨tb, 0, none⟩), Value.agg #[.bool false, .int .u64 (hiOf false n), .int .u64 (loOf n), .int .i64 k]] w fun e w' => e = .returned (.int .i64 (hasL L n k : Nat)) ∧ Below w.heap.size w w' := by
  have ok := t.ok
  obtain ⟨T, a, hw, rfl, _⟩ := t
  refine (get_any tb _ n k T w a hw hp).mono ?_
  rintro e w' ⟨⟨h, rfl, hh⟩, hb⟩
  refine ⟨?_, hb⟩
  rw [has_unique hh (fun h' h0 => has_hasL ok.1 n k h' h0)]
theorem tab_look (tb a : Nat) (L : List (Nat × Nat × Nat)) (F : Nat → Prop) (w : World) (t : Tab w tb L F) (ha : Fits false a) :
    Calls Tryd.prog 45 #[.pointer (some ⟨tb, 0, none⟩), Value.agg #[.bool false, .int .u64 (hiOf false a), .int .u64 (loOf a)]] w fun e w' => e = .returned (.agg #[.int .i64 0, .int .i64 ((goesL L a).1 : Nat), .int .i64 ((goesL L a).2 : Nat)]) ∧ Below w.heap.size w w' := by
  have ok := t.ok
  obtain ⟨T, tr, hw, rfl, _⟩ := t
  refine (look_any tb _ a T w tr hw ha).mono ?_
  rintro e w' ⟨⟨h, l, rfl, hg⟩, hb⟩
  obtain ⟨e1, e2⟩ := goes_eq ok.1 ok.2.1 ok.2.2 hg
  exact ⟨by rw [e1, e2], hb⟩
theorem tab_put (tb n k hop : Nat) (L : List (Nat × Nat × Nat)) (F : Nat → Prop) (w : World) (t : Tab w tb L F) (hl : L.length ≤ 1000) (hp : VP false n k) (h0 : hop ≠ 0) (h1 : hop ≤ 999) :
    Calls Tryd.prog 65 #[.pointer (some ⟨tb, 0, none⟩), Value.agg #[.bool false, .int .u64 (hiOf false n), .int .u64 (loOf n), .int .i64 k], .int .i64 hop] w fun e w' => e = .returned (.int .i64 (hasL L n k : Nat)) ∧ Tab w' tb (putL L n k hop) (fun b => F b ∨ w.heap.size ≤ b) ∧ Chg w w' (fun b _ => F b) := by
  have ok := t.ok
  obtain ⟨T, tr, hw, rfl, hF⟩ := t
  refine (put_core tb n k hop T w F tr hw hF (by omega) hp h0 (by omega)).mono ?_
  rintro e w' ⟨was, L', rfl, hh, hm, _, ht, hc⟩
  have e : L' = putL T.list n k hop := sorted_ext ht.ok.1 (srt_putL ok.1 n k hop) (fun x => by rw [hm, mem_putL ok.1])
  subst e
  refine ⟨?_, ht, hc⟩
  rw [has_unique hh (fun h' h0 => has_hasL ok.1 n k h' h0)]
theorem tab_cut (tb n k : Nat) (L : List (Nat × Nat × Nat)) (F : Nat → Prop) (w : World) (t : Tab w tb L F) (hl : L.length ≤ 1000) (hp : VP false n k) :
    Calls Tryd.prog 71 #[.pointer (some ⟨tb, 0, none⟩), Value.agg #[.bool false, .int .u64 (hiOf false n), .int .u64 (loOf n), .int .i64 k]] w fun e w' => e = .returned (.int .i64 (hasL L n k : Nat)) ∧ Tab w' tb (cutL L n k) F ∧ Chg w w' (fun b _ => F b) := by
  obtain ⟨T, tr, hw, rfl, hF⟩ := t
  exact cut_core tb n k T w F tr hw hF (by omega) hp
/-- The count of a table. -/
theorem Tab.count {w : World} {tb : Nat} {L : List (Nat × Nat × Nat)} {F : Nat → Prop} (t : Tab w tb L F) : tb < w.heap.size ∧ F tb ∧ w.cell? ⟨tb, 2, none⟩ = some (.int .i64 L.length) := by
  obtain ⟨T, tr, _, _, hF⟩ := t
  exact ⟨tr.tab.lt, hF _ List.mem_cons_self, tr.tab.r2⟩

/-- The box of an answer, of whatever code. -/
structure B3 (w : World) (o : Nat) (c p q : Int) : Prop where
  lt : o < w.heap.size
  c0 : w.cell? ⟨o, 0, none⟩ = some (.int .i64 c)
  c1 : w.cell? ⟨o, 1, none⟩ = some (.int .i64 p)
  c2 : w.cell? ⟨o, 2, none⟩ = some (.int .i64 q)
  f0 : w.frozen? ⟨o, 0, none⟩ = false
  f1 : w.frozen? ⟨o, 1, none⟩ = false
  f2 : w.frozen? ⟨o, 2, none⟩ = false
theorem b3_new (w : World) (E : TypeId) : B3 (w.alloc (.cells #[.int .i64 0, .int .i64 0, .int .i64 0] E)) w.heap.size 0 0 0 := by constructor <;> simp
theorem B3.below {w w' : World} {o : Nat} {c p q : Int} (h : B3 w o c p q) (hb : Below w.heap.size w w') : B3 w' o c p q :=
  ⟨Nat.lt_of_lt_of_le h.lt hb.size, (hb.cell (p := ⟨o, 0, none⟩) h.lt).trans h.c0, (hb.cell (p := ⟨o, 1, none⟩) h.lt).trans h.c1, (hb.cell (p := ⟨o, 2, none⟩) h.lt).trans h.c2, (hb.frozen (p := ⟨o, 0, none⟩) h.lt).trans h.f0, (hb.frozen (p := ⟨o, 1, none⟩) h.lt).trans h.f1, (hb.frozen (p := ⟨o, 2, none⟩) h.lt).trans h.f2⟩
theorem B3.chg {w w' : World} {o : Nat} {c p q : Int} {F : Nat → Prop} (h : B3 w o c p q) (k : Chg w w' (fun x _ => F x)) (hne : ¬ F o) : B3 w' o c p q :=
  ⟨Nat.lt_of_lt_of_le h.lt k.size, (k.cell _ _ h.lt hne).trans h.c0, (k.cell _ _ h.lt hne).trans h.c1, (k.cell _ _ h.lt hne).trans h.c2, (k.froz _ _ h.lt).trans h.f0, (k.froz _ _ h.lt).trans h.f1, (k.froz _ _ h.lt).trans h.f2⟩
theorem B3.set {w : World} {o : Nat} {c p q : Int} (h : B3 w o c p q) (c' p' q' : Int) : B3 (((w.setCell ⟨o, 0, none⟩ (.int .i64 c')).setCell ⟨o, 1, none⟩ (.int .i64 p')).setCell ⟨o, 2, none⟩ (.int .i64 q')) o c' p' q' := by
  have s0 := chg_set w o 0 (.int .i64 c')
  have h0 : B3 (w.setCell ⟨o, 0, none⟩ (.int .i64 c')) o c' p q := ⟨Nat.lt_of_lt_of_le h.lt s0.size, World.cell?_setCell_same _ _ _ h.c0, (s0.cell _ _ h.lt (fun h => absurd h.2 (by decide))).trans h.c1, (s0.cell _ _ h.lt (fun h => absurd h.2 (by decide))).trans h.c2, (s0.froz _ _ h.lt).trans h.f0, (s0.froz _ _ h.lt).trans h.f1, (s0.froz _ _ h.lt).trans h.f2⟩
  have s1 := chg_set (w.setCell ⟨o, 0, none⟩ (.int .i64 c')) o 1 (.int .i64 p')
  have h1 : B3 ((w.setCell ⟨o, 0, none⟩ (.int .i64 c')).setCell ⟨o, 1, none⟩ (.int .i64 p')) o c' p' q := ⟨Nat.lt_of_lt_of_le h0.lt s1.size, (s1.cell _ _ h0.lt (fun h => absurd h.2 (by decide))).trans h0.c0, World.cell?_setCell_same _ _ _ h0.c1, (s1.cell _ _ h0.lt (fun h => absurd h.2 (by decide))).trans h0.c2, (s1.froz _ _ h0.lt).trans h0.f0, (s1.froz _ _ h0.lt).trans h0.f1, (s1.froz _ _ h0.lt).trans h0.f2⟩
  have s2 := chg_set ((w.setCell ⟨o, 0, none⟩ (.int .i64 c')).setCell ⟨o, 1, none⟩ (.int .i64 p')) o 2 (.int .i64 q')
  exact ⟨Nat.lt_of_lt_of_le h1.lt s2.size, (s2.cell _ _ h1.lt (fun h => absurd h.2 (by decide))).trans h1.c0, (s2.cell _ _ h1.lt (fun h => absurd h.2 (by decide))).trans h1.c1, World.cell?_setCell_same _ _ _ h1.c2, (s2.froz _ _ h1.lt).trans h1.f0, (s2.froz _ _ h1.lt).trans h1.f1, (s2.froz _ _ h1.lt).trans h1.f2⟩

theorem no_any (c : Int) (w : World) : Calls Tryd.prog 69 #[.int .i64 c] w fun e w' => e = .returned (.agg #[.int .i64 c, .int .i64 0, .int .i64 0]) ∧ Below w.heap.size w w' := by
  go_enter Tryd.func69, Tryd.ntmps69
  go_wp2
  refine bodyPost_ret (v := .agg #[.int .i64 c, .int .i64 0, .int .i64 0]) (by simp [results, Tryd.results69, go_sem, *]) rfl ⟨rfl, by (repeat' (first | (with_reducible exact Below.refl _ _) | (with_reducible assumption) | (with_reducible refine Below.al ?_ _) | (with_reducible refine Below.dr ?_) | (with_reducible refine Below.step ?_ (by assumption)) | (with_reducible refine Below.set ?_ ?_ _) | omega | (dsimp only; omega) | (simp; done) | (simp; omega)))⟩
theorem had_any (h wide : Nat) (w : World) : Calls Tryd.prog 70 #[.int .i64 h, .int .i64 wide] w fun e w' => e = .returned (.agg #[.int .i64 (hadA h wide).code, .int .i64 (hadA h wide).hop, .int .i64 (hadA h wide).len]) ∧ Below w.heap.size w w' := by
  have N := Lib.hid (fun w => no_any 7 w)
  by_cases h0 : h = 0
  · subst h0
    go_enter Tryd.func70, Tryd.ntmps70
    go_wp2_with (first | ((with_reducible refine (N.out _).mono ?_); rintro e w1 ⟨rfl, hb1⟩; (repeat (with_reducible (replace hb1 := Below.undrew hb1))); obtain ⟨hc1, hf1⟩ := bcell hb1; have hz1 := hb1.size; (repeat (first | rw [World.size_alloc] at hz1 | rw [World.size_drew] at hz1 | rw [World.size_setCell] at hz1))))
    refine bodyPost_ret (v := .agg #[.int .i64 (7 : Nat), .int .i64 (0 : Nat), .int .i64 (0 : Nat)]) (by simp [results, Tryd.results70, go_sem, *]) rfl ⟨rfl, by (repeat' (first | (with_reducible exact Below.refl _ _) | (with_reducible assumption) | (with_reducible refine Below.al ?_ _) | (with_reducible refine Below.dr ?_) | (with_reducible refine Below.step ?_ (by assumption)) | (with_reducible refine Below.set ?_ ?_ _) | omega | (dsimp only; omega) | (simp; done) | (simp; omega)))⟩
  · have h0' : ((h : Int) == 0) = false := by rw [beq_eq_false_iff_ne]; omega
    have h0n : ¬ ((h : Int) = 0) := by omega
    have e : hadA h wide = ⟨0, h, wide⟩ := by unfold hadA; rw [if_neg h0]
    rw [e]
    go_enter Tryd.func70, Tryd.ntmps70
    go_wp2
    refine bodyPost_ret (v := .agg #[.int .i64 (0 : Nat), .int .i64 h, .int .i64 wide]) (by simp [results, Tryd.results70, go_sem, *]) rfl ⟨rfl, by (repeat' (first | (with_reducible exact Below.refl _ _) | (with_reducible assumption) | (with_reducible refine Below.al ?_ _) | (with_reducible refine Below.dr ?_) | (with_reducible refine Below.step ?_ (by assumption)) | (with_reducible refine Below.set ?_ ?_ _) | omega | (dsimp only; omega) | (simp; done) | (simp; omega)))⟩
end Go.Proofs.YtoecmoicaklbaaaDoor

/- Contracts of package table: what an act comes to (Do). -/
set_option linter.unusedVariables false
namespace Go.Proofs.YtoecmoicaklbaaaDoor
open Go Go.RowKit Go.Sort Wc Wk

/-- What an act does: what is told, the list behind it, what it leaves alone. -/
def DoesT (w : World) (tb : Nat) (L' : List (Nat × Nat × Nat)) (c p q : Int) (F : Nat → Prop) (e : Ending) (w' : World) : Prop :=
  e = .returned (.agg #[.int .i64 c, .int .i64 p, .int .i64 q]) ∧ Tab w' tb L' (fun b => F b ∨ w.heap.size ≤ b) ∧ Chg w w' (fun b _ => F b)
theorem doesT_quiet {w w2 w' : World} {tb : Nat} {L : List (Nat × Nat × Nat)} {c p q : Int} {F : Nat → Prop} (t : Tab w tb L F) (hb : Below w.heap.size w w2) {o : Nat} (ho : w.heap.size ≤ o) (hc : Chg w2 w' (fun b _ => b = o)) :
    DoesT w tb L c p q F (.returned (.agg #[.int .i64 c, .int .i64 p, .int .i64 q])) w' := by
  have h1 : Below w.heap.size w w' := hb.trans (hc.below hb.size (fun b x hx e => by omega))
  exact ⟨rfl, (t.below h1).weak (fun b h => .inl h), Chg.of_below h1 _⟩
theorem b3_chg (w : World) (o : Nat) (u0 u1 u2 : Value) : Chg w (((w.setCell ⟨o, 0, none⟩ u0).setCell ⟨o, 1, none⟩ u1).setCell ⟨o, 2, none⟩ u2) (fun b _ => b = o) :=
  ((chg_blk w o 0 u0).trans (chg_blk _ o 1 u1) (fun _ _ _ h => h)).trans (chg_blk _ o 2 u2) (fun _ _ _ h => h)
theorem wz (w : World) (o1 o2 : Obj) : (((w.alloc o1).alloc o2)).heap.size = w.heap.size + 1 + 1 := by simp


set_option maxRecDepth 100000 in
set_option maxHeartbeats 2000000 in
theorem tdo_look (tb n k hop a : Nat) (L : List (Nat × Nat × Nat)) (F : Nat → Prop) (w : World) (t : Tab w tb L F) (ha : Fits false a) :
    Calls Tryd.prog 46 #[.pointer (some ⟨tb, 0, none⟩), .agg #[.int .i64 3, .bool false, .int .u64 (hiOf false n), .int .u64 (loOf n), .int .i64 k, .int .i64 hop, .bool false, .int .u64 (hiOf false a), .int .u64 (loOf a)]] w (DoesT w tb L 0 (goesL L a).1 (goesL L a).2 F) := by
  have HT := Lib.hid t
  have M := Lib.hid (fun w => may_any false a w ha)
  have TL := Lib.hid (fun w t => tab_look tb a L F w t ha)
  clear t
  go_enter Tryd.func46, Tryd.ntmps46
  go_wp2_with (first | ((with_reducible refine (M.out _).mono ?_); rintro e w1 ⟨rfl, hb1⟩; (repeat (with_reducible (replace hb1 := Below.undrew hb1))); obtain ⟨hc1, hf1⟩ := bcell hb1; have hz1 := hb1.size; (repeat (first | rw [World.size_alloc] at hz1 | rw [World.size_drew] at hz1 | rw [World.size_setCell] at hz1)); (try have : w.heap.size < w1.heap.size := by omega); (try have : w.heap.size < w1.heap.size + 1 := by omega); (try have : w.heap.size < w1.heap.size + 1 + 1 := by omega); (try have : w.heap.size < w1.heap.size + 1 + 1 + 1 := by omega); (try have : w.heap.size + 1 < w1.heap.size := by omega); (try have : w.heap.size + 1 < w1.heap.size + 1 := by omega); (try have : w.heap.size + 1 < w1.heap.size + 1 + 1 := by omega); (try have : w.heap.size + 1 < w1.heap.size + 1 + 1 + 1 := by omega)))
  have HB1 : Below w.heap.size w w1 := by (repeat' (first | (with_reducible exact Below.refl _ _) | (with_reducible assumption) | (with_reducible refine Below.alloc ?_ ?_ _) | (with_reducible refine Below.drew ?_) | (with_reducible refine Below.stepG ?_ (by assumption) ?_) | (with_reducible refine Below.setCell ?_ ?_ _) | omega | (dsimp only; omega) | (simp; done) | (simp; omega)))
  have B1 : B3 w1 (w.heap.size + 1) 0 0 0 := B3.below (by have := b3_new (w.alloc (.cells #[.int .i64 3, .bool false, .int .u64 (hiOf false n), .int .u64 (loOf n), .int .i64 k, .int .i64 hop, .bool false, .int .u64 (hiOf false a), .int .u64 (loOf a)] 59)) 50; rw [World.size_alloc] at this; exact this) hb1
  refine (TL.out _ (HT.out.below HB1)).mono ?_
  rintro e w2 ⟨rfl, hb2⟩
  have B2 := B1.below hb2
  have HB2 := Lib.hid B2
  have H2 := Lib.hid (HB1.trans (hb2.mono HB1.size))
  obtain ⟨lt2, _, k0, k1, k2, f0, f1, f2⟩ : True ∧ True ∧ _ ∧ _ ∧ _ ∧ _ ∧ _ ∧ _ := ⟨trivial, trivial, B2.c0, B2.c1, B2.c2, B2.f0, B2.f1, B2.f2⟩
  clear hb1 hc1 hf1 B1 B2 hb2
  go_wp2_with fail
  have B := HB2.out.set 0 (goesL L a).1 (goesL L a).2
  obtain ⟨_, e0, e1, e2, _, _, _⟩ := B
  refine bodyPost_ret (v := .agg #[.int .i64 0, .int .i64 ((goesL L a).1 : Nat), .int .i64 ((goesL L a).2 : Nat)]) (by simp [results, Tryd.results46, go_sem, e0, e1, e2]) rfl (doesT_quiet HT.out H2.out (Nat.le_succ _) (b3_chg _ _ _ _ _))
theorem doesT_chg {w w1 w2 w' : World} {tb o : Nat} {L' : List (Nat × Nat × Nat)} {c p q : Int} {F G : Nat → Prop} (hb : Below w.heap.size w w1) (t2 : Tab w2 tb L' (fun b => G b ∨ w1.heap.size ≤ b)) (hc : Chg w1 w2 (fun b _ => G b)) (hG : ∀ b, G b → F b ∧ b < w.heap.size)
    (ho : w.heap.size ≤ o) (ho1 : o < w1.heap.size) (hc2 : Chg w2 w' (fun b _ => b = o)) : DoesT w tb L' c p q F (.returned (.agg #[.int .i64 c, .int .i64 p, .int .i64 q])) w' := by
  refine ⟨rfl, (t2.keep hc2 (fun b h e => ?_)).weak (fun b h => ?_), ((Chg.of_below hb (fun b (_ : Nat) => F b)).trans hc (fun b x _ h => (hG b h).1)).trans hc2 (fun b x hx e => absurd e (by omega))⟩
  · rcases h with h | h
    · have := (hG b h).2; omega
    · omega
  · rcases h with h | h
    · exact .inl (hG b h).1
    · have := hb.size; exact .inr (by omega)


set_option maxRecDepth 100000 in
set_option maxHeartbeats 2000000 in
theorem tdo_cut (tb n k hop a : Nat) (L : List (Nat × Nat × Nat)) (F : Nat → Prop) (w : World) (t : Tab w tb L F) (hl : L.length ≤ 1000) (hp : VP false n k) :
    Calls Tryd.prog 46 #[.pointer (some ⟨tb, 0, none⟩), .agg #[.int .i64 2, .bool false, .int .u64 (hiOf false n), .int .u64 (loOf n), .int .i64 k, .int .i64 hop, .bool false, .int .u64 (hiOf false a), .int .u64 (loOf a)]] w (DoesT w tb (cutL L n k) (hadA (hasL L n k) 0).code (hadA (hasL L n k) 0).hop (hadA (hasL L n k) 0).len F) := by
  have HT := Lib.hid t.lt
  have C := Lib.hid (fun w => check_ok false n k w hp)
  have TC := Lib.hid (fun w' t => tab_cut tb n k L (fun b => F b ∧ b < w.heap.size) w' t hl hp)
  have HD := Lib.hid (fun w => had_any (hasL L n k) 0 w)
  clear t
  go_enter Tryd.func46, Tryd.ntmps46
  go_wp2_with (first | ((with_reducible refine (C.out _).mono ?_); rintro e w1 ⟨rfl, hb1⟩; (repeat (with_reducible (replace hb1 := Below.undrew hb1))); obtain ⟨hc1, hf1⟩ := bcell hb1; have hz1 := hb1.size; (repeat (first | rw [World.size_alloc] at hz1 | rw [World.size_drew] at hz1 | rw [World.size_setCell] at hz1)); (try have : w.heap.size < w1.heap.size := by omega); (try have : w.heap.size < w1.heap.size + 1 := by omega); (try have : w.heap.size < w1.heap.size + 1 + 1 := by omega); (try have : w.heap.size < w1.heap.size + 1 + 1 + 1 := by omega); (try have : w.heap.size + 1 < w1.heap.size := by omega); (try have : w.heap.size + 1 < w1.heap.size + 1 := by omega); (try have : w.heap.size + 1 < w1.heap.size + 1 + 1 := by omega); (try have : w.heap.size + 1 < w1.heap.size + 1 + 1 + 1 := by omega)))
  have HB1 : Below w.heap.size w w1 := by (repeat' (first | (with_reducible exact Below.refl _ _) | (with_reducible assumption) | (with_reducible refine Below.alloc ?_ ?_ _) | (with_reducible refine Below.drew ?_) | (with_reducible refine Below.stepG ?_ (by assumption) ?_) | (with_reducible refine Below.setCell ?_ ?_ _) | omega | (dsimp only; omega) | (simp; done) | (simp; omega)))
  have B1 : B3 w1 (w.heap.size + 1) 0 0 0 := B3.below (by have := b3_new (w.alloc (.cells #[.int .i64 2, .bool false, .int .u64 (hiOf false n), .int .u64 (loOf n), .int .i64 k, .int .i64 hop, .bool false, .int .u64 (hiOf false a), .int .u64 (loOf a)] 59)) 50; rw [World.size_alloc] at this; exact this) hb1
  refine (TC.out _ (HT.out.below HB1)).mono ?_
  rintro e w2 ⟨rfl, ht2, hc2⟩
  have B2 := B1.chg hc2 (by omega)
  have HT2 := Lib.hid ht2
  have HC2 := Lib.hid hc2
  have HH1 := Lib.hid HB1
  clear hb1 hc1 hf1 B1 ht2 hc2 HB1
  go_wp2_with fail
  refine (HD.out _).mono ?_
  rintro e w3 ⟨rfl, hb3⟩
  have B3' := B2.below hb3
  have HB3 := Lib.hid B3'
  have H3 := Lib.hid hb3
  obtain ⟨lt3, k0, k1, k2, f0, f1, f2⟩ := B3'
  clear B2 hb3
  go_wp2_with fail
  have B := HB3.out.set (hadA (hasL L n k) 0).code (hadA (hasL L n k) 0).hop (hadA (hasL L n k) 0).len
  obtain ⟨_, e0, e1, e2, _, _, _⟩ := B
  refine bodyPost_ret (v := .agg #[.int .i64 (hadA (hasL L n k) 0).code, .int .i64 (hadA (hasL L n k) 0).hop, .int .i64 (hadA (hasL L n k) 0).len]) (by simp [results, Tryd.results46, go_sem, e0, e1, e2]) rfl
    (doesT_chg HH1.out (HT2.out.weak (fun b h => .inl h)) HC2.out (fun b h => h) (Nat.le_succ _) (by omega) ((Chg.of_below H3.out (fun b (_ : Nat) => b = w.heap.size + 1)).trans (b3_chg _ _ _ _ _) (fun _ _ _ h => h)))


set_option maxRecDepth 100000 in
set_option maxHeartbeats 2000000 in
theorem tdo_get (tb n k hop a : Nat) (L : List (Nat × Nat × Nat)) (F : Nat → Prop) (w : World) (t : Tab w tb L F) (hp : VP false n k) :
    Calls Tryd.prog 46 #[.pointer (some ⟨tb, 0, none⟩), .agg #[.int .i64 4, .bool false, .int .u64 (hiOf false n), .int .u64 (loOf n), .int .i64 k, .int .i64 hop, .bool false, .int .u64 (hiOf false a), .int .u64 (loOf a)]] w (DoesT w tb L (hadA (hasL L n k) k).code (hadA (hasL L n k) k).hop (hadA (hasL L n k) k).len F) := by
  have HT := Lib.hid t
  have C := Lib.hid (fun w => check_ok false n k w hp)
  have TG := Lib.hid (fun w t => tab_get tb n k L F w t hp)
  have HD := Lib.hid (fun w => had_any (hasL L n k) k w)
  clear t
  go_enter Tryd.func46, Tryd.ntmps46
  go_wp2_with (first | ((with_reducible refine (C.out _).mono ?_); rintro e w1 ⟨rfl, hb1⟩; (repeat (with_reducible (replace hb1 := Below.undrew hb1))); obtain ⟨hc1, hf1⟩ := bcell hb1; have hz1 := hb1.size; (repeat (first | rw [World.size_alloc] at hz1 | rw [World.size_drew] at hz1 | rw [World.size_setCell] at hz1)); (try have : w.heap.size < w1.heap.size := by omega); (try have : w.heap.size < w1.heap.size + 1 := by omega); (try have : w.heap.size < w1.heap.size + 1 + 1 := by omega); (try have : w.heap.size < w1.heap.size + 1 + 1 + 1 := by omega); (try have : w.heap.size + 1 < w1.heap.size := by omega); (try have : w.heap.size + 1 < w1.heap.size + 1 := by omega); (try have : w.heap.size + 1 < w1.heap.size + 1 + 1 := by omega); (try have : w.heap.size + 1 < w1.heap.size + 1 + 1 + 1 := by omega)))
  have HB1 : Below w.heap.size w w1 := by (repeat' (first | (with_reducible exact Below.refl _ _) | (with_reducible assumption) | (with_reducible refine Below.alloc ?_ ?_ _) | (with_reducible refine Below.drew ?_) | (with_reducible refine Below.stepG ?_ (by assumption) ?_) | (with_reducible refine Below.setCell ?_ ?_ _) | omega | (dsimp only; omega) | (simp; done) | (simp; omega)))
  have B1 : B3 w1 (w.heap.size + 1) 0 0 0 := B3.below (by have := b3_new (w.alloc (.cells #[.int .i64 4, .bool false, .int .u64 (hiOf false n), .int .u64 (loOf n), .int .i64 k, .int .i64 hop, .bool false, .int .u64 (hiOf false a), .int .u64 (loOf a)] 59)) 50; rw [World.size_alloc] at this; exact this) hb1
  have G1 : w1.cell? ⟨w.heap.size, 1, none⟩ = some (.bool false) := by rw [hc1 _ _ (by simp; omega)]; simp
  have G2 : w1.cell? ⟨w.heap.size, 2, none⟩ = some (.int .u64 (hiOf false n)) := by rw [hc1 _ _ (by simp; omega)]; simp
  have G3 : w1.cell? ⟨w.heap.size, 3, none⟩ = some (.int .u64 (loOf n)) := by rw [hc1 _ _ (by simp; omega)]; simp
  have G4 : w1.cell? ⟨w.heap.size, 4, none⟩ = some (.int .i64 k) := by rw [hc1 _ _ (by simp; omega)]; simp
  have HBB := Lib.hid B1
  have HH1 := Lib.hid HB1
  have hw1 : w.heap.size < w1.heap.size := by omega
  clear hb1 hc1 hf1 B1
  go_region_with (first
    | (go_at_call 72; refine (TG.out _ (HT.out.below (by (repeat' (first | (with_reducible exact Below.refl _ _) | (with_reducible assumption) | (with_reducible refine Below.alloc ?_ ?_ _) | (with_reducible refine Below.drew ?_) | (with_reducible refine Below.stepG ?_ (by assumption) ?_) | (with_reducible refine Below.setCell ?_ ?_ _) | omega | (dsimp only; omega) | (simp; done) | (simp; omega)))))).mono ?_; rintro e w2 ⟨rfl, hb2⟩; have J4 := (hb2.cell (p := ⟨w.heap.size, 4, none⟩) (by simpa using hw1)).trans (by simpa using G4); have hw2 : w.heap.size < w2.heap.size := Nat.lt_of_lt_of_le (by simpa using hw1) hb2.size; have BB2 := Lib.hid ((HBB.out.below (by (repeat' (first | (with_reducible exact Below.refl _ _) | (with_reducible assumption) | (with_reducible refine Below.alloc ?_ ?_ _) | (with_reducible refine Below.drew ?_) | (with_reducible refine Below.stepG ?_ (by assumption) ?_) | (with_reducible refine Below.setCell ?_ ?_ _) | omega | (dsimp only; omega) | (simp; done) | (simp; omega))))).below hb2); have HH2 := Lib.hid (HH1.out.trans ((Below.trans (by (repeat' (first | (with_reducible exact Below.refl _ _) | (with_reducible assumption) | (with_reducible refine Below.alloc ?_ ?_ _) | (with_reducible refine Below.drew ?_) | (with_reducible refine Below.stepG ?_ (by assumption) ?_) | (with_reducible refine Below.setCell ?_ ?_ _) | omega | (dsimp only; omega) | (simp; done) | (simp; omega)))) hb2).mono HH1.out.size)))
    | (go_at_call 70; refine (HD.out _).mono ?_; rintro e w3 ⟨rfl, hb3⟩; have B3' := ((BB2.out.below (by (repeat' (first | (with_reducible exact Below.refl _ _) | (with_reducible assumption) | (with_reducible refine Below.alloc ?_ ?_ _) | (with_reducible refine Below.drew ?_) | (with_reducible refine Below.stepG ?_ (by assumption) ?_) | (with_reducible refine Below.setCell ?_ ?_ _) | omega | (dsimp only; omega) | (simp; done) | (simp; omega))))).below hb3); have BB3 := Lib.hid B3'; have HH3 := Lib.hid (HH2.out.trans ((Below.trans (by (repeat' (first | (with_reducible exact Below.refl _ _) | (with_reducible assumption) | (with_reducible refine Below.alloc ?_ ?_ _) | (with_reducible refine Below.drew ?_) | (with_reducible refine Below.stepG ?_ (by assumption) ?_) | (with_reducible refine Below.setCell ?_ ?_ _) | omega | (dsimp only; omega) | (simp; done) | (simp; omega)))) hb3).mono HH2.out.size)); obtain ⟨lt3, k0, k1, k2, f0, f1, f2⟩ := B3'))
  all_goals (
    go_wp2_with fail
    have B := BB3.out.set (hadA (hasL L n k) k).code (hadA (hasL L n k) k).hop (hadA (hasL L n k) k).len
    obtain ⟨_, e0, e1, e2, _, _, _⟩ := B
    refine bodyPost_ret (v := .agg #[.int .i64 (hadA (hasL L n k) k).code, .int .i64 (hadA (hasL L n k) k).hop, .int .i64 (hadA (hasL L n k) k).len]) (by simp [results, Tryd.results46, go_sem, e0, e1, e2]) rfl (doesT_quiet HT.out HH3.out (Nat.le_succ _) (b3_chg _ _ _ _ _)))
end Go.Proofs.YtoecmoicaklbaaaDoor

/- Contracts of package table: what a Put comes to (Do). -/
set_option linter.unusedVariables false
namespace Go.Proofs.YtoecmoicaklbaaaDoor
open Go Go.RowKit Go.Sort Wc Wk


set_option maxRecDepth 100000 in
set_option maxHeartbeats 2000000 in
theorem tdo_full (tb n k hop a : Nat) (L : List (Nat × Nat × Nat)) (F : Nat → Prop) (w : World) (t : Tab w tb L F) (hp : VP false n k) (h1 : 1 ≤ hop) (h2 : hop ≤ 999) (hl : L.length = 60) (h0 : hasL L n k = 0) :
    Calls Tryd.prog 46 #[.pointer (some ⟨tb, 0, none⟩), .agg #[.int .i64 1, .bool false, .int .u64 (hiOf false n), .int .u64 (loOf n), .int .i64 k, .int .i64 hop, .bool false, .int .u64 (hiOf false a), .int .u64 (loOf a)]] w (DoesT w tb L 9 0 0 F) := by
  have HT := Lib.hid t
  have C := Lib.hid (fun w => check_ok false n k w hp)
  have TG := Lib.hid (fun w t => tab_get tb n k L F w t hp)
  rw [h0, show (((0 : Nat) : Int)) = 0 from rfl] at TG
  have N := Lib.hid (fun w => no_any 9 w)
  obtain ⟨htb, _, cnt⟩ := t.count
  have htb1 : tb < w.heap.size + 1 := by omega
  have htb2 : tb < w.heap.size + 1 + 1 := by omega
  rw [hl, show (((60 : Nat) : Int)) = 60 from rfl] at cnt
  have g1 : decide ((hop : Int) < 1) = false := by simp; omega
  have g2 : decide ((999 : Int) < hop) = false := by simp; omega
  clear t h0 hl
  go_enter Tryd.func46, Tryd.ntmps46
  go_wp2_with (first | ((with_reducible refine (C.out _).mono ?_); rintro e w1 ⟨rfl, hb1⟩; (repeat (with_reducible (replace hb1 := Below.undrew hb1))); obtain ⟨hc1, hf1⟩ := bcell hb1; have hz1 := hb1.size; (repeat (first | rw [World.size_alloc] at hz1 | rw [World.size_drew] at hz1 | rw [World.size_setCell] at hz1)); (try have : w.heap.size < w1.heap.size := by omega); (try have : w.heap.size < w1.heap.size + 1 := by omega); (try have : w.heap.size < w1.heap.size + 1 + 1 := by omega); (try have : w.heap.size < w1.heap.size + 1 + 1 + 1 := by omega); (try have : w.heap.size + 1 < w1.heap.size := by omega); (try have : w.heap.size + 1 < w1.heap.size + 1 := by omega); (try have : w.heap.size + 1 < w1.heap.size + 1 + 1 := by omega); (try have : w.heap.size + 1 < w1.heap.size + 1 + 1 + 1 := by omega)))
  have HB1 : Below w.heap.size w w1 := by (repeat' (first | (with_reducible exact Below.refl _ _) | (with_reducible assumption) | (with_reducible refine Below.alloc ?_ ?_ _) | (with_reducible refine Below.drew ?_) | (with_reducible refine Below.stepG ?_ (by assumption) ?_) | (with_reducible refine Below.setCell ?_ ?_ _) | omega | (dsimp only; omega) | (simp; done) | (simp; omega)))
  have B1 : B3 w1 (w.heap.size + 1) 0 0 0 := B3.below (by have := b3_new (w.alloc (.cells #[.int .i64 1, .bool false, .int .u64 (hiOf false n), .int .u64 (loOf n), .int .i64 k, .int .i64 hop, .bool false, .int .u64 (hiOf false a), .int .u64 (loOf a)] 59)) 50; rw [World.size_alloc] at this; exact this) hb1
  refine (TG.out _ (HT.out.below HB1)).mono ?_
  rintro e w2 ⟨rfl, hb2⟩
  have H2 := Lib.hid (HB1.trans (hb2.mono HB1.size))
  have B2 := Lib.hid (B1.below hb2)
  clear hb1 hc1 hf1 B1 hb2
  go_wp2_with fail
  refine (N.out _).mono ?_
  rintro e w3 ⟨rfl, hb3⟩
  have B3' := B2.out.below hb3
  have HB3 := Lib.hid B3'
  have H3 := Lib.hid (H2.out.trans (hb3.mono H2.out.size))
  obtain ⟨lt3, k0, k1, k2, f0, f1, f2⟩ := B3'
  clear hb3
  go_wp2_with fail
  have B := HB3.out.set 9 0 0
  obtain ⟨_, e0, e1, e2, _, _, _⟩ := B
  refine bodyPost_ret (v := .agg #[.int .i64 9, .int .i64 0, .int .i64 0]) (by simp [results, Tryd.results46, go_sem, e0, e1, e2]) rfl (doesT_quiet HT.out H3.out (Nat.le_succ _) (b3_chg _ _ _ _ _))


set_option maxRecDepth 100000 in
set_option maxHeartbeats 2000000 in
theorem tdo_put (tb n k hop a : Nat) (L : List (Nat × Nat × Nat)) (F : Nat → Prop) (w : World) (t : Tab w tb L F) (hp : VP false n k) (h1 : 1 ≤ hop) (h2 : hop ≤ 999) (hl : L.length < 60) :
    Calls Tryd.prog 46 #[.pointer (some ⟨tb, 0, none⟩), .agg #[.int .i64 1, .bool false, .int .u64 (hiOf false n), .int .u64 (loOf n), .int .i64 k, .int .i64 hop, .bool false, .int .u64 (hiOf false a), .int .u64 (loOf a)]] w (DoesT w tb (putL L n k hop) 0 (hasL L n k) 0 F) := by
  have HT := Lib.hid t.lt
  have TP := Lib.hid (fun w' t => tab_put tb n k hop L (fun b => F b ∧ b < w.heap.size) w' t (by omega) hp (by omega) h2)
  have C := Lib.hid (fun w => check_ok false n k w hp)
  have TG := Lib.hid (fun w' t => tab_get tb n k L (fun b => F b ∧ b < w.heap.size) w' t hp)
  obtain ⟨htb, _, cnt⟩ := t.count
  have htb1 : tb < w.heap.size + 1 := by omega
  have htb2 : tb < w.heap.size + 1 + 1 := by omega
  have hne : ((L.length : Int) == 60) = false := by rw [beq_eq_false_iff_ne]; omega
  have g1 : decide ((hop : Int) < 1) = false := by simp; omega
  have g2 : decide ((999 : Int) < hop) = false := by simp; omega
  clear t
  go_enter Tryd.func46, Tryd.ntmps46
  go_wp2_with (first | ((with_reducible refine (C.out _).mono ?_); rintro e w1 ⟨rfl, hb1⟩; (repeat (with_reducible (replace hb1 := Below.undrew hb1))); obtain ⟨hc1, hf1⟩ := bcell hb1; have hz1 := hb1.size; (repeat (first | rw [World.size_alloc] at hz1 | rw [World.size_drew] at hz1 | rw [World.size_setCell] at hz1)); (try have : w.heap.size < w1.heap.size := by omega); (try have : w.heap.size < w1.heap.size + 1 := by omega); (try have : w.heap.size < w1.heap.size + 1 + 1 := by omega); (try have : w.heap.size < w1.heap.size + 1 + 1 + 1 := by omega); (try have : w.heap.size + 1 < w1.heap.size := by omega); (try have : w.heap.size + 1 < w1.heap.size + 1 := by omega); (try have : w.heap.size + 1 < w1.heap.size + 1 + 1 := by omega); (try have : w.heap.size + 1 < w1.heap.size + 1 + 1 + 1 := by omega)))
  have HB1 : Below w.heap.size w w1 := by (repeat' (first | (with_reducible exact Below.refl _ _) | (with_reducible assumption) | (with_reducible refine Below.alloc ?_ ?_ _) | (with_reducible refine Below.drew ?_) | (with_reducible refine Below.stepG ?_ (by assumption) ?_) | (with_reducible refine Below.setCell ?_ ?_ _) | omega | (dsimp only; omega) | (simp; done) | (simp; omega)))
  have B1 : B3 w1 (w.heap.size + 1) 0 0 0 := B3.below (by have := b3_new (w.alloc (.cells #[.int .i64 1, .bool false, .int .u64 (hiOf false n), .int .u64 (loOf n), .int .i64 k, .int .i64 hop, .bool false, .int .u64 (hiOf false a), .int .u64 (loOf a)] 59)) 50; rw [World.size_alloc] at this; exact this) hb1
  refine (TP.out _ (HT.out.below HB1)).mono ?_
  rintro e w3 ⟨rfl, ht3, hc3⟩
  have B3' := B1.chg hc3 (by omega)
  have HB3 := Lib.hid B3'
  have HT3 := Lib.hid ht3
  have HC3 := Lib.hid hc3
  have HH1 := Lib.hid HB1
  have hz := HH1.out.size
  obtain ⟨lt3, k0, k1, k2, f0, f1, f2⟩ := B3'
  clear ht3 hc3
  go_wp2_with fail
  have B := HB3.out.set 0 (hasL L n k) 0
  obtain ⟨_, e0, e1, e2, _, _, _⟩ := B
  refine bodyPost_ret (v := .agg #[.int .i64 0, .int .i64 (hasL L n k : Nat), .int .i64 0]) (by simp [results, Tryd.results46, go_sem, e0, e1, e2]) rfl
    (doesT_chg HH1.out HT3.out HC3.out (fun b h => h) (Nat.le_succ _) (by omega) (b3_chg _ _ _ _ _))


set_option maxRecDepth 100000 in
set_option maxHeartbeats 2000000 in
theorem tdo_again (tb n k hop a : Nat) (L : List (Nat × Nat × Nat)) (F : Nat → Prop) (w : World) (t : Tab w tb L F) (hp : VP false n k) (h1 : 1 ≤ hop) (h2 : hop ≤ 999) (hl : L.length = 60) (h0 : hasL L n k ≠ 0) :
    Calls Tryd.prog 46 #[.pointer (some ⟨tb, 0, none⟩), .agg #[.int .i64 1, .bool false, .int .u64 (hiOf false n), .int .u64 (loOf n), .int .i64 k, .int .i64 hop, .bool false, .int .u64 (hiOf false a), .int .u64 (loOf a)]] w (DoesT w tb (putL L n k hop) 0 (hasL L n k) 0 F) := by
  have HT := Lib.hid t.lt
  have TP := Lib.hid (fun w' t => tab_put tb n k hop L (fun b => F b ∧ b < w.heap.size) w' t (by omega) hp (by omega) h2)
  have C := Lib.hid (fun w => check_ok false n k w hp)
  have TG := Lib.hid (fun w' t => tab_get tb n k L (fun b => F b ∧ b < w.heap.size) w' t hp)
  obtain ⟨htb, _, cnt⟩ := t.count
  have htb1 : tb < w.heap.size + 1 := by omega
  have htb2 : tb < w.heap.size + 1 + 1 := by omega
  rw [hl, show (((60 : Nat) : Int)) = 60 from rfl] at cnt
  have hne : ((hasL L n k : Int) == 0) = false := by rw [beq_eq_false_iff_ne]; omega
  have g1 : decide ((hop : Int) < 1) = false := by simp; omega
  have g2 : decide ((999 : Int) < hop) = false := by simp; omega
  clear t
  go_enter Tryd.func46, Tryd.ntmps46
  go_wp2_with (first | ((with_reducible refine (C.out _).mono ?_); rintro e w1 ⟨rfl, hb1⟩; (repeat (with_reducible (replace hb1 := Below.undrew hb1))); obtain ⟨hc1, hf1⟩ := bcell hb1; have hz1 := hb1.size; (repeat (first | rw [World.size_alloc] at hz1 | rw [World.size_drew] at hz1 | rw [World.size_setCell] at hz1)); (try have : w.heap.size < w1.heap.size := by omega); (try have : w.heap.size < w1.heap.size + 1 := by omega); (try have : w.heap.size < w1.heap.size + 1 + 1 := by omega); (try have : w.heap.size < w1.heap.size + 1 + 1 + 1 := by omega); (try have : w.heap.size + 1 < w1.heap.size := by omega); (try have : w.heap.size + 1 < w1.heap.size + 1 := by omega); (try have : w.heap.size + 1 < w1.heap.size + 1 + 1 := by omega); (try have : w.heap.size + 1 < w1.heap.size + 1 + 1 + 1 := by omega)))
  have HB1 : Below w.heap.size w w1 := by (repeat' (first | (with_reducible exact Below.refl _ _) | (with_reducible assumption) | (with_reducible refine Below.alloc ?_ ?_ _) | (with_reducible refine Below.drew ?_) | (with_reducible refine Below.stepG ?_ (by assumption) ?_) | (with_reducible refine Below.setCell ?_ ?_ _) | omega | (dsimp only; omega) | (simp; done) | (simp; omega)))
  have B1 : B3 w1 (w.heap.size + 1) 0 0 0 := B3.below (by have := b3_new (w.alloc (.cells #[.int .i64 1, .bool false, .int .u64 (hiOf false n), .int .u64 (loOf n), .int .i64 k, .int .i64 hop, .bool false, .int .u64 (hiOf false a), .int .u64 (loOf a)] 59)) 50; rw [World.size_alloc] at this; exact this) hb1
  refine (TG.out _ (HT.out.below HB1)).mono ?_
  rintro e w2 ⟨rfl, hb2⟩
  have HB2 := HB1.trans (hb2.mono HB1.size)
  have B2 := B1.below hb2
  have hz2 := hb2.size
  have y1 := (hb2.cell (p := ⟨w.heap.size, 1, none⟩) (by simp; omega)).trans (show w1.cell? ⟨w.heap.size, 1, none⟩ = some (.bool false) by rw [hc1 _ _ (by simp; omega)]; simp)
  have y2 := (hb2.cell (p := ⟨w.heap.size, 2, none⟩) (by simp; omega)).trans (show w1.cell? ⟨w.heap.size, 2, none⟩ = some (.int .u64 (hiOf false n)) by rw [hc1 _ _ (by simp; omega)]; simp)
  have y3 := (hb2.cell (p := ⟨w.heap.size, 3, none⟩) (by simp; omega)).trans (show w1.cell? ⟨w.heap.size, 3, none⟩ = some (.int .u64 (loOf n)) by rw [hc1 _ _ (by simp; omega)]; simp)
  have y4 := (hb2.cell (p := ⟨w.heap.size, 4, none⟩) (by simp; omega)).trans (show w1.cell? ⟨w.heap.size, 4, none⟩ = some (.int .i64 k) by rw [hc1 _ _ (by simp; omega)]; simp)
  have y5 := (hb2.cell (p := ⟨w.heap.size, 5, none⟩) (by simp; omega)).trans (show w1.cell? ⟨w.heap.size, 5, none⟩ = some (.int .i64 hop) by rw [hc1 _ _ (by simp; omega)]; simp)
  clear hb1 hc1 hf1 B1 hb2
  go_wp2_with fail
  refine (TP.out _ (HT.out.below HB2)).mono ?_
  rintro e w3 ⟨rfl, ht3, hc3⟩
  have B3' := B2.chg hc3 (by omega)
  have HB3 := Lib.hid B3'
  have HT3 := Lib.hid ht3
  have HC3 := Lib.hid hc3
  have HH1 := Lib.hid HB2
  have hz := HH1.out.size
  obtain ⟨lt3, k0, k1, k2, f0, f1, f2⟩ := B3'
  clear ht3 hc3
  go_wp2_with fail
  have B := HB3.out.set 0 (hasL L n k) 0
  obtain ⟨_, e0, e1, e2, _, _, _⟩ := B
  refine bodyPost_ret (v := .agg #[.int .i64 0, .int .i64 (hasL L n k : Nat), .int .i64 0]) (by simp [results, Tryd.results46, go_sem, e0, e1, e2]) rfl
    (doesT_chg HH1.out HT3.out HC3.out (fun b h => h) (Nat.le_succ _) (by omega) (b3_chg _ _ _ _ _))

/-- Whatever the act. -/
theorem tdo_any (tb : Nat) (L : List (Nat × Nat × Nat)) (F : Nat → Prop) (x : ActD) (w : World) (t : Tab w tb L F) (hl : L.length ≤ 60) (hx : x.fit) :
    Calls Tryd.prog 46 #[.pointer (some ⟨tb, 0, none⟩), Value.agg #[.int .i64 x.kind, .bool false, .int .u64 (hiOf false x.n), .int .u64 (loOf x.n), .int .i64 x.k, .int .i64 x.hop, .bool false, .int .u64 (hiOf false x.a), .int .u64 (loOf x.a)]] w (DoesT w tb (tstep L x).1 (tstep L x).2.code (tstep L x).2.hop (tstep L x).2.len F) := by
  obtain ⟨vp, fa, kd, hop, top⟩ := hx
  obtain ⟨kind, n, k, h, a⟩ := x
  dsimp only at vp fa kd hop top ⊢
  have hk : kind = 1 ∨ kind = 2 ∨ kind = 3 ∨ kind = 4 := by omega
  rcases hk with rfl | rfl | rfl | rfl
  · have h1 := hop rfl
    by_cases hfull : L.length = 60
    · by_cases h0 : hasL L n k = 0
      · have e : tstep L ⟨1, n, k, h, a⟩ = (L, ⟨9, 0, 0⟩) := by simp [tstep, hfull, h0]
        rw [e]
        exact tdo_full tb n k h a L F w t vp h1 top hfull h0
      · have e : tstep L ⟨1, n, k, h, a⟩ = (putL L n k h, ⟨0, hasL L n k, 0⟩) := by simp [tstep, h0]
        rw [e]
        exact tdo_again tb n k h a L F w t vp h1 top hfull h0
    · have e : tstep L ⟨1, n, k, h, a⟩ = (putL L n k h, ⟨0, hasL L n k, 0⟩) := by simp [tstep, hfull]
      rw [e]
      exact tdo_put tb n k h a L F w t vp h1 top (by omega)
  · exact tdo_cut tb n k h a L F w t (by omega) vp
  · exact tdo_look tb n k h a L F w t fa
  · exact tdo_get tb n k h a L F w t vp
end Go.Proofs.YtoecmoicaklbaaaDoor

/- Contracts of package table: play, Play. -/
set_option linter.unusedVariables false
namespace Go.Proofs.YtoecmoicaklbaaaDoor
open Go Go.RowKit Go.Sort Wc Wk

theorem Tab.same {w w' : World} {tb : Nat} {L : List (Nat × Nat × Nat)} {F : Nat → Prop} (t : Tab w tb L F) (hz : w.heap.size ≤ w'.heap.size) (h : ∀ b, F b → b < w.heap.size → w'.heap[b]? = w.heap[b]?) : Tab w' tb L F := by
  obtain ⟨T, ⟨⟨lt, r0, r1, r2, fz, _⟩, r, nd⟩, hw, hL, hF⟩ := t
  have hc : ∀ b o, F b → b < w.heap.size → w'.cell? ⟨b, o, none⟩ = w.cell? ⟨b, o, none⟩ := fun b o hb hl => World.cell?_of_block (a := ⟨b, o, none⟩) (h b hb hl)
  have hf : ∀ b o, F b → b < w.heap.size → w'.frozen? ⟨b, o, none⟩ = w.frozen? ⟨b, o, none⟩ := fun b o hb hl => World.frozen?_of_block (a := ⟨b, o, none⟩) (h b hb hl)
  have hR : ∀ {t : BT}, BRep w t → (∀ b ∈ t.blocks, F b) → BRep w' t := by
    intro t
    induction t with
    | nil => exact fun _ _ => trivial
    | node b n k h l r ihl ihr =>
      rintro ⟨a, rl, rr⟩ hb
      have fb := hb b (by simp [BT.blocks])
      refine ⟨⟨Nat.lt_of_lt_of_le a.lt hz, (hc _ _ fb a.lt).trans a.c0, (hc _ _ fb a.lt).trans a.c1, (hc _ _ fb a.lt).trans a.c2, (hc _ _ fb a.lt).trans a.c3, (hc _ _ fb a.lt).trans a.c4, (hc _ _ fb a.lt).trans a.c5, (hc _ _ fb a.lt).trans a.c6, fun o ho => (hf _ _ fb a.lt).trans (a.fz o ho)⟩,
        ihl rl (fun x hx => hb x (by simp [BT.blocks, hx])), ihr rr (fun x hx => hb x (by simp [BT.blocks, hx]))⟩
  have ft := hF tb List.mem_cons_self
  exact ⟨T, ⟨⟨Nat.lt_of_lt_of_le lt hz, (hc _ _ ft lt).trans r0, (hc _ _ ft lt).trans r1, (hc _ _ ft lt).trans r2, fun o ho => (hf _ _ ft lt).trans (fz o ho), trivial⟩, hR r (fun b hb => hF b (List.mem_cons_of_mem _ hb)), nd⟩, hw, hL, hF⟩
theorem tab_new (w : World) (E : TypeId) : Tab (w.alloc (.cells #[.pointer none, .pointer none, .int .i64 0] E)) w.heap.size [] (fun b => b = w.heap.size) := by
  refine ⟨.nil, ⟨⟨by simp, by simp [rootP, ptrV, BT.ptr], by simp, by simp, fun o _ => by simp, trivial⟩, trivial, by simp [BT.blocks]⟩, trivial, rfl, fun b hb => by simpa [BT.blocks] using hb⟩
theorem eiAns : EI Tryd.prog 75 50 3 24 (.agg #[.int .i64 0, .int .i64 0, .int .i64 0]) := ⟨by kernel_rfl, by kernel_rfl, rfl, by decide⟩
/-- A table of the call's own and what has been told. -/
def Playing (w wr : World) (tb : Nat) (v : Value) (L : List (Nat × Nat × Nat)) (al : List AnsD) : Prop :=
  ∃ F : Nat → Prop, Tab wr tb L F ∧ (∀ b, F b → w.heap.size ≤ b ∧ b < wr.heap.size) ∧ Own wr w.heap.size 50 3 v (al.map ansCells) ∧ (∀ k, v.ownBlock = some k → ¬ F k) ∧ Below w.heap.size w wr
theorem Playing.below {w wr w' : World} {tb : Nat} {v : Value} {L : List (Nat × Nat × Nat)} {al : List AnsD} (h : Playing w wr tb v L al) (hb : Below wr.heap.size wr w') : Playing w w' tb v L al := by
  obtain ⟨F, t, f, o, a, b⟩ := h
  exact ⟨F, t.below hb, fun x hx => ⟨(f x hx).1, Nat.lt_of_lt_of_le (f x hx).2 hb.size⟩, o.below hb, a, b.trans (hb.mono b.size)⟩
theorem Playing.own {w wr : World} {tb : Nat} {v : Value} {L : List (Nat × Nat × Nat)} {al : List AnsD} (h : Playing w wr tb v L al) : Own wr w.heap.size 50 3 v (al.map ansCells) := by
  obtain ⟨F, t, f, o, a, b⟩ := h; exact o
theorem Playing.bel {w wr : World} {tb : Nat} {v : Value} {L : List (Nat × Nat × Nat)} {al : List AnsD} (h : Playing w wr tb v L al) : Below w.heap.size w wr := by
  obtain ⟨F, t, f, o, a, b⟩ := h; exact b
theorem brep_head {w : World} : ∀ {t : BT}, BRep w t → ∀ b ∈ t.blocks, w.cell? ⟨b, 0, none⟩ = some (.bool false)
  | .nil, _, b, hb => by cases hb
  | .node b n k h l r, ⟨a, rl, rr⟩, x, hx => by
    simp only [BT.blocks, List.mem_cons, List.mem_append] at hx
    rcases hx with rfl | hx | hx
    · exact a.c0
    · exact brep_head rl x hx
    · exact brep_head rr x hx
/-- A block of a table is no row of numbers. -/
theorem tab_head {w : World} {tb cnt : Nat} {T : BT} (t : TabR w tb T cnt) {b : Nat} (hb : b ∈ tb :: T.blocks) {c : Int} (h : w.cell? ⟨b, 0, none⟩ = some (.int .i64 c)) : False := by
  rcases List.mem_cons.1 hb with rfl | hb
  · have := t.tab.r0
    rw [h] at this
    cases hp : rootP [] T.ptr <;> rw [hp] at this <;> simp [ptrV] at this
  · have := brep_head t.rep b hb
    rw [h] at this
    simp at this
theorem Playing.snoc {w wr w' : World} {tb : Nat} {v v' : Value} {L : List (Nat × Nat × Nat)} {al : List AnsD} {x : AnsD} (h : Playing w wr tb v L al) (g : wr.grownBy w' v.ownBlock) (ho : Own w' w.heap.size 50 3 v' (al.map ansCells ++ [ansCells x])) :
    Playing w w' tb v' L (al ++ [x]) := by
  obtain ⟨F, t, f, o, a, b⟩ := h
  obtain ⟨T, tr, hw, hL, hF⟩ := t
  have t1 : Tab wr tb L (fun b => b ∈ tb :: T.blocks) := ⟨T, tr, hw, hL, fun b hb => hb⟩
  have eq : ∀ k, k ∈ tb :: T.blocks → k < wr.heap.size → w'.heap[k]? = wr.heap[k]? := fun k hk hl => g.block k hl (fun e => a k e.symm (hF k hk))
  refine ⟨_, t1.same g.size eq, fun x hx => ⟨(f x (hF x hx)).1, Nat.lt_of_lt_of_le (f x (hF x hx)).2 g.size⟩, by rw [List.map_append]; exact ho, fun k hk hf => ?_, b.trans ?_⟩
  · have hl := (f k (hF k hf)).2
    obtain ⟨g', cap', hv, _, _, _, _, _, hcc⟩ := ho.at (by simp)
    subst hv
    simp only [Value.ownBlock, Option.some.injEq] at hk
    subst hk
    have hd : ∃ y : AnsD, (al.map ansCells ++ [ansCells x])[0]? = some (ansCells y) := by
      cases al with
      | nil => exact ⟨x, rfl⟩
      | cons y l => exact ⟨y, rfl⟩
    obtain ⟨y, hy⟩ := hd
    have h0 := hcc 0 _ hy 0 (.int .i64 y.code) rfl
    rw [World.cell?_of_block (a := ⟨g', 0 * 3 + 0, none⟩) (eq g' hf hl)] at h0
    exact tab_head tr hf h0
  · exact Below.of_grown g b.size (fun k hk => (o.lt k hk).1)
/-- What a Do makes of it. -/
theorem playing_do {w wr : World} {tb : Nat} {v : Value} {L : List (Nat × Nat × Nat)} {al : List AnsD} {x : ActD} (h : Playing w wr tb v L al) (hl : L.length ≤ 60) (hx : x.fit) :
    Calls Tryd.prog 46 #[.pointer (some ⟨tb, 0, none⟩), Value.agg #[.int .i64 x.kind, .bool false, .int .u64 (hiOf false x.n), .int .u64 (loOf x.n), .int .i64 x.k, .int .i64 x.hop, .bool false, .int .u64 (hiOf false x.a), .int .u64 (loOf x.a)]] wr fun e w' => e = .returned (.agg #[.int .i64 (tstep L x).2.code, .int .i64 (tstep L x).2.hop, .int .i64 (tstep L x).2.len]) ∧ Playing w w' tb v (tstep L x).1 al ∧ wr.heap.size ≤ w'.heap.size ∧ Chg wr w' (fun b _ => w.heap.size ≤ b) := by
  obtain ⟨F, t, f, o, a, b⟩ := h
  refine (tdo_any tb L F x wr t hl hx).mono ?_
  rintro e w' ⟨rfl, t', c⟩
  refine ⟨rfl, ⟨_, t'.lt, fun k hk => ⟨?_, hk.2⟩, o.chgF c (fun k hk x hf => a k hk hf), fun k hk hf => ?_, b.trans (c.below b.size (fun k x hk hf => by have := (f k hf).1; omega))⟩, c.size, Chg.weak c (fun k x _ hf => (f k hf).1)⟩
  · rcases hk.1 with h | h
    · exact (f k h).1
    · have := b.size; omega
  · rcases hf.1 with h | h
    · exact a k hk h
    · have := (o.lt k hk).2; omega

/-- What a play hands back. -/
def RetPlay (w : World) (al : List ActD) (e : Ending) (w' : World) : Prop :=
  ∃ tb v, e = .returned (.tuple #[.pointer (some ⟨tb, 0, none⟩), v, .int .i64 0]) ∧ Playing w w' tb v (tend [] al) (trun [] al)

set_option maxRecDepth 100000 in
set_option maxHeartbeats 2000000 in
theorem play_any (a : Option Addr) (cap : Nat) (al : List ActD) (w : World) (hs : Sl w 9 (.slice a al.length cap) (al.map actCells)) (hl : al.length ≤ 100) (hok : ∀ x ∈ al, ActD.fit x) :
    Calls Tryd.prog 29 #[.slice a al.length cap] w (RetPlay w al) := by
  have HS := Lib.hid hs
  have HK := Lib.hid hok
  have d1 : decide ((100 : Int) < al.length) = false := by simp; omega
  have hlw1 := hs.lens.2.1
  have hlw2 := hs.lens.2.2
  clear hs hok
  go_enter Tryd.func29, Tryd.ntmps29
  go_wp2_with fail
  have HP0 := Lib.hid (show Playing w (w.alloc (.cells #[.pointer none, .pointer none, .int .i64 0] 99)) w.heap.size (.slice none 0 0) [] [] from
    ⟨_, tab_new w _, fun b hb => by subst hb; simp, Own.nil _ _ _ _, fun k hk => (by simp [Value.ownBlock] at hk), (Below.refl _ _).alloc (Nat.le_refl _) _⟩)
  have hWs : (w.alloc (.cells #[.pointer none, .pointer none, .int .i64 0] 99)).heap.size = w.heap.size + 1 := by simp
  generalize w.alloc (.cells #[.pointer none, .pointer none, .int .i64 0] 99) = W at *
  obtain ⟨tb, htb⟩ : ∃ tb, tb = w.heap.size := ⟨_, rfl⟩
  rw [← htb] at HP0 ⊢
  have HTB := Lib.hid htb
  clear htb hWs
  go_loopw [6, 16] (fun v i wr => ∃ (m : Nat), m ≤ al.length ∧ i = .int .i64 m ∧ Hid (Playing w wr tb v (tend [] (al.take m)) (trun [] (al.take m)))) (fun _ i _ => al.length - (intOf i).toNat)
  case atStart => exact ⟨0, Nat.zero_le _, rfl, HP0⟩
  case round =>
    obtain ⟨m, hm, rfl, HP⟩ := hrel
    by_cases hlt : m < al.length
    · obtain ⟨x, hx⟩ : ∃ x, al[m]? = some x := ⟨_, List.getElem?_eq_getElem hlt⟩
      obtain ⟨b, off, rfl, hb, d0, d1, d2, d3, d4, d5, d6, d7, d8⟩ := Sl.act HS.out HP.out.bel hx
      have HX := Lib.hid (HK.out x (List.mem_of_getElem? hx))
      have HA := Lib.hid (trun_at (L := []) hx)
      have HT := Lib.hid (show al.take (m + 1) = al.take m ++ [x] by rw [List.take_add_one, hx]; rfl)
      have HL := Lib.hid (tend_ok (L := []) TabOk.nil (l := al.take m) (fun y hy => HK.out y (List.mem_of_mem_take hy))).len
      clear hx
      generalize hL0 : tend [] (al.take m) = L0 at *
      generalize hA0 : trun [] (al.take m) = A0 at *
      have HL0 := Lib.hid hL0
      have hdl : A0.length = m := by rw [← hA0, trun_len, List.length_take]; omega
      have HDL := Lib.hid hdl
      have HA0 := Lib.hid hA0
      clear hL0 hA0 hdl
      go_wp2_with fail
      have hYB : Below wr.heap.size wr (wr.alloc (.cells (actCells x).toArray 59)) := (Below.refl _ _).alloc (Nat.le_refl _) _
      refine (playing_do (x := x) (HP.out.below hYB) HL.out HX.out).mono ?_
      rintro e w1 ⟨rfl, hp1, hz1, hc1⟩
      have HP1 := Lib.hid hp1
      have hz1' : wr.heap.size + 1 ≤ w1.heap.size := by simpa using hz1
      generalize hdd : (tstep L0 x).2 = d at *
      have HDD := Lib.hid hdd
      clear hp1 hz1 hc1 hdd hYB
      go_wp2_with (at_builtin; refine wpList_append_rows rfl _ _ 75 50 3 24 _ rfl eiAns w.heap.size _ (A0.map ansCells) rfl (HP1.out.own.alloc _) _ _ rfl (sl_new (c := ansCells d) (by simp) rfl) (by intro c hc; simp at hc; subst hc; exact ansCells_one d) (by have := HDL.out; simp; omega) (by decide) (by have := HP1.out.bel.size; simp; omega) (by simp) ?_; intro v' w5 hown' hgr hb5)
      have hP5 := Playing.snoc (x := d) (HP1.out.below (w' := w1.alloc (.cells (ansCells d).toArray 50)) ((Below.refl _ _).alloc (Nat.le_refl _) _)) hgr hown'
      have e1 := HA.out.2
      have e2 : trun [] (al.take (m + 1)) = A0 ++ [d] := by
        rw [HT.out, trun_app, HA0.out, HL0.out]
        show A0 ++ [(tstep L0 x).2] = _
        rw [HDD.out]
      have HP5 := Lib.hid hP5
      rw [← e1, ← e2] at HP5
      clear hP5 hown' hgr hb5 e1 e2
      go_roundw
      case rel => exact ⟨m + 1, by omega, by go_num, HP5⟩
      case measure => simp [intOf]; omega
    · obtain rfl : m = al.length := by omega
      go_wp2
      go_returns
      have e1 : al.take al.length = al := List.take_of_length_le (Nat.le_refl _)
      rw [e1] at HP
      exact ⟨tb, _, rfl, HP.out⟩
end Go.Proofs.YtoecmoicaklbaaaDoor
