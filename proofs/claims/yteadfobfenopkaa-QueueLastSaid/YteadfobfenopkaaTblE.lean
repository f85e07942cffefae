
/- Contracts of package table: what an act comes to (Do). -/
import Derived.Test.YteadfobfenopkaaTblD
set_option linter.unusedVariables false
namespace Go.Proofs.Yteadfobfenopkaa
open Go Go.RowKit Go.Sort Wc Wk

/-- What an act does: what is told, the list behind it, what it leaves alone. -/
def DoesT (w : World) (tb : Nat) (L' : List (Nat × Nat × Nat)) (c p q : Int) (F : Nat → Prop) (e : Ending) (w' : World) : Prop :=
  e = .returned (.agg #[.int .i64 c, .int .i64 p, .int .i64 q]) ∧ Tab w' tb L' (fun b => F b ∨ w.heap.size ≤ b) ∧ Chg w w' (fun b _ => F b)
theorem doesT_quiet {w w2 w' : World} {tb : Nat} {L : List (Nat × Nat × Nat)} {c p q : Int} {F : Nat → Prop} (t : Tab w tb L F) (hb : Below w.heap.size w w2) {o : Nat} (ho : w.heap.size ≤ o) (hc : Chg w2 w' (fun b _ => b = o)) :
    DoesT w tb L c p q F (.returned (.agg #[.int .i64 c, .int .i64 p, .int .i64 q])) w' := by
  have h1 : Below w.heap.size w w' := hb.trans (hc.below hb.size (fun b x hx e => by omega))
  exact ⟨rfl, (t.below h1).weak (fun b h => .inl h), Chg.of_below h1 _⟩
theorem b3_chg (w : World) (o : Nat) (u0 u1 u2 : Value) : Chg w (((w.setCell ⟨o, 0, none⟩ u0).setCell ⟨o, 1, none⟩ u1).setCell ⟨o, 2, none⟩ u2) (fun b _ => b = o) :=
  ((chg_blk w o 0 u0).trans (chg_blk _ o 1 u1) (fun _ _ _ h => h)).trans (chg_blk _ o 2 u2) (fun _ _ _ h => h)
theorem wz (w : World) (o1 o2 : Obj) : (((w.alloc o1).alloc o2)).heap.size = w.heap.size + 1 + 1 := by simp


set_option maxRecDepth 100000 in
set_option maxHeartbeats 2000000 in
theorem tdo_look (tb n k hop a : Nat) (L : List (Nat × Nat × Nat)) (F : Nat → Prop) (w : World) (t : Tab w tb L F) (ha : Fits false a) :
    Calls Try.prog 41 #[.pointer (some ⟨tb, 0, none⟩), .agg #[.int .i64 3, .bool false, .int .u64 (hiOf false n), .int .u64 (loOf n), .int .i64 k, .int .i64 hop, .bool false, .int .u64 (hiOf false a), .int .u64 (loOf a)]] w (DoesT w tb L 0 (goesL L a).1 (goesL L a).2 F) := by
  have HT := Lib.hid t
  have M := Lib.hid (fun w => may_any false a w ha)
  have TL := Lib.hid (fun w t => tab_look tb a L F w t ha)
  clear t
  go_enter Try.func41, Try.ntmps41
  go_wp2_with (first | ((with_reducible refine (M.out _).mono ?_); rintro e w1 ⟨rfl, hb1⟩; (repeat (with_reducible (replace hb1 := Below.undrew hb1))); obtain ⟨hc1, hf1⟩ := bcell hb1; have hz1 := hb1.size; (repeat (first | rw [World.size_alloc] at hz1 | rw [World.size_drew] at hz1 | rw [World.size_setCell] at hz1)); (try have : w.heap.size < w1.heap.size := by omega); (try have : w.heap.size < w1.heap.size + 1 := by omega); (try have : w.heap.size < w1.heap.size + 1 + 1 := by omega); (try have : w.heap.size < w1.heap.size + 1 + 1 + 1 := by omega); (try have : w.heap.size + 1 < w1.heap.size := by omega); (try have : w.heap.size + 1 < w1.heap.size + 1 := by omega); (try have : w.heap.size + 1 < w1.heap.size + 1 + 1 := by omega); (try have : w.heap.size + 1 < w1.heap.size + 1 + 1 + 1 := by omega)))
  have HB1 : Below w.heap.size w w1 := by (repeat' (first | (with_reducible exact Below.refl _ _) | (with_reducible assumption) | (with_reducible refine Below.alloc ?_ ?_ _) | (with_reducible refine Below.drew ?_) | (with_reducible refine Below.stepG ?_ (by assumption) ?_) | (with_reducible refine Below.setCell ?_ ?_ _) | omega | (dsimp only; omega) | (simp; done) | (simp; omega)))
  have B1 : B3 w1 (w.heap.size + 1) 0 0 0 := B3.below (by have := b3_new (w.alloc (.cells #[.int .i64 3, .bool false, .int .u64 (hiOf false n), .int .u64 (loOf n), .int .i64 k, .int .i64 hop, .bool false, .int .u64 (hiOf false a), .int .u64 (loOf a)] 35)) 81; rw [World.size_alloc] at this; exact this) hb1
  refine (TL.out _ (HT.out.below HB1)).mono ?_
  rintro e w2 ⟨rfl, hb2⟩
  have B2 := B1.below hb2
  have HB2 := Lib.hid B2
  have H2 := Lib.hid (HB1.trans (hb2.mono HB1.size))
  obtain ⟨lt2, _, k0, k1, k2, f0, f1, f2⟩ : True ∧ True ∧ _ ∧ _ ∧ _ ∧ _ ∧ _ ∧ _ := ⟨trivial, trivial, B2.c0, B2.c1, B2.c2, B2.f0, B2.f1, B2.f2⟩
  clear hb1 hc1 hf1 B1 B2 hb2
  go_wp2_with fail
  have B := HB2.out.set 0 (goesL L a).1 (goesL L a).2
  obtain ⟨_, e0, e1, e2, _, _, _⟩ := B
  refine bodyPost_ret (v := .agg #[.int .i64 0, .int .i64 ((goesL L a).1 : Nat), .int .i64 ((goesL L a).2 : Nat)]) (by simp [results, Try.results41, go_sem, e0, e1, e2]) rfl (doesT_quiet HT.out H2.out (Nat.le_succ _) (b3_chg _ _ _ _ _))
theorem doesT_chg {w w1 w2 w' : World} {tb o : Nat} {L' : List (Nat × Nat × Nat)} {c p q : Int} {F G : Nat → Prop} (hb : Below w.heap.size w w1) (t2 : Tab w2 tb L' (fun b => G b ∨ w1.heap.size ≤ b)) (hc : Chg w1 w2 (fun b _ => G b)) (hG : ∀ b, G b → F b ∧ b < w.heap.size)
    (ho : w.heap.size ≤ o) (ho1 : o < w1.heap.size) (hc2 : Chg w2 w' (fun b _ => b = o)) : DoesT w tb L' c p q F (.returned (.agg #[.int .i64 c, .int .i64 p, .int .i64 q])) w' := by
  refine ⟨rfl, (t2.keep hc2 (fun b h e => ?_)).weak (fun b h => ?_), ((Chg.of_below hb (fun b (_ : Nat) => F b)).trans hc (fun b x _ h => (hG b h).1)).trans hc2 (fun b x hx e => absurd e (by omega))⟩
  · rcases h with h | h
    · have := (hG b h).2; omega
    · omega
  · rcases h with h | h
    · exact .inl (hG b h).1
    · have := hb.size; exact .inr (by omega)


set_option maxRecDepth 100000 in
set_option maxHeartbeats 2000000 in
theorem tdo_cut (tb n k hop a : Nat) (L : List (Nat × Nat × Nat)) (F : Nat → Prop) (w : World) (t : Tab w tb L F) (hl : L.length ≤ 1000) (hp : VP false n k) :
    Calls Try.prog 41 #[.pointer (some ⟨tb, 0, none⟩), .agg #[.int .i64 2, .bool false, .int .u64 (hiOf false n), .int .u64 (loOf n), .int .i64 k, .int .i64 hop, .bool false, .int .u64 (hiOf false a), .int .u64 (loOf a)]] w (DoesT w tb (cutL L n k) (hadA (hasL L n k) 0).code (hadA (hasL L n k) 0).hop (hadA (hasL L n k) 0).len F) := by
  have HT := Lib.hid t.lt
  have C := Lib.hid (fun w => check_ok false n k w hp)
  have TC := Lib.hid (fun w' t => tab_cut tb n k L (fun b => F b ∧ b < w.heap.size) w' t hl hp)
  have HD := Lib.hid (fun w => had_any (hasL L n k) 0 w)
  clear t
  go_enter Try.func41, Try.ntmps41
  go_wp2_with (first | ((with_reducible refine (C.out _).mono ?_); rintro e w1 ⟨rfl, hb1⟩; (repeat (with_reducible (replace hb1 := Below.undrew hb1))); obtain ⟨hc1, hf1⟩ := bcell hb1; have hz1 := hb1.size; (repeat (first | rw [World.size_alloc] at hz1 | rw [World.size_drew] at hz1 | rw [World.size_setCell] at hz1)); (try have : w.heap.size < w1.heap.size := by omega); (try have : w.heap.size < w1.heap.size + 1 := by omega); (try have : w.heap.size < w1.heap.size + 1 + 1 := by omega); (try have : w.heap.size < w1.heap.size + 1 + 1 + 1 := by omega); (try have : w.heap.size + 1 < w1.heap.size := by omega); (try have : w.heap.size + 1 < w1.heap.size + 1 := by omega); (try have : w.heap.size + 1 < w1.heap.size + 1 + 1 := by omega); (try have : w.heap.size + 1 < w1.heap.size + 1 + 1 + 1 := by omega)))
  have HB1 : Below w.heap.size w w1 := by (repeat' (first | (with_reducible exact Below.refl _ _) | (with_reducible assumption) | (with_reducible refine Below.alloc ?_ ?_ _) | (with_reducible refine Below.drew ?_) | (with_reducible refine Below.stepG ?_ (by assumption) ?_) | (with_reducible refine Below.setCell ?_ ?_ _) | omega | (dsimp only; omega) | (simp; done) | (simp; omega)))
  have B1 : B3 w1 (w.heap.size + 1) 0 0 0 := B3.below (by have := b3_new (w.alloc (.cells #[.int .i64 2, .bool false, .int .u64 (hiOf false n), .int .u64 (loOf n), .int .i64 k, .int .i64 hop, .bool false, .int .u64 (hiOf false a), .int .u64 (loOf a)] 35)) 81; rw [World.size_alloc] at this; exact this) hb1
  refine (TC.out _ (HT.out.below HB1)).mono ?_
  rintro e w2 ⟨rfl, ht2, hc2⟩
  have B2 := B1.chg hc2 (by omega)
  have HT2 := Lib.hid ht2
  have HC2 := Lib.hid hc2
  have HH1 := Lib.hid HB1
  clear hb1 hc1 hf1 B1 ht2 hc2 HB1
  go_wp2_with fail
  refine (HD.out _).mono ?_
  rintro e w3 ⟨rfl, hb3⟩
  have B3' := B2.below hb3
  have HB3 := Lib.hid B3'
  have H3 := Lib.hid hb3
  obtain ⟨lt3, k0, k1, k2, f0, f1, f2⟩ := B3'
  clear B2 hb3
  go_wp2_with fail
  have B := HB3.out.set (hadA (hasL L n k) 0).code (hadA (hasL L n k) 0).hop (hadA (hasL L n k) 0).len
  obtain ⟨_, e0, e1, e2, _, _, _⟩ := B
  refine bodyPost_ret (v := .agg #[.int .i64 (hadA (hasL L n k) 0).code, .int .i64 (hadA (hasL L n k) 0).hop, .int .i64 (hadA (hasL L n k) 0).len]) (by simp [results, Try.results41, go_sem, e0, e1, e2]) rfl
    (doesT_chg HH1.out (HT2.out.weak (fun b h => .inl h)) HC2.out (fun b h => h) (Nat.le_succ _) (by omega) ((Chg.of_below H3.out (fun b (_ : Nat) => b = w.heap.size + 1)).trans (b3_chg _ _ _ _ _) (fun _ _ _ h => h)))


set_option maxRecDepth 100000 in
set_option maxHeartbeats 2000000 in
theorem tdo_get (tb n k hop a : Nat) (L : List (Nat × Nat × Nat)) (F : Nat → Prop) (w : World) (t : Tab w tb L F) (hp : VP false n k) :
    Calls Try.prog 41 #[.pointer (some ⟨tb, 0, none⟩), .agg #[.int .i64 4, .bool false, .int .u64 (hiOf false n), .int .u64 (loOf n), .int .i64 k, .int .i64 hop, .bool false, .int .u64 (hiOf false a), .int .u64 (loOf a)]] w (DoesT w tb L (hadA (hasL L n k) k).code (hadA (hasL L n k) k).hop (hadA (hasL L n k) k).len F) := by
  have HT := Lib.hid t
  have C := Lib.hid (fun w => check_ok false n k w hp)
  have TG := Lib.hid (fun w t => tab_get tb n k L F w t hp)
  have HD := Lib.hid (fun w => had_any (hasL L n k) k w)
  clear t
  go_enter Try.func41, Try.ntmps41
  go_wp2_with (first | ((with_reducible refine (C.out _).mono ?_); rintro e w1 ⟨rfl, hb1⟩; (repeat (with_reducible (replace hb1 := Below.undrew hb1))); obtain ⟨hc1, hf1⟩ := bcell hb1; have hz1 := hb1.size; (repeat (first | rw [World.size_alloc] at hz1 | rw [World.size_drew] at hz1 | rw [World.size_setCell] at hz1)); (try have : w.heap.size < w1.heap.size := by omega); (try have : w.heap.size < w1.heap.size + 1 := by omega); (try have : w.heap.size < w1.heap.size + 1 + 1 := by omega); (try have : w.heap.size < w1.heap.size + 1 + 1 + 1 := by omega); (try have : w.heap.size + 1 < w1.heap.size := by omega); (try have : w.heap.size + 1 < w1.heap.size + 1 := by omega); (try have : w.heap.size + 1 < w1.heap.size + 1 + 1 := by omega); (try have : w.heap.size + 1 < w1.heap.size + 1 + 1 + 1 := by omega)))
  have HB1 : Below w.heap.size w w1 := by (repeat' (first | (with_reducible exact Below.refl _ _) | (with_reducible assumption) | (with_reducible refine Below.alloc ?_ ?_ _) | (with_reducible refine Below.drew ?_) | (with_reducible refine Below.stepG ?_ (by assumption) ?_) | (with_reducible refine Below.setCell ?_ ?_ _) | omega | (dsimp only; omega) | (simp; done) | (simp; omega)))
  have B1 : B3 w1 (w.heap.size + 1) 0 0 0 := B3.below (by have := b3_new (w.alloc (.cells #[.int .i64 4, .bool false, .int .u64 (hiOf false n), .int .u64 (loOf n), .int .i64 k, .int .i64 hop, .bool false, .int .u64 (hiOf false a), .int .u64 (loOf a)] 35)) 81; rw [World.size_alloc] at this; exact this) hb1
  have G1 : w1.cell? ⟨w.heap.size, 1, none⟩ = some (.bool false) := by rw [hc1 _ _ (by simp; omega)]; simp
  have G2 : w1.cell? ⟨w.heap.size, 2, none⟩ = some (.int .u64 (hiOf false n)) := by rw [hc1 _ _ (by simp; omega)]; simp
  have G3 : w1.cell? ⟨w.heap.size, 3, none⟩ = some (.int .u64 (loOf n)) := by rw [hc1 _ _ (by simp; omega)]; simp
  have G4 : w1.cell? ⟨w.heap.size, 4, none⟩ = some (.int .i64 k) := by rw [hc1 _ _ (by simp; omega)]; simp
  have HBB := Lib.hid B1
  have HH1 := Lib.hid HB1
  have hw1 : w.heap.size < w1.heap.size := by omega
  clear hb1 hc1 hf1 B1
  go_region_with (first
    | (go_at_call 66; refine (TG.out _ (HT.out.below (by (repeat' (first | (with_reducible exact Below.refl _ _) | (with_reducible assumption) | (with_reducible refine Below.alloc ?_ ?_ _) | (with_reducible refine Below.drew ?_) | (with_reducible refine Below.stepG ?_ (by assumption) ?_) | (with_reducible refine Below.setCell ?_ ?_ _) | omega | (dsimp only; omega) | (simp; done) | (simp; omega)))))).mono ?_; rintro e w2 ⟨rfl, hb2⟩; have J4 := (hb2.cell (p := ⟨w.heap.size, 4, none⟩) (by simpa using hw1)).trans (by simpa using G4); have hw2 : w.heap.size < w2.heap.size := Nat.lt_of_lt_of_le (by simpa using hw1) hb2.size; have BB2 := Lib.hid ((HBB.out.below (by (repeat' (first | (with_reducible exact Below.refl _ _) | (with_reducible assumption) | (with_reducible refine Below.alloc ?_ ?_ _) | (with_reducible refine Below.drew ?_) | (with_reducible refine Below.stepG ?_ (by assumption) ?_) | (with_reducible refine Below.setCell ?_ ?_ _) | omega | (dsimp only; omega) | (simp; done) | (simp; omega))))).below hb2); have HH2 := Lib.hid (HH1.out.trans ((Below.trans (by (repeat' (first | (with_reducible exact Below.refl _ _) | (with_reducible assumption) | (with_reducible refine Below.alloc ?_ ?_ _) | (with_reducible refine Below.drew ?_) | (with_reducible refine Below.stepG ?_ (by assumption) ?_) | (with_reducible refine Below.setCell ?_ ?_ _) | omega | (dsimp only; omega) | (simp; done) | (simp; omega)))) hb2).mono HH1.out.size)))
    | (go_at_call 64; refine (HD.out _).mono ?_; rintro e w3 ⟨rfl, hb3⟩; have B3' := ((BB2.out.below (by (repeat' (first | (with_reducible exact Below.refl _ _) | (with_reducible assumption) | (with_reducible refine Below.alloc ?_ ?_ _) | (with_reducible refine Below.drew ?_) | (with_reducible refine Below.stepG ?_ (by assumption) ?_) | (with_reducible refine Below.setCell ?_ ?_ _) | omega | (dsimp only; omega) | (simp; done) | (simp; omega))))).below hb3); have BB3 := Lib.hid B3'; have HH3 := Lib.hid (HH2.out.trans ((Below.trans (by (repeat' (first | (with_reducible exact Below.refl _ _) | (with_reducible assumption) | (with_reducible refine Below.alloc ?_ ?_ _) | (with_reducible refine Below.drew ?_) | (with_reducible refine Below.stepG ?_ (by assumption) ?_) | (with_reducible refine Below.setCell ?_ ?_ _) | omega | (dsimp only; omega) | (simp; done) | (simp; omega)))) hb3).mono HH2.out.size)); obtain ⟨lt3, k0, k1, k2, f0, f1, f2⟩ := B3'))
  all_goals (
    go_wp2_with fail
    have B := BB3.out.set (hadA (hasL L n k) k).code (hadA (hasL L n k) k).hop (hadA (hasL L n k) k).len
    obtain ⟨_, e0, e1, e2, _, _, _⟩ := B
    refine bodyPost_ret (v := .agg #[.int .i64 (hadA (hasL L n k) k).code, .int .i64 (hadA (hasL L n k) k).hop, .int .i64 (hadA (hasL L n k) k).len]) (by simp [results, Try.results41, go_sem, e0, e1, e2]) rfl (doesT_quiet HT.out HH3.out (Nat.le_succ _) (b3_chg _ _ _ _ _)))
end Go.Proofs.Yteadfobfenopkaa
