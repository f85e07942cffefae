
/- Contracts of package table: what a Put comes to (Do). -/
import Derived.Test.YtoecmoicaklbaaaTblE
set_option linter.unusedVariables false
namespace Go.Proofs.Ytoecmoicaklbaaa
open Go Go.RowKit Go.Sort Wc Wk


set_option maxRecDepth 100000 in
set_option maxHeartbeats 2000000 in
theorem tdo_full (tb n k hop a : Nat) (L : List (Nat × Nat × Nat)) (F : Nat → Prop) (w : World) (t : Tab w tb L F) (hp : VP false n k) (h1 : 1 ≤ hop) (h2 : hop ≤ 999) (hl : L.length = 60) (h0 : hasL L n k = 0) :
    Calls Try.prog 59 #[.pointer (some ⟨tb, 0, none⟩), .agg #[.int .i64 1, .bool false, .int .u64 (hiOf false n), .int .u64 (loOf n), .int .i64 k, .int .i64 hop, .bool false, .int .u64 (hiOf false a), .int .u64 (loOf a)]] w (DoesT w tb L 9 0 0 F) := by
  have HT := Lib.hid t
  have C := Lib.hid (fun w => check_ok false n k w hp)
  have TG := Lib.hid (fun w t => tab_get tb n k L F w t hp)
  rw [h0, show (((0 : Nat) : Int)) = 0 from rfl] at TG
  have N := Lib.hid (fun w => no_any 9 w)
  obtain ⟨htb, _, cnt⟩ := t.count
  have htb1 : tb < w.heap.size + 1 := by omega
  have htb2 : tb < w.heap.size + 1 + 1 := by omega
  rw [hl, show (((60 : Nat) : Int)) = 60 from rfl] at cnt
  have g1 : decide ((hop : Int) < 1) = false := by simp; omega
  have g2 : decide ((999 : Int) < hop) = false := by simp; omega
  clear t h0 hl
  go_enter Try.func59, Try.ntmps59
  go_wp2_with (first | ((with_reducible refine (C.out _).mono ?_); rintro e w1 ⟨rfl, hb1⟩; (repeat (with_reducible (replace hb1 := Below.undrew hb1))); obtain ⟨hc1, hf1⟩ := bcell hb1; have hz1 := hb1.size; (repeat (first | rw [World.size_alloc] at hz1 | rw [World.size_drew] at hz1 | rw [World.size_setCell] at hz1)); (try have : w.heap.size < w1.heap.size := by omega); (try have : w.heap.size < w1.heap.size + 1 := by omega); (try have : w.heap.size < w1.heap.size + 1 + 1 := by omega); (try have : w.heap.size < w1.heap.size + 1 + 1 + 1 := by omega); (try have : w.heap.size + 1 < w1.heap.size := by omega); (try have : w.heap.size + 1 < w1.heap.size + 1 := by omega); (try have : w.heap.size + 1 < w1.heap.size + 1 + 1 := by omega); (try have : w.heap.size + 1 < w1.heap.size + 1 + 1 + 1 := by omega)))
  have HB1 : Below w.heap.size w w1 := by (repeat' (first | (with_reducible exact Below.refl _ _) | (with_reducible assumption) | (with_reducible refine Below.alloc ?_ ?_ _) | (with_reducible refine Below.drew ?_) | (with_reducible refine Below.stepG ?_ (by assumption) ?_) | (with_reducible refine Below.setCell ?_ ?_ _) | omega | (dsimp only; omega) | (simp; done) | (simp; omega)))
  have B1 : B3 w1 (w.heap.size + 1) 0 0 0 := B3.below (by have := b3_new (w.alloc (.cells #[.int .i64 1, .bool false, .int .u64 (hiOf false n), .int .u64 (loOf n), .int .i64 k, .int .i64 hop, .bool false, .int .u64 (hiOf false a), .int .u64 (loOf a)] 32)) 54; rw [World.size_alloc] at this; exact this) hb1
  refine (TG.out _ (HT.out.below HB1)).mono ?_
  rintro e w2 ⟨rfl, hb2⟩
  have H2 := Lib.hid (HB1.trans (hb2.mono HB1.size))
  have B2 := Lib.hid (B1.below hb2)
  clear hb1 hc1 hf1 B1 hb2
  go_wp2_with fail
  refine (N.out _).mono ?_
  rintro e w3 ⟨rfl, hb3⟩
  have B3' := B2.out.below hb3
  have HB3 := Lib.hid B3'
  have H3 := Lib.hid (H2.out.trans (hb3.mono H2.out.size))
  obtain ⟨lt3, k0, k1, k2, f0, f1, f2⟩ := B3'
  clear hb3
  go_wp2_with fail
  have B := HB3.out.set 9 0 0
  obtain ⟨_, e0, e1, e2, _, _, _⟩ := B
  refine bodyPost_ret (v := .agg #[.int .i64 9, .int .i64 0, .int .i64 0]) (by simp [results, Try.results59, go_sem, e0, e1, e2]) rfl (doesT_quiet HT.out H3.out (Nat.le_succ _) (b3_chg _ _ _ _ _))


set_option maxRecDepth 100000 in
set_option maxHeartbeats 2000000 in
theorem tdo_put (tb n k hop a : Nat) (L : List (Nat × Nat × Nat)) (F : Nat → Prop) (w : World) (t : Tab w tb L F) (hp : VP false n k) (h1 : 1 ≤ hop) (h2 : hop ≤ 999) (hl : L.length < 60) :
    Calls Try.prog 59 #[.pointer (some ⟨tb, 0, none⟩), .agg #[.int .i64 1, .bool false, .int .u64 (hiOf false n), .int .u64 (loOf n), .int .i64 k, .int .i64 hop, .bool false, .int .u64 (hiOf false a), .int .u64 (loOf a)]] w (DoesT w tb (putL L n k hop) 0 (hasL L n k) 0 F) := by
  have HT := Lib.hid t.lt
  have TP := Lib.hid (fun w' t => tab_put tb n k hop L (fun b => F b ∧ b < w.heap.size) w' t (by omega) hp (by omega) h2)
  have C := Lib.hid (fun w => check_ok false n k w hp)
  have TG := Lib.hid (fun w' t => tab_get tb n k L (fun b => F b ∧ b < w.heap.size) w' t hp)
  obtain ⟨htb, _, cnt⟩ := t.count
  have htb1 : tb < w.heap.size + 1 := by omega
  have htb2 : tb < w.heap.size + 1 + 1 := by omega
  have hne : ((L.length : Int) == 60) = false := by rw [beq_eq_false_iff_ne]; omega
  have g1 : decide ((hop : Int) < 1) = false := by simp; omega
  have g2 : decide ((999 : Int) < hop) = false := by simp; omega
  clear t
  go_enter Try.func59, Try.ntmps59
  go_wp2_with (first | ((with_reducible refine (C.out _).mono ?_); rintro e w1 ⟨rfl, hb1⟩; (repeat (with_reducible (replace hb1 := Below.undrew hb1))); obtain ⟨hc1, hf1⟩ := bcell hb1; have hz1 := hb1.size; (repeat (first | rw [World.size_alloc] at hz1 | rw [World.size_drew] at hz1 | rw [World.size_setCell] at hz1)); (try have : w.heap.size < w1.heap.size := by omega); (try have : w.heap.size < w1.heap.size + 1 := by omega); (try have : w.heap.size < w1.heap.size + 1 + 1 := by omega); (try have : w.heap.size < w1.heap.size + 1 + 1 + 1 := by omega); (try have : w.heap.size + 1 < w1.heap.size := by omega); (try have : w.heap.size + 1 < w1.heap.size + 1 := by omega); (try have : w.heap.size + 1 < w1.heap.size + 1 + 1 := by omega); (try have : w.heap.size + 1 < w1.heap.size + 1 + 1 + 1 := by omega)))
  have HB1 : Below w.heap.size w w1 := by (repeat' (first | (with_reducible exact Below.refl _ _) | (with_reducible assumption) | (with_reducible refine Below.alloc ?_ ?_ _) | (with_reducible refine Below.drew ?_) | (with_reducible refine Below.stepG ?_ (by assumption) ?_) | (with_reducible refine Below.setCell ?_ ?_ _) | omega | (dsimp only; omega) | (simp; done) | (simp; omega)))
  have B1 : B3 w1 (w.heap.size + 1) 0 0 0 := B3.below (by have := b3_new (w.alloc (.cells #[.int .i64 1, .bool false, .int .u64 (hiOf false n), .int .u64 (loOf n), .int .i64 k, .int .i64 hop, .bool false, .int .u64 (hiOf false a), .int .u64 (loOf a)] 32)) 54; rw [World.size_alloc] at this; exact this) hb1
  refine (TP.out _ (HT.out.below HB1)).mono ?_
  rintro e w3 ⟨rfl, ht3, hc3⟩
  have B3' := B1.chg hc3 (by omega)
  have HB3 := Lib.hid B3'
  have HT3 := Lib.hid ht3
  have HC3 := Lib.hid hc3
  have HH1 := Lib.hid HB1
  have hz := HH1.out.size
  obtain ⟨lt3, k0, k1, k2, f0, f1, f2⟩ := B3'
  clear ht3 hc3
  go_wp2_with fail
  have B := HB3.out.set 0 (hasL L n k) 0
  obtain ⟨_, e0, e1, e2, _, _, _⟩ := B
  refine bodyPost_ret (v := .agg #[.int .i64 0, .int .i64 (hasL L n k : Nat), .int .i64 0]) (by simp [results, Try.results59, go_sem, e0, e1, e2]) rfl
    (doesT_chg HH1.out HT3.out HC3.out (fun b h => h) (Nat.le_succ _) (by omega) (b3_chg _ _ _ _ _))


set_option maxRecDepth 100000 in
set_option maxHeartbeats 2000000 in
theorem tdo_again (tb n k hop a : Nat) (L : List (Nat × Nat × Nat)) (F : Nat → Prop) (w : World) (t : Tab w tb L F) (hp : VP false n k) (h1 : 1 ≤ hop) (h2 : hop ≤ 999) (hl : L.length = 60) (h0 : hasL L n k ≠ 0) :
    Calls Try.prog 59 #[.pointer (some ⟨tb, 0, none⟩), .agg #[.int .i64 1, .bool false, .int .u64 (hiOf false n), .int .u64 (loOf n), .int .i64 k, .int .i64 hop, .bool false, .int .u64 (hiOf false a), .int .u64 (loOf a)]] w (DoesT w tb (putL L n k hop) 0 (hasL L n k) 0 F) := by
  have HT := Lib.hid t.lt
  have TP := Lib.hid (fun w' t => tab_put tb n k hop L (fun b => F b ∧ b < w.heap.size) w' t (by omega) hp (by omega) h2)
  have C := Lib.hid (fun w => check_ok false n k w hp)
  have TG := Lib.hid (fun w' t => tab_get tb n k L (fun b => F b ∧ b < w.heap.size) w' t hp)
  obtain ⟨htb, _, cnt⟩ := t.count
  have htb1 : tb < w.heap.size + 1 := by omega
  have htb2 : tb < w.heap.size + 1 + 1 := by omega
  rw [hl, show (((60 : Nat) : Int)) = 60 from rfl] at cnt
  have hne : ((hasL L n k : Int) == 0) = false := by rw [beq_eq_false_iff_ne]; omega
  have g1 : decide ((hop : Int) < 1) = false := by simp; omega
  have g2 : decide ((999 : Int) < hop) = false := by simp; omega
  clear t
  go_enter Try.func59, Try.ntmps59
  go_wp2_with (first | ((with_reducible refine (C.out _).mono ?_); rintro e w1 ⟨rfl, hb1⟩; (repeat (with_reducible (replace hb1 := Below.undrew hb1))); obtain ⟨hc1, hf1⟩ := bcell hb1; have hz1 := hb1.size; (repeat (first | rw [World.size_alloc] at hz1 | rw [World.size_drew] at hz1 | rw [World.size_setCell] at hz1)); (try have : w.heap.size < w1.heap.size := by omega); (try have : w.heap.size < w1.heap.size + 1 := by omega); (try have : w.heap.size < w1.heap.size + 1 + 1 := by omega); (try have : w.heap.size < w1.heap.size + 1 + 1 + 1 := by omega); (try have : w.heap.size + 1 < w1.heap.size := by omega); (try have : w.heap.size + 1 < w1.heap.size + 1 := by omega); (try have : w.heap.size + 1 < w1.heap.size + 1 + 1 := by omega); (try have : w.heap.size + 1 < w1.heap.size + 1 + 1 + 1 := by omega)))
  have HB1 : Below w.heap.size w w1 := by (repeat' (first | (with_reducible exact Below.refl _ _) | (with_reducible assumption) | (with_reducible refine Below.alloc ?_ ?_ _) | (with_reducible refine Below.drew ?_) | (with_reducible refine Below.stepG ?_ (by assumption) ?_) | (with_reducible refine Below.setCell ?_ ?_ _) | omega | (dsimp only; omega) | (simp; done) | (simp; omega)))
  have B1 : B3 w1 (w.heap.size + 1) 0 0 0 := B3.below (by have := b3_new (w.alloc (.cells #[.int .i64 1, .bool false, .int .u64 (hiOf false n), .int .u64 (loOf n), .int .i64 k, .int .i64 hop, .bool false, .int .u64 (hiOf false a), .int .u64 (loOf a)] 32)) 54; rw [World.size_alloc] at this; exact this) hb1
  refine (TG.out _ (HT.out.below HB1)).mono ?_
  rintro e w2 ⟨rfl, hb2⟩
  have HB2 := HB1.trans (hb2.mono HB1.size)
  have B2 := B1.below hb2
  have hz2 := hb2.size
  have y1 := (hb2.cell (p := ⟨w.heap.size, 1, none⟩) (by simp; omega)).trans (show w1.cell? ⟨w.heap.size, 1, none⟩ = some (.bool false) by rw [hc1 _ _ (by simp; omega)]; simp)
  have y2 := (hb2.cell (p := ⟨w.heap.size, 2, none⟩) (by simp; omega)).trans (show w1.cell? ⟨w.heap.size, 2, none⟩ = some (.int .u64 (hiOf false n)) by rw [hc1 _ _ (by simp; omega)]; simp)
  have y3 := (hb2.cell (p := ⟨w.heap.size, 3, none⟩) (by simp; omega)).trans (show w1.cell? ⟨w.heap.size, 3, none⟩ = some (.int .u64 (loOf n)) by rw [hc1 _ _ (by simp; omega)]; simp)
  have y4 := (hb2.cell (p := ⟨w.heap.size, 4, none⟩) (by simp; omega)).trans (show w1.cell? ⟨w.heap.size, 4, none⟩ = some (.int .i64 k) by rw [hc1 _ _ (by simp; omega)]; simp)
  have y5 := (hb2.cell (p := ⟨w.heap.size, 5, none⟩) (by simp; omega)).trans (show w1.cell? ⟨w.heap.size, 5, none⟩ = some (.int .i64 hop) by rw [hc1 _ _ (by simp; omega)]; simp)
  clear hb1 hc1 hf1 B1 hb2
  go_wp2_with fail
  refine (TP.out _ (HT.out.below HB2)).mono ?_
  rintro e w3 ⟨rfl, ht3, hc3⟩
  have B3' := B2.chg hc3 (by omega)
  have HB3 := Lib.hid B3'
  have HT3 := Lib.hid ht3
  have HC3 := Lib.hid hc3
  have HH1 := Lib.hid HB2
  have hz := HH1.out.size
  obtain ⟨lt3, k0, k1, k2, f0, f1, f2⟩ := B3'
  clear ht3 hc3
  go_wp2_with fail
  have B := HB3.out.set 0 (hasL L n k) 0
  obtain ⟨_, e0, e1, e2, _, _, _⟩ := B
  refine bodyPost_ret (v := .agg #[.int .i64 0, .int .i64 (hasL L n k : Nat), .int .i64 0]) (by simp [results, Try.results59, go_sem, e0, e1, e2]) rfl
    (doesT_chg HH1.out HT3.out HC3.out (fun b h => h) (Nat.le_succ _) (by omega) (b3_chg _ _ _ _ _))

/-- Whatever the act. -/
theorem tdo_any (tb : Nat) (L : List (Nat × Nat × Nat)) (F : Nat → Prop) (x : ActD) (w : World) (t : Tab w tb L F) (hl : L.length ≤ 60) (hx : x.fit) :
    Calls Try.prog 59 #[.pointer (some ⟨tb, 0, none⟩), Value.agg #[.int .i64 x.kind, .bool false, .int .u64 (hiOf false x.n), .int .u64 (loOf x.n), .int .i64 x.k, .int .i64 x.hop, .bool false, .int .u64 (hiOf false x.a), .int .u64 (loOf x.a)]] w (DoesT w tb (tstep L x).1 (tstep L x).2.code (tstep L x).2.hop (tstep L x).2.len F) := by
  obtain ⟨vp, fa, kd, hop, top⟩ := hx
  obtain ⟨kind, n, k, h, a⟩ := x
  dsimp only at vp fa kd hop top ⊢
  have hk : kind = 1 ∨ kind = 2 ∨ kind = 3 ∨ kind = 4 := by omega
  rcases hk with rfl | rfl | rfl | rfl
  · have h1 := hop rfl
    by_cases hfull : L.length = 60
    · by_cases h0 : hasL L n k = 0
      · have e : tstep L ⟨1, n, k, h, a⟩ = (L, ⟨9, 0, 0⟩) := by simp [tstep, hfull, h0]
        rw [e]
        exact tdo_full tb n k h a L F w t vp h1 top hfull h0
      · have e : tstep L ⟨1, n, k, h, a⟩ = (putL L n k h, ⟨0, hasL L n k, 0⟩) := by simp [tstep, h0]
        rw [e]
        exact tdo_again tb n k h a L F w t vp h1 top hfull h0
    · have e : tstep L ⟨1, n, k, h, a⟩ = (putL L n k h, ⟨0, hasL L n k, 0⟩) := by simp [tstep, hfull]
      rw [e]
      exact tdo_put tb n k h a L F w t vp h1 top (by omega)
  · exact tdo_cut tb n k h a L F w t (by omega) vp
  · exact tdo_look tb n k h a L F w t fa
  · exact tdo_get tb n k h a L F w t vp
end Go.Proofs.Ytoecmoicaklbaaa
