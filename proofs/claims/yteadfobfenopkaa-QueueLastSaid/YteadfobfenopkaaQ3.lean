
/- Contracts of package queue: Push. -/
import Derived.Test.YteadfobfenopkaaQ2
import Derived.StillTailTactics
set_option linter.unusedVariables false
namespace Go.Proofs.Yteadfobfenopkaa
open Go Go.RowKit Go.Sort Wc Wk

theorem act_ne {x y : ActD} (hx : x.ok) (hy : y.ok) (h : x.same y = false) : (x.k = y.k ∧ ¬ loOf x.n = loOf y.n) ∨ ¬ ((x.k : Int) = y.k) := by
  by_cases hk : x.k = y.k
  · refine .inl ⟨hk, fun e => ?_⟩
    rw [loOf_false hx.1.1, loOf_false hy.1.1] at e
    have : x.same y = true := (same_iff _ _).2 ⟨by omega, hk⟩
    rw [h] at this; cases this
  · exact .inr (by omega)
theorem nosame_step {q : List ActD} {m : Nat} {x y : ActD} (h : ∀ (t : Nat) (x : ActD), t < m → q[t]? = some x → x.same y = false) (hx : q[m]? = some x) (hs : x.same y = false) : ∀ (t : Nat) (x : ActD), t < m + 1 → q[t]? = some x → x.same y = false := by
  intro t z ht hz
  rcases Nat.lt_or_ge t m with h1 | h1
  · exact h t z h1 hz
  · obtain rfl : t = m := by omega
    rw [hx] at hz; cases hz; exact hs
end Go.Proofs.Yteadfobfenopkaa
namespace Wk
open Go Go.RowKit Go.Sort
theorem Chg.mono {w w' : World} {F G : Nat → Nat → Prop} (h : Chg w w' F) (hs : ∀ b x, F b x → G b x) : Chg w w' G :=
  ⟨h.os, h.tape, h.output, h.size, fun k hk hf => h.block k hk (fun x hx => hf x (hs _ _ hx)), fun k x hk hf => h.cell k x hk (fun hx => hf (hs _ _ hx)), h.froz⟩
end Wk
namespace Go.Proofs.Yteadfobfenopkaa
open Go Go.RowKit Go.Sort Wc Wk
def setRow (w : World) (b : Nat) : Nat → List Value → World
  | _, [] => w
  | o, c :: cs => setRow (w.setCell ⟨b, o, none⟩ c) b (o + 1) cs
theorem setRow_chg (b : Nat) : ∀ (cs : List Value) (o : Nat) (w : World), b < w.heap.size → (∀ j, j < cs.length → ∃ u, w.cell? ⟨b, o + j, none⟩ = some u) →
    Chg w (setRow w b o cs) (fun k x => k = b ∧ o ≤ x ∧ x < o + cs.length) ∧ ∀ j u, cs[j]? = some u → (setRow w b o cs).cell? ⟨b, o + j, none⟩ = some u
  | [], o, w, _, _ => ⟨Chg.refl _ _, fun j u h => by simp at h⟩
  | c :: cs, o, w, hb, hex => by
    have s1 := chg_set w b o c
    obtain ⟨u0, hu0⟩ := hex 0 (by simp)
    have k0 : (w.setCell ⟨b, o, none⟩ c).cell? ⟨b, o, none⟩ = some c := World.cell?_setCell_same w ⟨b, o, none⟩ c hu0
    have hb1 : b < (w.setCell ⟨b, o, none⟩ c).heap.size := by simpa using hb
    obtain ⟨h1, h2⟩ := setRow_chg b cs (o + 1) (w.setCell ⟨b, o, none⟩ c) hb1 (fun j hj => by
      obtain ⟨u, hu⟩ := hex (j + 1) (by simpa using hj)
      exact ⟨u, (s1.cell b (o + 1 + j) hb (by omega)).trans (by rw [show o + 1 + j = o + (j + 1) by omega]; exact hu)⟩)
    have s2 : Chg w (w.setCell ⟨b, o, none⟩ c) (fun k x => k = b ∧ o ≤ x ∧ x < o + (c :: cs).length) := s1.mono (by
      rintro k x ⟨h3, h4⟩; refine ⟨h3, by omega, ?_⟩; rw [List.length_cons]; omega)
    refine ⟨s2.trans h1 ?_, fun j u hu => ?_⟩
    · rintro k x _ ⟨h3, h4, h5⟩; refine ⟨h3, by omega, ?_⟩; rw [List.length_cons]; omega
    · match j, hu with
      | 0, hu =>
        simp at hu; subst hu
        exact (h1.cell b o hb1 (by omega)).trans k0
      | j + 1, hu =>
        rw [show o + (j + 1) = o + 1 + j by omega]
        exact h2 j u (by simpa using hu)
theorem QR.row {w : World} {qb f p : Nat} {q : List ActD} (h : QR w qb f q) (y : ActD) (hp : p < 8) :
    Chg w (setRow w qb (p * 9) (actCells y)) (fun k x => k = qb ∧ p * 9 ≤ x ∧ x < p * 9 + 9) ∧ ∀ j u, (actCells y)[j]? = some u → (setRow w qb (p * 9) (actCells y)).cell? ⟨qb, p * 9 + j, none⟩ = some u :=
  setRow_chg qb (actCells y) (p * 9) w h.lt (fun j hj => h.ex _ (by rw [actCells_len] at hj; omega))
theorem QR.put {w : World} {qb f m p : Nat} {x : ActD} {q : List ActD} (h : QR w qb f q) (hx : q[m]? = some x) (hp : (f + m) % 8 = p) (y : ActD) :
    QR (setRow w qb (p * 9) (actCells y)) qb f (q.set m y) ∧ Chg w (setRow w qb (p * 9) (actCells y)) (fun b _ => b = qb) := by
  have hm := (List.getElem?_eq_some_iff.1 hx).1
  have hql := h.ql
  obtain ⟨c, hc⟩ := h.row y (p := p) (by omega)
  refine ⟨⟨Nat.lt_of_lt_of_le h.lt c.size, h.fl, by simpa using hql, (c.cell _ _ h.lt (by omega)).trans h.c72, ?_, fun i z hz j u hu => ?_, fun o ho => ?_, fun o ho => (c.froz _ _ h.lt).trans (h.fz o ho)⟩, ⟨c.os, c.tape, c.output, c.size, fun k hk hf => c.block k hk (fun x hx => hf 0 hx.1), fun k x hk hf => c.cell k x hk (fun hx => hf hx.1), c.froz⟩⟩
  · rw [List.length_set]; exact (c.cell _ _ h.lt (by omega)).trans h.c73
  · have hj : j < 9 := by
      have := (List.getElem?_eq_some_iff.1 hu).1
      rwa [actCells_len] at this
    have hil := (List.getElem?_eq_some_iff.1 hz).1
    rw [List.length_set] at hil
    rw [List.getElem?_set] at hz
    by_cases hi : m = i
    · subst hi
      rw [if_pos rfl, if_pos hm] at hz
      cases hz
      rw [hp]
      exact hc j u hu
    · rw [if_neg hi] at hz
      have hne : (f + i) % 8 ≠ p := by omega
      exact (c.cell _ _ h.lt (by omega)).trans (h.at_ i z hz j u hu)
  · by_cases hin : p * 9 ≤ o ∧ o < p * 9 + 9
    · refine ⟨_, by rw [show o = p * 9 + (o - p * 9) by omega]; exact hc (o - p * 9) ((actCells y)[o - p * 9]'(by rw [actCells_len]; omega)) (List.getElem?_eq_getElem _)⟩
    · obtain ⟨u, hu⟩ := h.ex o ho
      exact ⟨u, (c.cell _ _ h.lt (by omega)).trans hu⟩
theorem QR.add {w : World} {qb f p : Nat} {q : List ActD} (h : QR w qb f q) (h8 : q.length ≠ 8) (hp : (f + q.length) % 8 = p) (y : ActD) :
    QR ((setRow w qb (p * 9) (actCells y)).setCell ⟨qb, 73, none⟩ (.int .i64 ((q.length + 1 : Nat) : Int))) qb f (q ++ [y]) ∧ Chg w ((setRow w qb (p * 9) (actCells y)).setCell ⟨qb, 73, none⟩ (.int .i64 ((q.length + 1 : Nat) : Int))) (fun b _ => b = qb) := by
  have hql := h.ql
  obtain ⟨c, hc⟩ := h.row y (p := p) (by omega)
  have hlt := Nat.lt_of_lt_of_le h.lt c.size
  have c73 := (c.cell qb 73 h.lt (by omega)).trans h.c73
  have s := chg_set (setRow w qb (p * 9) (actCells y)) qb 73 (.int .i64 ((q.length + 1 : Nat) : Int))
  have k := World.cell?_setCell_same (setRow w qb (p * 9) (actCells y)) ⟨qb, 73, none⟩ (.int .i64 ((q.length + 1 : Nat) : Int)) c73
  generalize (setRow w qb (p * 9) (actCells y)).setCell ⟨qb, 73, none⟩ (.int .i64 ((q.length + 1 : Nat) : Int)) = W at *
  refine ⟨⟨Nat.lt_of_lt_of_le hlt s.size, h.fl, by simp; omega, (s.cell _ _ hlt (by omega)).trans ((c.cell _ _ h.lt (by omega)).trans h.c72), by rw [k]; simp, fun i z hz j u hu => ?_, fun o ho => ?_, fun o ho => (s.froz _ _ hlt).trans ((c.froz _ _ h.lt).trans (h.fz o ho))⟩, ?_⟩
  · have hj : j < 9 := by
      have := (List.getElem?_eq_some_iff.1 hu).1
      rwa [actCells_len] at this
    have hil := (List.getElem?_eq_some_iff.1 hz).1
    simp at hil
    rw [s.cell _ _ hlt (by omega)]
    by_cases hi : i < q.length
    · rw [List.getElem?_append_left hi] at hz
      exact (c.cell _ _ h.lt (by omega)).trans (h.at_ i z hz j u hu)
    · obtain rfl : i = q.length := by omega
      simp at hz
      subst hz
      rw [hp]
      exact hc j u hu
  · by_cases hin : p * 9 ≤ o ∧ o < p * 9 + 9
    · refine ⟨_, by rw [s.cell _ _ hlt (by omega), show o = p * 9 + (o - p * 9) by omega]; exact hc (o - p * 9) ((actCells y)[o - p * 9]'(by rw [actCells_len]; omega)) (List.getElem?_eq_getElem _)⟩
    · obtain ⟨u, hu⟩ := h.ex o ho
      exact ⟨u, (s.cell _ _ hlt (by omega)).trans ((c.cell _ _ h.lt (by omega)).trans hu)⟩
  · refine Chg.trans (F := fun b _ => b = qb) (⟨c.os, c.tape, c.output, c.size, fun k hk hf => c.block k hk (fun x hx => hf 0 hx.1), fun k x hk hf => c.cell k x hk (fun hx => hf hx.1), c.froz⟩) s (fun b x _ h => h.1)
/-- What a Push comes to. -/
def PushSays (w : World) (qb : Nat) (q : List ActD) (y : ActD) (e : Ending) (w' : World) : Prop :=
  ∃ f', e = .returned (.tuple #[.bool (qstep q ⟨true, y, 0⟩).2.merged, .int .i64 ((qstep q ⟨true, y, 0⟩).2.code : Nat)]) ∧ (qstep q ⟨true, y, 0⟩).2.acts = [] ∧ QR w' qb f' (qstep q ⟨true, y, 0⟩).1 ∧ Chg w w' (fun b _ => b = qb)

theorem qstep_put {q : List ActD} {m : Nat} {x y : ActD} (hx : q[m]? = some x) (hs : x.same y = true) (hn : ∀ (t : Nat) (x : ActD), t < m → q[t]? = some x → x.same y = false) : qstep q ⟨true, y, 0⟩ = (q.set m y, ⟨0, true, []⟩) := by
  rcases qstep_cases q ⟨true, y, 0⟩ with ⟨_, i, z, h1, h2, h3, e⟩ | ⟨_, h, _⟩ | ⟨h, _⟩ | ⟨h, _⟩
  · have : i = m := by
      rcases Nat.lt_trichotomy i m with h | h | h
      · have := hn i z h h1; rw [h2] at this; cases this
      · exact h
      · have := h3 m x h hx; rw [hs] at this; cases this
    subst this
    exact e
  · have := h m x hx; rw [hs] at this; cases this
  · cases h
  · cases h
theorem qstep_none {q : List ActD} {y : ActD} (hn : ∀ (t : Nat) (x : ActD), t < q.length → q[t]? = some x → x.same y = false) : (q.length = 8 ∧ qstep q ⟨true, y, 0⟩ = (q, ⟨9, false, []⟩)) ∨ (q.length ≠ 8 ∧ qstep q ⟨true, y, 0⟩ = (q ++ [y], ⟨0, false, []⟩)) := by
  rcases qstep_cases q ⟨true, y, 0⟩ with ⟨_, i, z, h1, h2, h3, e⟩ | ⟨_, h, h'⟩ | ⟨h, _⟩ | ⟨h, _⟩
  · have := hn i z (List.getElem?_eq_some_iff.1 h1).1 h1
    have h2' : z.same y = true := h2
    rw [h2'] at this; cases this
  · exact h'
  · cases h
  · cases h


set_option maxRecDepth 100000 in
set_option maxHeartbeats 2000000 in
theorem push_any (qb f : Nat) (q : List ActD) (y : ActD) (w : World) (h : QR w qb f q) (hq : ∀ x ∈ q, ActD.ok x) (hy : y.ok) :
    Calls Try.prog 79 #[.pointer (some ⟨qb, 0, none⟩), Value.agg #[.int .i64 y.kind, .bool false, .int .u64 (hiOf false y.n), .int .u64 (loOf y.n), .int .i64 y.k, .int .i64 y.hop, .bool false, .int .u64 (hiOf false y.a), .int .u64 (loOf y.a)]] w (PushSays w qb q y) := by
  have hql := h.ql
  have hlt := h.lt
  have hfl := h.fl
  have HQ := Lib.hid h
  have HK := Lib.hid hq
  have HY := Lib.hid hy
  have C := Lib.hid (fun w => qfault_any y w hy)
  clear h hq hy
  go_enter Try.func79, Try.ntmps79
  go_wp2_with fail
  refine (C.out _).mono ?_; rintro e w1 ⟨rfl, hb1⟩; (repeat (with_reducible (replace hb1 := Below.undrew hb1))); obtain ⟨hc1, hf1⟩ := bcell hb1; have hz1 := hb1.size; (repeat (first | rw [World.size_alloc] at hz1 | rw [World.size_drew] at hz1 | rw [World.size_setCell] at hz1)); (try have : qb < w1.heap.size := by omega); (try have : qb < w1.heap.size + 1 := by omega); (try have : qb < w1.heap.size + 1 + 1 := by omega); (try have : qb < w1.heap.size + 1 + 1 + 1 := by omega); (try have : B < w1.heap.size := by omega); (try have : B < w1.heap.size + 1 := by omega); (try have : B < w1.heap.size + 1 + 1 := by omega); (try have : B < w1.heap.size + 1 + 1 + 1 := by omega); (try have : wr.heap.size < w1.heap.size := by omega); (try have : wr.heap.size < w1.heap.size + 1 := by omega); (try have : wr.heap.size < w1.heap.size + 1 + 1 := by omega); (try have : wr.heap.size < w1.heap.size + 1 + 1 + 1 := by omega)
  have F := fun j u (hu : (actCells y)[j]? = some u) => (hc1 w.heap.size j (by simp)).trans (show (w.alloc (.cells (actCells y).toArray 35)).cell? ⟨w.heap.size, j, none⟩ = some u by rw [World.cell?_alloc_new]; simpa using hu)
  have F0 := F 0 _ rfl
  have F1 := F 1 _ rfl
  have F2 := F 2 _ rfl
  have F3 := F 3 _ rfl
  have F4 := F 4 _ rfl
  have F5 := F 5 _ rfl
  have F6 := F 6 _ rfl
  have F7 := F 7 _ rfl
  have F8 := F 8 _ rfl
  have FB : Below w.heap.size w w1 := by (repeat' (first | (with_reducible exact Below.refl _ _) | (with_reducible assumption) | (with_reducible refine Below.alloc ?_ ?_ _) | (with_reducible refine Below.drew ?_) | (with_reducible refine Below.stepG ?_ (by assumption) ?_) | (with_reducible refine Below.setCell ?_ ?_ _) | omega | (dsimp only; omega) | (simp; done) | (simp; omega)))
  have FS : w.heap.size < w1.heap.size := by omega
  have FB' := FB
  have FS' : w.heap.size ≤ w1.heap.size := FB.size
  have HR := Lib.hid (HQ.out.below FB hlt)
  have hq1 : qb < w1.heap.size := by omega
  clear F hc1 hf1 hb1 hz1
  obtain ⟨B, hB⟩ : ∃ B, B = w.heap.size := ⟨_, rfl⟩
  rw [← hB] at F0 F1 F2 F3 F4 F5 F6 F7 F8 FS hlt ⊢
  have HB := Lib.hid hB
  clear hB
  have c73 := HR.out.c73
  go_wp2_with fail
  go_loopw [17] (fun i wr => ∃ m : Nat, m ≤ q.length ∧ i = .int .i64 m ∧ Hid (∀ (t : Nat) (x : ActD), t < m → q[t]? = some x → x.same y = false) ∧ Below w1.heap.size w1 wr) (fun i _ => q.length - (intOf i).toNat)
  case atStart => exact ⟨0, Nat.zero_le _, rfl, fun t x h => absurd h (Nat.not_lt_zero t), Below.refl _ _⟩
  case round =>
    obtain ⟨m, hm, rfl, HN, hbr⟩ := hrel
    have hzr := hbr.size
    have HQR := Lib.hid (HR.out.below hbr hq1)
    have gq : qb < wr.heap.size := by omega
    have gB : B < wr.heap.size := by omega
    have r72 := HQR.out.c72
    have r73 := HQR.out.c73
    have P0 := (hbr.cell (p := ⟨B, 0, none⟩) FS).trans F0
    have P1 := (hbr.cell (p := ⟨B, 1, none⟩) FS).trans F1
    have P2 := (hbr.cell (p := ⟨B, 2, none⟩) FS).trans F2
    have P3 := (hbr.cell (p := ⟨B, 3, none⟩) FS).trans F3
    have P4 := (hbr.cell (p := ⟨B, 4, none⟩) FS).trans F4
    have P5 := (hbr.cell (p := ⟨B, 5, none⟩) FS).trans F5
    have P6 := (hbr.cell (p := ⟨B, 6, none⟩) FS).trans F6
    have P7 := (hbr.cell (p := ⟨B, 7, none⟩) FS).trans F7
    have P8 := (hbr.cell (p := ⟨B, 8, none⟩) FS).trans F8
    clear F0 F1 F2 F3 F4 F5 F6 F7 F8 c73
    by_cases hlt : m < q.length
    · obtain ⟨x, hx⟩ : ∃ x, q[m]? = some x := ⟨_, List.getElem?_eq_getElem hlt⟩
      have hxok := HK.out x (List.mem_of_getElem? hx)
      obtain ⟨p, hp⟩ : ∃ p, (f + m) % 8 = p := ⟨_, rfl⟩
      have g := HQR.out.at_ m x hx
      rw [hp] at g
      have hp8 : p < 8 := by omega
      have g0 : wr.cell? ⟨qb, p * 9, none⟩ = _ := g 0 _ rfl
      have g5 := g 5 _ rfl
      have g6 := g 6 _ rfl
      have g7 := g 7 _ rfl
      have g8 := g 8 _ rfl
      have g1 : wr.cell? ⟨qb, p * 9 + 1, none⟩ = _ := g 1 _ rfl
      have g2 : wr.cell? ⟨qb, p * 9 + 2, none⟩ = _ := g 2 _ rfl
      have g3 : wr.cell? ⟨qb, p * 9 + 3, none⟩ = _ := g 3 _ rfl
      have g4 : wr.cell? ⟨qb, p * 9 + 4, none⟩ = _ := g 4 _ rfl
      have AT := Lib.hid (fun w' h => qat_b qb f m p w' h hfl (by omega) hp)
      have HX := Lib.hid hx
      have HP := Lib.hid hp
      clear g hx hp
      by_cases hsm : x.same y = true
      · have hsm2 := (same_iff x y).1 hsm
        rw [hsm2.1] at g2 g3
        rw [hsm2.2] at g4
        have HSM := Lib.hid hsm
        clear hsm hsm2
        go_wp2_with fail
        refine wp_region_qb (by kernel_rfl) (by kernel_rfl) (fun kq => ?_)
        repeat (quiet_step (with_reducible exact Calls.regrown_of (AT.out _ ((kq _ _ _ _ gq).trans r72))))
        clear kq
        refine wpQuiet_nil ?_; intro w2 hb2; (repeat (with_reducible (replace hb2 := Below.undrew hb2))); obtain ⟨hc2, hf2⟩ := bcell hb2; have hz2 := hb2.size; (repeat (first | rw [World.size_alloc] at hz2 | rw [World.size_drew] at hz2 | rw [World.size_setCell] at hz2)); (try have : qb < w2.heap.size := by omega); (try have : qb < w2.heap.size + 1 := by omega); (try have : qb < w2.heap.size + 1 + 1 := by omega); (try have : qb < w2.heap.size + 1 + 1 + 1 := by omega); (try have : B < w2.heap.size := by omega); (try have : B < w2.heap.size + 1 := by omega); (try have : B < w2.heap.size + 1 + 1 := by omega); (try have : B < w2.heap.size + 1 + 1 + 1 := by omega); (try have : wr.heap.size < w2.heap.size := by omega); (try have : wr.heap.size < w2.heap.size + 1 := by omega); (try have : wr.heap.size < w2.heap.size + 1 + 1 := by omega); (try have : wr.heap.size < w2.heap.size + 1 + 1 + 1 := by omega); (try have : w1.heap.size < w2.heap.size := by omega); (try have : w1.heap.size < w2.heap.size + 1 := by omega); (try have : w1.heap.size < w2.heap.size + 1 + 1 := by omega); (try have : w1.heap.size < w2.heap.size + 1 + 1 + 1 := by omega); (try have : w1.heap.size + 1 < w2.heap.size := by omega); (try have : w1.heap.size + 1 < w2.heap.size + 1 := by omega); (try have : w1.heap.size + 1 < w2.heap.size + 1 + 1 := by omega); (try have : w1.heap.size + 1 < w2.heap.size + 1 + 1 + 1 := by omega)
        go_wp2_with fail
        have HR2 := Lib.hid (HQR.out.below hb2 gq)
        have R72 := HR2.out.c72
        have f0 := HQR.out.fz (p * 9) (by omega)
        have f1 := HQR.out.fz (p * 9 + 1) (by omega)
        have f2 := HQR.out.fz (p * 9 + 2) (by omega)
        have f3 := HQR.out.fz (p * 9 + 3) (by omega)
        have f4 := HQR.out.fz (p * 9 + 4) (by omega)
        have f5 := HQR.out.fz (p * 9 + 5) (by omega)
        have f6 := HQR.out.fz (p * 9 + 6) (by omega)
        have f7 := HQR.out.fz (p * 9 + 7) (by omega)
        have f8 := HQR.out.fz (p * 9 + 8) (by omega)
        go_region_with (go_at_call 93; refine (qat_any qb f m _ (by first | exact R72 | (go_simp; done) | simpa using R72) hfl (by omega)).mono ?_; rintro e w' ⟨rfl, n3, rfl⟩; rw [HP.out])
        all_goals go_wp2
        all_goals go_returns
        all_goals
          have hbw : Below w1.heap.size w1 w2 := by (repeat' (first | (with_reducible exact Below.refl _ _) | (with_reducible assumption) | (with_reducible refine Below.alloc ?_ ?_ _) | (with_reducible refine Below.drew ?_) | (with_reducible refine Below.stepG ?_ (by assumption) ?_) | (with_reducible refine Below.setCell ?_ ?_ _) | omega | (dsimp only; omega) | (simp; done) | (simp; omega)))
          obtain ⟨p1, p2⟩ := QR.put (w := w2.drewN (1 + n3)) (HR2.out.below (B := w2.heap.size) (below_drewN (Below.refl _ _) _) (by omega)) HX.out HP.out y
          have hst := qstep_put HX.out HSM.out HN.out
          refine ⟨f, ?_, by rw [hst], by rw [hst]; exact p1, ?_⟩
          · rw [hst]; rfl
          · exact ((Chg.of_below FB' (fun b _ => b = qb)).then_below hbw FS').trans ((Chg.of_below (below_drewN (Below.refl _ _) _) (fun b _ => b = qb)).trans p2 (fun b x _ h => h)) (fun b x _ h => h)
      · have hsf : x.same y = false := by simpa using hsm
        have hd := act_ne hxok HY.out hsf
        have HSF := Lib.hid hsf
        clear hsm hsf
        rcases hd with ⟨hk, hn⟩ | hk
        · rw [hk] at g4
          clear hk
          go_wp2_with fail
          refine wp_region_qb (by kernel_rfl) (by kernel_rfl) (fun kq => ?_)
          repeat (quiet_step (with_reducible exact Calls.regrown_of (AT.out _ ((kq _ _ _ _ gq).trans r72))))
          clear kq
          refine wpQuiet_nil ?_; intro w2 hb2; (repeat (with_reducible (replace hb2 := Below.undrew hb2))); obtain ⟨hc2, hf2⟩ := bcell hb2; have hz2 := hb2.size; (repeat (first | rw [World.size_alloc] at hz2 | rw [World.size_drew] at hz2 | rw [World.size_setCell] at hz2)); (try have : qb < w2.heap.size := by omega); (try have : qb < w2.heap.size + 1 := by omega); (try have : qb < w2.heap.size + 1 + 1 := by omega); (try have : qb < w2.heap.size + 1 + 1 + 1 := by omega); (try have : B < w2.heap.size := by omega); (try have : B < w2.heap.size + 1 := by omega); (try have : B < w2.heap.size + 1 + 1 := by omega); (try have : B < w2.heap.size + 1 + 1 + 1 := by omega); (try have : wr.heap.size < w2.heap.size := by omega); (try have : wr.heap.size < w2.heap.size + 1 := by omega); (try have : wr.heap.size < w2.heap.size + 1 + 1 := by omega); (try have : wr.heap.size < w2.heap.size + 1 + 1 + 1 := by omega); (try have : w1.heap.size < w2.heap.size := by omega); (try have : w1.heap.size < w2.heap.size + 1 := by omega); (try have : w1.heap.size < w2.heap.size + 1 + 1 := by omega); (try have : w1.heap.size < w2.heap.size + 1 + 1 + 1 := by omega); (try have : w1.heap.size + 1 < w2.heap.size := by omega); (try have : w1.heap.size + 1 < w2.heap.size + 1 := by omega); (try have : w1.heap.size + 1 < w2.heap.size + 1 + 1 := by omega); (try have : w1.heap.size + 1 < w2.heap.size + 1 + 1 + 1 := by omega)
          go_wp2
          go_roundw
          case rel => exact ⟨m + 1, by omega, by go_num, nosame_step HN.out HX.out HSF.out, by (repeat' (first | (with_reducible exact Below.refl _ _) | (with_reducible assumption) | (with_reducible refine Below.alloc ?_ ?_ _) | (with_reducible refine Below.drew ?_) | (with_reducible refine Below.stepG ?_ (by assumption) ?_) | (with_reducible refine Below.setCell ?_ ?_ _) | omega | (dsimp only; omega) | (simp; done) | (simp; omega)))⟩
          case measure => simp [intOf]; omega
        · go_wp2_with fail
          refine wp_region_qb (by kernel_rfl) (by kernel_rfl) (fun kq => ?_)
          repeat (quiet_step (with_reducible exact Calls.regrown_of (AT.out _ ((kq _ _ _ _ gq).trans r72))))
          clear kq
          refine wpQuiet_nil ?_; intro w2 hb2; (repeat (with_reducible (replace hb2 := Below.undrew hb2))); obtain ⟨hc2, hf2⟩ := bcell hb2; have hz2 := hb2.size; (repeat (first | rw [World.size_alloc] at hz2 | rw [World.size_drew] at hz2 | rw [World.size_setCell] at hz2)); (try have : qb < w2.heap.size := by omega); (try have : qb < w2.heap.size + 1 := by omega); (try have : qb < w2.heap.size + 1 + 1 := by omega); (try have : qb < w2.heap.size + 1 + 1 + 1 := by omega); (try have : B < w2.heap.size := by omega); (try have : B < w2.heap.size + 1 := by omega); (try have : B < w2.heap.size + 1 + 1 := by omega); (try have : B < w2.heap.size + 1 + 1 + 1 := by omega); (try have : wr.heap.size < w2.heap.size := by omega); (try have : wr.heap.size < w2.heap.size + 1 := by omega); (try have : wr.heap.size < w2.heap.size + 1 + 1 := by omega); (try have : wr.heap.size < w2.heap.size + 1 + 1 + 1 := by omega); (try have : w1.heap.size < w2.heap.size := by omega); (try have : w1.heap.size < w2.heap.size + 1 := by omega); (try have : w1.heap.size < w2.heap.size + 1 + 1 := by omega); (try have : w1.heap.size < w2.heap.size + 1 + 1 + 1 := by omega); (try have : w1.heap.size + 1 < w2.heap.size := by omega); (try have : w1.heap.size + 1 < w2.heap.size + 1 := by omega); (try have : w1.heap.size + 1 < w2.heap.size + 1 + 1 := by omega); (try have : w1.heap.size + 1 < w2.heap.size + 1 + 1 + 1 := by omega)
          go_wp2
          go_roundw
          case rel => exact ⟨m + 1, by omega, by go_num, nosame_step HN.out HX.out HSF.out, by (repeat' (first | (with_reducible exact Below.refl _ _) | (with_reducible assumption) | (with_reducible refine Below.alloc ?_ ?_ _) | (with_reducible refine Below.drew ?_) | (with_reducible refine Below.stepG ?_ (by assumption) ?_) | (with_reducible refine Below.setCell ?_ ?_ _) | omega | (dsimp only; omega) | (simp; done) | (simp; omega)))⟩
          case measure => simp [intOf]; omega
    · obtain rfl : m = q.length := by omega
      rcases qstep_none HN.out with ⟨h8, hst⟩ | ⟨h8, hst⟩
      · rw [h8] at r73 ⊢
        go_wp2
        go_returns
        exact ⟨f, by rw [hst]; rfl, by rw [hst], by rw [hst]; exact HQR.out, (Chg.of_below FB' (fun b _ => b = qb)).then_below hbr FS'⟩
      · have HST := Lib.hid hst
        have hl8 : ((q.length : Int) == 8) = false := by rw [beq_eq_false_iff_ne]; omega
        obtain ⟨p, hp⟩ : ∃ p, (f + q.length) % 8 = p := ⟨_, rfl⟩
        have HP := Lib.hid hp
        have hp8 : p < 8 := by omega
        have f0 := HQR.out.fz (p * 9) (by omega)
        have f1 := HQR.out.fz (p * 9 + 1) (by omega)
        have f2 := HQR.out.fz (p * 9 + 2) (by omega)
        have f3 := HQR.out.fz (p * 9 + 3) (by omega)
        have f4 := HQR.out.fz (p * 9 + 4) (by omega)
        have f5 := HQR.out.fz (p * 9 + 5) (by omega)
        have f6 := HQR.out.fz (p * 9 + 6) (by omega)
        have f7 := HQR.out.fz (p * 9 + 7) (by omega)
        have f8 := HQR.out.fz (p * 9 + 8) (by omega)
        have f73 := HQR.out.fz 73 (by omega)
        obtain ⟨u0, g0⟩ := HQR.out.ex (p * 9) (by omega)
        obtain ⟨u1, g1⟩ := HQR.out.ex (p * 9 + 1) (by omega)
        obtain ⟨u2, g2⟩ := HQR.out.ex (p * 9 + 2) (by omega)
        obtain ⟨u3, g3⟩ := HQR.out.ex (p * 9 + 3) (by omega)
        obtain ⟨u4, g4⟩ := HQR.out.ex (p * 9 + 4) (by omega)
        obtain ⟨u5, g5⟩ := HQR.out.ex (p * 9 + 5) (by omega)
        obtain ⟨u6, g6⟩ := HQR.out.ex (p * 9 + 6) (by omega)
        obtain ⟨u7, g7⟩ := HQR.out.ex (p * 9 + 7) (by omega)
        obtain ⟨u8, g8⟩ := HQR.out.ex (p * 9 + 8) (by omega)
        have ewq : wrap64 ((q.length : Int) + 1) = (q.length : Int) + 1 := wrap64_in (by omega) (by omega)
        clear hp
        go_wp2_with fail
        go_region_with (go_at_call 93; refine (qat_any qb f q.length _ (by first | exact r72 | (go_simp; done) | simpa using r72) hfl (by omega)).mono ?_; rintro e w' ⟨rfl, n3, rfl⟩; rw [HP.out])
        all_goals
          change Exit.then _ _ _ _ (setRow (wr.drewN (1 + n3)) qb (p * 9) (actCells y))
          have HD := HQR.out.below (w' := wr.drewN (1 + n3)) (B := wr.heap.size) (below_drewN (Below.refl _ _) _) gq
          obtain ⟨p1, p2⟩ := HD.add h8 HP.out y
          obtain ⟨c, _⟩ := HD.row y hp8
          have x73 := (c.cell qb 73 HD.lt (by omega)).trans HD.c73
          have xf73 := (c.froz qb 73 HD.lt).trans (HD.fz 73 (by omega))
          have hcc : Chg w ((setRow (wr.drewN (1 + n3)) qb (p * 9) (actCells y)).setCell ⟨qb, 73, none⟩ (.int .i64 ((q.length + 1 : Nat) : Int))) (fun b _ => b = qb) :=
            ((Chg.of_below FB' (fun b _ => b = qb)).then_below hbr FS').trans ((Chg.of_below (below_drewN (Below.refl _ _) _) (fun b _ => b = qb)).trans p2 (fun b x _ h => h)) (fun b x _ h => h)
          have e1 : ((q.length + 1 : Nat) : Int) = (q.length : Int) + 1 := by omega
          rw [e1] at p1 hcc
          clear p2 c HD e1
          generalize setRow (wr.drewN (1 + n3)) qb (p * 9) (actCells y) = X at *
          have HP1 := Lib.hid p1
          have HCC := Lib.hid hcc
          clear p1 hcc g0 g1 g2 g3 g4 g5 g6 g7 g8 f0 f1 f2 f3 f4 f5 f6 f7 f8 f73
          go_wp2
          go_returns
          exact ⟨f, by rw [HST.out]; rfl, by rw [HST.out], by rw [HST.out]; exact HP1.out, HCC.out⟩
end Go.Proofs.Yteadfobfenopkaa
