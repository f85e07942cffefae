
/- Contracts of package queue: the ring; Pull. -/
import Derived.Test.YteadfobfenopkaaQ1
set_option linter.unusedVariables false
namespace Wk
open Go Go.RowKit Go.Sort
theorem Chg.then_below {w w1 w2 : World} {B : Nat} {F : Nat → Nat → Prop} (h : Chg w w1 F) (k : Below B w1 w2) (hB : w.heap.size ≤ B) : Chg w w2 F :=
  ⟨k.os.trans h.os, k.tape.trans h.tape, k.output.trans h.output, Nat.le_trans h.size k.size,
    fun b hb hf => (k.block b (Nat.lt_of_lt_of_le hb hB)).trans (h.block b hb hf),
    fun b x hb hf => (k.cell (p := ⟨b, x, none⟩) (Nat.lt_of_lt_of_le hb hB)).trans (h.cell b x hb hf),
    fun b x hb => (k.frozen (p := ⟨b, x, none⟩) (Nat.lt_of_lt_of_le hb hB)).trans (h.froz b x hb)⟩
theorem Own.chg {w w' : World} {B g : Nat} {e : TypeId} {sz : Nat} {v : Value} {xs : List (List Value)} {F : Nat → Nat → Prop} (h : Own w B e sz v xs) (c : Chg w w' F) (hF : ∀ b x, F b x → b = g) (hg : v.ownBlock ≠ some g) : Own w' B e sz v xs :=
  ⟨h.1, h.2.kept (row := some g) ⟨c.os, c.tape, c.output, c.size, fun k hk hne => c.block k hk (fun x hx => hne (by rw [hF k x hx]))⟩ (.inr hg)⟩
end Wk
namespace Go.Proofs.Yteadfobfenopkaa
open Go Go.RowKit Go.Sort Wc Wk

/-- A queue in a ring: where it begins, what waits. -/
structure QR (w : World) (qb f : Nat) (q : List ActD) : Prop where
  lt : qb < w.heap.size
  fl : f < 8
  ql : q.length ≤ 8
  c72 : w.cell? ⟨qb, 72, none⟩ = some (.int .i64 f)
  c73 : w.cell? ⟨qb, 73, none⟩ = some (.int .i64 q.length)
  at_ : ∀ i x, q[i]? = some x → ∀ j u, (actCells x)[j]? = some u → w.cell? ⟨qb, (f + i) % 8 * 9 + j, none⟩ = some u
  ex : ∀ o, o < 72 → ∃ u, w.cell? ⟨qb, o, none⟩ = some u
  fz : ∀ o, o < 74 → w.frozen? ⟨qb, o, none⟩ = false
theorem QR.below {w w' : World} {B qb f : Nat} {q : List ActD} (h : QR w qb f q) (hb : Below B w w') (hB : qb < B) : QR w' qb f q :=
  ⟨Nat.lt_of_lt_of_le h.lt hb.size, h.fl, h.ql, (hb.cell (p := ⟨qb, 72, none⟩) hB).trans h.c72, (hb.cell (p := ⟨qb, 73, none⟩) hB).trans h.c73,
    fun i x hx j u hu => (hb.cell (p := ⟨qb, (f + i) % 8 * 9 + j, none⟩) hB).trans (h.at_ i x hx j u hu),
    fun o ho => by obtain ⟨u, hu⟩ := h.ex o ho; exact ⟨u, (hb.cell (p := ⟨qb, o, none⟩) hB).trans hu⟩,
    fun o ho => (hb.frozen (p := ⟨qb, o, none⟩) hB).trans (h.fz o ho)⟩
theorem actCells_len (x : ActD) : (actCells x).length = 9 := rfl
theorem QR.pull {w : World} {qb f : Nat} {x : ActD} {q : List ActD} (h : QR w qb f (x :: q)) :
    QR ((w.setCell ⟨qb, 72, none⟩ (.int .i64 (((f + 1) % 8 : Nat) : Int))).setCell ⟨qb, 73, none⟩ (.int .i64 (q.length : Int))) qb ((f + 1) % 8) q ∧
    Chg w ((w.setCell ⟨qb, 72, none⟩ (.int .i64 (((f + 1) % 8 : Nat) : Int))).setCell ⟨qb, 73, none⟩ (.int .i64 (q.length : Int))) (fun b o => b = qb ∧ 72 ≤ o) := by
  obtain ⟨lt, fl, ql, c72, c73, at_, ex, fz⟩ := h
  have s1 := chg_set w qb 72 (.int .i64 (((f + 1) % 8 : Nat) : Int))
  have s2 := chg_set (w.setCell ⟨qb, 72, none⟩ (.int .i64 (((f + 1) % 8 : Nat) : Int))) qb 73 (.int .i64 (q.length : Int))
  have k1 : (w.setCell ⟨qb, 72, none⟩ (.int .i64 (((f + 1) % 8 : Nat) : Int))).cell? ⟨qb, 72, none⟩ = some (.int .i64 (((f + 1) % 8 : Nat) : Int)) := World.cell?_setCell_same w ⟨qb, 72, none⟩ _ c72
  have lt1 : qb < (w.setCell ⟨qb, 72, none⟩ (.int .i64 (((f + 1) % 8 : Nat) : Int))).heap.size := by simpa using lt
  have k2 := (s2.cell qb 72 lt1 (by omega)).trans k1
  have k3 := World.cell?_setCell_same (w.setCell ⟨qb, 72, none⟩ (.int .i64 (((f + 1) % 8 : Nat) : Int))) ⟨qb, 73, none⟩ (.int .i64 (q.length : Int)) ((s1.cell qb 73 lt (by omega)).trans c73)
  generalize w.setCell ⟨qb, 72, none⟩ (.int .i64 (((f + 1) % 8 : Nat) : Int)) = w1 at *
  generalize w1.setCell ⟨qb, 73, none⟩ (.int .i64 (q.length : Int)) = w2 at *
  have old : ∀ o, o < 72 → w2.cell? ⟨qb, o, none⟩ = w.cell? ⟨qb, o, none⟩ := fun o ho => (s2.cell qb o lt1 (by omega)).trans (s1.cell qb o lt (by omega))
  refine ⟨⟨Nat.lt_of_lt_of_le lt1 s2.size, Nat.mod_lt _ (by decide), by simp at ql; omega, k2, k3, fun i y hy j u hu => ?_, fun o ho => ?_, fun o ho => ?_⟩, ?_⟩
  · have hj : j < 9 := by
      have := (List.getElem?_eq_some_iff.1 hu).1
      rwa [actCells_len] at this
    have e : ((f + 1) % 8 + i) % 8 = (f + (i + 1)) % 8 := by omega
    rw [e, old _ (by omega)]
    exact at_ (i + 1) y (by simpa using hy) j u hu
  · obtain ⟨u, hu⟩ := ex o ho
    exact ⟨u, (old o ho).trans hu⟩
  · exact ((s2.froz qb o lt1).trans (s1.froz qb o lt)).trans (fz o ho)
  · refine Chg.trans (Chg.trans (Chg.refl w _) s1 ?_) s2 ?_
    · intro b o _ ⟨h1, h2⟩; exact ⟨h1, by omega⟩
    · intro b o _ ⟨h1, h2⟩; exact ⟨h1, by omega⟩

/-- What a Pull hands back. -/
def PullSays (w : World) (qb : Nat) (q : List ActD) (n : Nat) (e : Ending) (w' : World) : Prop :=
  ∃ v f', e = .returned v ∧ Own w' w.heap.size 35 9 v ((q.take n).map actCells) ∧ QR w' qb f' (q.drop n) ∧ Chg w w' (fun b _ => b = qb)


set_option maxRecDepth 100000 in
set_option maxHeartbeats 2000000 in
theorem pull_any (qb f n : Nat) (q : List ActD) (w : World) (h : QR w qb f q) (hn : n ≤ 1000) :
    Calls Try.prog 80 #[.pointer (some ⟨qb, 0, none⟩), .int .i64 n] w (PullSays w qb q n) := by
  have hql := h.ql
  have hlt := h.lt
  have HQ := Lib.hid h
  clear h
  go_enter Try.func80, Try.ntmps80
  go_wp2_with fail
  go_loopw [1, 5] (fun i v wr => ∃ m f' : Nat, m ≤ n ∧ m ≤ q.length ∧ i = .int .i64 ((n - m : Nat) : Int) ∧ Hid (Own wr w.heap.size 35 9 v ((q.take m).map actCells)) ∧ Hid (QR wr qb f' (q.drop m)) ∧ Hid (Chg w wr (fun b _ => b = qb))) (fun i _ _ => (intOf i).toNat)
  case atStart => exact ⟨0, f, Nat.zero_le _, Nat.zero_le _, rfl, Own.nil _ _ _ _, HQ.out, Chg.refl _ _⟩
  case round =>
    obtain ⟨m, f', hm, hmq, rfl, HO, HR, HC⟩ := hrel
    have hzr := HC.out.size
    have hqr : qb < wr.heap.size := by omega
    have c72 := HR.out.c72
    have c73 := HR.out.c73
    have f72 := HR.out.fz 72 (by decide)
    have f73 := HR.out.fz 73 (by decide)
    have hf' := HR.out.fl
    rw [List.length_drop] at c73
    by_cases hmn : m < n
    · have d1 : 0 < n - m := by omega
      by_cases hme : m < q.length
      · have d2 : 0 < q.length - m := by omega
        obtain ⟨y, hx⟩ : ∃ y, q[m]? = some y := ⟨_, List.getElem?_eq_getElem hme⟩
        have hx0 : (q.drop m)[0]? = some y := by rw [List.getElem?_drop]; simpa using hx
        have g := fun j u (hu : (actCells y)[j]? = some u) => HR.out.at_ 0 y hx0 j u hu
        rw [show (f' + 0) % 8 * 9 = f' * 9 by omega] at g
        have g0 : wr.cell? ⟨qb, f' * 9, none⟩ = _ := g 0 _ rfl
        have g1 := g 1 _ rfl
        have g2 := g 2 _ rfl
        have g3 := g 3 _ rfl
        have g4 := g 4 _ rfl
        have g5 := g 5 _ rfl
        have g6 := g 6 _ rfl
        have g7 := g 7 _ rfl
        have g8 := g 8 _ rfl
        have HX := Lib.hid hx
        clear g hx0 hx
        go_wp2_with fail
        refine (qat_0 qb f' _ c72 hf').mono ?_; rintro e w1 ⟨rfl, hb1⟩; (repeat (with_reducible (replace hb1 := Below.undrew hb1))); obtain ⟨hc1, hf1⟩ := bcell hb1; have hz1 := hb1.size; (repeat (first | rw [World.size_alloc] at hz1 | rw [World.size_drew] at hz1 | rw [World.size_setCell] at hz1)); (try have : qb < w1.heap.size := by omega); (try have : qb < w1.heap.size + 1 := by omega); (try have : qb < w1.heap.size + 1 + 1 := by omega); (try have : qb < w1.heap.size + 1 + 1 + 1 := by omega); (try have : wr.heap.size < w1.heap.size := by omega); (try have : wr.heap.size < w1.heap.size + 1 := by omega); (try have : wr.heap.size < w1.heap.size + 1 + 1 := by omega); (try have : wr.heap.size < w1.heap.size + 1 + 1 + 1 := by omega)
        go_wp2_with (at_builtin; refine stop_at ?_; intro G hG)
        rw [← hG.out]; clear hG G
        refine wpList_append_any rfl _ _ 28 35 9 72 _ rfl eiAct (w.heap.size) _ (((q.take m)).map actCells) rfl (by ((repeat (first | (with_reducible refine Wk.Own.alloc ?_ _) | (with_reducible refine Wk.Own.dr ?_))); refine Wk.Own.below ?_ hb1; (repeat (first | (with_reducible refine Wk.Own.alloc ?_ _) | (with_reducible refine Wk.Own.dr ?_))); exact HO.out)) _ (([y]).map actCells) rfl (sl_new (c := actCells y) (by simp) rfl) (by intro c hc; obtain ⟨r, _, rfl⟩ := List.mem_map.1 hc; exact actCells_one r) (by skip; first | omega | (simp; omega)) (by decide) (by first | omega | (simp; done) | (simp; omega)) ?_
        intro v2 w2 hown2 hb2
        rw [← List.map_append] at hown2
        obtain ⟨xs2, hxs2⟩ : ∃ x : List ActD, x = ((q.take m)) ++ ([y]) := ⟨_, rfl⟩
        rw [← hxs2] at hown2
        have hl2 : xs2.length = ((q.take m)).length + ([y]).length := by rw [hxs2, List.length_append]
        have HX2 := Lib.hid hxs2
        clear hxs2
        have HL2 := Lib.hid hl2
        clear hl2
        obtain ⟨a2, cap2, rfl⟩ := hown2.shape
        rw [List.length_map] at hown2 ⊢
        have HO2 := Lib.hid hown2
        clear hown2
        obtain ⟨hc2, hf2⟩ := bcellB hb2; have hz2 := hb2.size; (repeat (first | rw [World.size_alloc] at hz2 | rw [World.size_drew] at hz2 | rw [World.size_setCell] at hz2)); (try have : qb < w2.heap.size := by omega); (try have : qb < w2.heap.size + 1 := by omega); (try have : qb < w2.heap.size + 1 + 1 := by omega); (try have : qb < w2.heap.size + 1 + 1 + 1 := by omega); (try have : wr.heap.size < w2.heap.size := by omega); (try have : wr.heap.size < w2.heap.size + 1 := by omega); (try have : wr.heap.size < w2.heap.size + 1 + 1 := by omega); (try have : wr.heap.size < w2.heap.size + 1 + 1 + 1 := by omega); (try have : w1.heap.size < w2.heap.size := by omega); (try have : w1.heap.size < w2.heap.size + 1 := by omega); (try have : w1.heap.size < w2.heap.size + 1 + 1 := by omega); (try have : w1.heap.size < w2.heap.size + 1 + 1 + 1 := by omega); (try have : w1.heap.size + 1 < w2.heap.size := by omega); (try have : w1.heap.size + 1 < w2.heap.size + 1 := by omega); (try have : w1.heap.size + 1 < w2.heap.size + 1 + 1 := by omega); (try have : w1.heap.size + 1 < w2.heap.size + 1 + 1 + 1 := by omega)
        go_wp2_with fail
        have hbw : Below w.heap.size wr w2 := by (repeat' (first | (with_reducible exact Below.refl _ _) | (with_reducible assumption) | (with_reducible refine Below.alloc ?_ ?_ _) | (with_reducible refine Below.drew ?_) | (with_reducible refine Below.stepG ?_ (by assumption) ?_) | (with_reducible refine Below.setCell ?_ ?_ _) | omega | (dsimp only; omega) | (simp; done) | (simp; omega)))
        have hd : q.drop m = y :: q.drop (m + 1) := by
          obtain ⟨hy1, hy2⟩ := List.getElem?_eq_some_iff.1 HX.out
          rw [← hy2, ← List.drop_eq_getElem_cons hy1]
        obtain ⟨p1, p2⟩ := QR.pull (w := w2) (x := y) (q := q.drop (m + 1)) (by rw [← hd]; exact HR.out.below hbw hlt)
        have e1 : (((f' + 1) % 8 : Nat) : Int) = ((f' : Int) + 1) % 8 := by omega
        have e2 : (((q.drop (m + 1)).length : Nat) : Int) = ((q.length - m : Nat) : Int) - 1 := by rw [List.length_drop]; omega
        rw [e1, e2] at p1 p2
        have hx2 : xs2 = q.take (m + 1) := by
          rw [HX2.out, List.take_add_one, HX.out]; rfl
        have hcc : Chg w ((w2.setCell ⟨qb, 72, none⟩ (.int .i64 (((f' : Int) + 1) % 8))).setCell ⟨qb, 73, none⟩ (.int .i64 (((q.length - m : Nat) : Int) - 1))) (fun b _ => b = qb) :=
          (HC.out.then_below hbw (Nat.le_refl _)).trans p2 (fun b x _ h => h.1)
        go_roundw
        case rel =>
          refine ⟨m + 1, (f' + 1) % 8, by omega, by omega, ?_, ?_, p1, hcc⟩
          · rw [show ((n - (m + 1) : Nat) : Int) = ((n - m : Nat) : Int) - 1 by omega]
          · rw [← hx2]
            exact HO2.out.chg p2 (fun b x h => h.1) (fun hg => by have := (HO2.out.lt _ hg).1; omega)
        case measure => simp [intOf]; omega
      · obtain rfl : m = q.length := by omega
        rw [show ((q.length - q.length : Nat) : Int) = 0 by omega] at c73
        go_wp2
        go_returns
        exact ⟨_, f', rfl, by rw [List.take_of_length_le (Nat.le_refl _)] at HO; rw [List.take_of_length_le hm]; exact HO.out, by rw [List.drop_of_length_le (Nat.le_refl _)] at HR; rw [List.drop_of_length_le hm]; exact HR.out, HC.out⟩
    · obtain rfl : m = n := by omega
      rw [show ((m - m : Nat) : Int) = 0 by omega]
      go_wp2
      go_returns
      exact ⟨_, f', rfl, HO.out, HR.out, HC.out⟩
end Go.Proofs.Yteadfobfenopkaa
