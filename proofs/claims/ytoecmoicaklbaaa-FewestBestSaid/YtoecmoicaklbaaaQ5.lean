
/- Contracts of package queue: at, Fault. -/
import Derived.Test.YtoecmoicaklbaaaQRow
import Derived.Outline
import Derived.Deep.QuietTactic
import Derived.BigQuiet
import Derived.StillTailTactics
set_option linter.unusedVariables false
namespace Go.Proofs.Ytoecmoicaklbaaa
open Go Go.RowKit Go.Sort Wc Wk

set_option maxHeartbeats 1000000 in
theorem qat_any (qb f i : Nat) (w : World) (h : w.cell? ⟨qb, 72, none⟩ = some (.int .i64 f)) (hf : f < 8) (hi : i < 100) :
    Calls Try.prog 126 #[.pointer (some ⟨qb, 0, none⟩), .int .i64 i] w fun e w' => e = .returned (.pointer (some ⟨qb, (f + i) % 8 * 9, none⟩)) ∧ ∃ n, w' = w.drewN n := by
  have e1 : wrap64 ((f : Int) + i) = ((f + i : Nat) : Int) := by rw [wrap64_in (by omega) (by omega)]; omega
  have e2 : (((f + i : Nat) : Int)).tmod 8 = (((f + i) % 8 : Nat) : Int) := by
    rw [Int.tmod_eq_emod_of_nonneg (by omega)]; omega
  have e3 : (0 : Int) ≤ (((f + i) % 8 : Nat) : Int) := by omega
  have e4 : ((((f + i) % 8 : Nat) : Int)) < 8 := by omega
  go_enter Try.func126, Try.ntmps126
  go_wp2_with fail
  go_quiet (fail)
  go_wp2
  go_returns
  exact ⟨rfl, _, rfl⟩

theorem qat_b (qb f i p : Nat) (w : World) (h : w.cell? ⟨qb, 72, none⟩ = some (.int .i64 f)) (hf : f < 8) (hi : i < 100) (hp : (f + i) % 8 = p) :
    Calls Try.prog 126 #[.pointer (some ⟨qb, 0, none⟩), .int .i64 i] w fun e w' => e = .returned (.pointer (some ⟨qb, p * 9, none⟩)) ∧ Below w.heap.size w w' := by
  subst hp
  exact (qat_any qb f i w h hf hi).mono fun e w' ⟨h1, n, h2⟩ => ⟨h1, by subst h2; exact ⟨rfl, rfl, rfl, Nat.le_refl _, fun _ _ => rfl⟩⟩
theorem qat_0 (qb f : Nat) (w : World) (h : w.cell? ⟨qb, 72, none⟩ = some (.int .i64 f)) (hf : f < 8) :
    Calls Try.prog 126 #[.pointer (some ⟨qb, 0, none⟩), .int .i64 0] w fun e w' => e = .returned (.pointer (some ⟨qb, f * 9, none⟩)) ∧ Below w.heap.size w w' :=
  qat_b qb f 0 f w h hf (by decide) (by omega)

/-- An act that may wait has no fault. -/
theorem qfault_any (x : ActD) (w : World) (hx : x.ok) :
    Calls Try.prog 125 #[Value.agg #[.int .i64 x.kind, .bool false, .int .u64 (hiOf false x.n), .int .u64 (loOf x.n), .int .i64 x.k, .int .i64 x.hop, .bool false, .int .u64 (hiOf false x.a), .int .u64 (loOf x.a)]] w fun e w' => e = .returned (.int .i64 0) ∧ Below w.heap.size w w' := by
  obtain ⟨hv, hh, ha, hk⟩ := hx
  have C := Lib.hid (fun w => check_ok false x.n x.k w hv)
  rcases hk with ⟨h1, h2⟩ | h1
  · have k1 : ((x.kind : Int) == 1) = true := by rw [h1]; rfl
    have k2 : ((x.kind : Int) != 1) = false := by rw [h1]; rfl
    have k3 : decide ((x.hop : Int) < 1) = false := by simp; omega
    have k4 : decide ((999 : Int) < x.hop) = false := by simp; omega
    clear hv ha h1
    go_enter Try.func125, Try.ntmps125
    go_wp2_with (first | ((with_reducible refine (C.out _).mono ?_); rintro e w1 ⟨rfl, hb1⟩; (repeat (with_reducible (replace hb1 := Below.undrew hb1))); obtain ⟨hc1, hf1⟩ := bcell hb1; have hz1 := hb1.size; (repeat (first | rw [World.size_alloc] at hz1 | rw [World.size_drew] at hz1 | rw [World.size_setCell] at hz1))))
    go_returns
    exact ⟨rfl, by (repeat' (first | (with_reducible exact Below.refl _ _) | (with_reducible assumption) | (with_reducible refine Below.al ?_ _) | (with_reducible refine Below.dr ?_) | (with_reducible refine Below.step ?_ (by assumption)) | (with_reducible refine Below.set ?_ ?_ _) | omega | (dsimp only; omega) | (simp; done) | (simp; omega)))⟩
  · have k1 : ((x.kind : Int) == 1) = false := by rw [h1]; rfl
    have k2 : ((x.kind : Int) != 1) = true := by rw [h1]; rfl
    have k3 : ((x.kind : Int) != 2) = false := by rw [h1]; rfl
    clear hv ha h1
    go_enter Try.func125, Try.ntmps125
    go_wp2_with (first | ((with_reducible refine (C.out _).mono ?_); rintro e w1 ⟨rfl, hb1⟩; (repeat (with_reducible (replace hb1 := Below.undrew hb1))); obtain ⟨hc1, hf1⟩ := bcell hb1; have hz1 := hb1.size; (repeat (first | rw [World.size_alloc] at hz1 | rw [World.size_drew] at hz1 | rw [World.size_setCell] at hz1))))
    go_returns
    exact ⟨rfl, by (repeat' (first | (with_reducible exact Below.refl _ _) | (with_reducible assumption) | (with_reducible refine Below.al ?_ _) | (with_reducible refine Below.dr ?_) | (with_reducible refine Below.step ?_ (by assumption)) | (with_reducible refine Below.set ?_ ?_ _) | omega | (dsimp only; omega) | (simp; done) | (simp; omega)))⟩
end Go.Proofs.Ytoecmoicaklbaaa

/- Contracts of package queue: the ring; Pull. -/
set_option linter.unusedVariables false
namespace Wk
open Go Go.RowKit Go.Sort
theorem Chg.then_below {w w1 w2 : World} {B : Nat} {F : Nat → Nat → Prop} (h : Chg w w1 F) (k : Below B w1 w2) (hB : w.heap.size ≤ B) : Chg w w2 F :=
  ⟨k.os.trans h.os, k.tape.trans h.tape, k.output.trans h.output, Nat.le_trans h.size k.size,
    fun b hb hf => (k.block b (Nat.lt_of_lt_of_le hb hB)).trans (h.block b hb hf),
    fun b x hb hf => (k.cell (p := ⟨b, x, none⟩) (Nat.lt_of_lt_of_le hb hB)).trans (h.cell b x hb hf),
    fun b x hb => (k.frozen (p := ⟨b, x, none⟩) (Nat.lt_of_lt_of_le hb hB)).trans (h.froz b x hb)⟩
theorem Own.chg {w w' : World} {B g : Nat} {e : TypeId} {sz : Nat} {v : Value} {xs : List (List Value)} {F : Nat → Nat → Prop} (h : Own w B e sz v xs) (c : Chg w w' F) (hF : ∀ b x, F b x → b = g) (hg : v.ownBlock ≠ some g) : Own w' B e sz v xs :=
  ⟨h.1, h.2.kept (row := some g) ⟨c.os, c.tape, c.output, c.size, fun k hk hne => c.block k hk (fun x hx => hne (by rw [hF k x hx]))⟩ (.inr hg)⟩
end Wk
namespace Go.Proofs.Ytoecmoicaklbaaa
open Go Go.RowKit Go.Sort Wc Wk

/-- A queue in a ring: where it begins, what waits. -/
structure QR (w : World) (qb f : Nat) (q : List ActD) : Prop where
  lt : qb < w.heap.size
  fl : f < 8
  ql : q.length ≤ 8
  c72 : w.cell? ⟨qb, 72, none⟩ = some (.int .i64 f)
  c73 : w.cell? ⟨qb, 73, none⟩ = some (.int .i64 q.length)
  at_ : ∀ i x, q[i]? = some x → ∀ j u, (actCells x)[j]? = some u → w.cell? ⟨qb, (f + i) % 8 * 9 + j, none⟩ = some u
  ex : ∀ o, o < 72 → ∃ u, w.cell? ⟨qb, o, none⟩ = some u
  fz : ∀ o, o < 74 → w.frozen? ⟨qb, o, none⟩ = false
theorem QR.below {w w' : World} {B qb f : Nat} {q : List ActD} (h : QR w qb f q) (hb : Below B w w') (hB : qb < B) : QR w' qb f q :=
  ⟨Nat.lt_of_lt_of_le h.lt hb.size, h.fl, h.ql, (hb.cell (p := ⟨qb, 72, none⟩) hB).trans h.c72, (hb.cell (p := ⟨qb, 73, none⟩) hB).trans h.c73,
    fun i x hx j u hu => (hb.cell (p := ⟨qb, (f + i) % 8 * 9 + j, none⟩) hB).trans (h.at_ i x hx j u hu),
    fun o ho => by obtain ⟨u, hu⟩ := h.ex o ho; exact ⟨u, (hb.cell (p := ⟨qb, o, none⟩) hB).trans hu⟩,
    fun o ho => (hb.frozen (p := ⟨qb, o, none⟩) hB).trans (h.fz o ho)⟩
theorem actCells_len (x : ActD) : (actCells x).length = 9 := rfl
theorem QR.pull {w : World} {qb f : Nat} {x : ActD} {q : List ActD} (h : QR w qb f (x :: q)) :
    QR ((w.setCell ⟨qb, 72, none⟩ (.int .i64 (((f + 1) % 8 : Nat) : Int))).setCell ⟨qb, 73, none⟩ (.int .i64 (q.length : Int))) qb ((f + 1) % 8) q ∧
    Chg w ((w.setCell ⟨qb, 72, none⟩ (.int .i64 (((f + 1) % 8 : Nat) : Int))).setCell ⟨qb, 73, none⟩ (.int .i64 (q.length : Int))) (fun b o => b = qb ∧ 72 ≤ o) := by
  obtain ⟨lt, fl, ql, c72, c73, at_, ex, fz⟩ := h
  have s1 := chg_set w qb 72 (.int .i64 (((f + 1) % 8 : Nat) : Int))
  have s2 := chg_set (w.setCell ⟨qb, 72, none⟩ (.int .i64 (((f + 1) % 8 : Nat) : Int))) qb 73 (.int .i64 (q.length : Int))
  have k1 : (w.setCell ⟨qb, 72, none⟩ (.int .i64 (((f + 1) % 8 : Nat) : Int))).cell? ⟨qb, 72, none⟩ = some (.int .i64 (((f + 1) % 8 : Nat) : Int)) := World.cell?_setCell_same w ⟨qb, 72, none⟩ _ c72
  have lt1 : qb < (w.setCell ⟨qb, 72, none⟩ (.int .i64 (((f + 1) % 8 : Nat) : Int))).heap.size := by simpa using lt
  have k2 := (s2.cell qb 72 lt1 (by omega)).trans k1
  have k3 := World.cell?_setCell_same (w.setCell ⟨qb, 72, none⟩ (.int .i64 (((f + 1) % 8 : Nat) : Int))) ⟨qb, 73, none⟩ (.int .i64 (q.length : Int)) ((s1.cell qb 73 lt (by omega)).trans c73)
  generalize w.setCell ⟨qb, 72, none⟩ (.int .i64 (((f + 1) % 8 : Nat) : Int)) = w1 at *
  generalize w1.setCell ⟨qb, 73, none⟩ (.int .i64 (q.length : Int)) = w2 at *
  have old : ∀ o, o < 72 → w2.cell? ⟨qb, o, none⟩ = w.cell? ⟨qb, o, none⟩ := fun o ho => (s2.cell qb o lt1 (by omega)).trans (s1.cell qb o lt (by omega))
  refine ⟨⟨Nat.lt_of_lt_of_le lt1 s2.size, Nat.mod_lt _ (by decide), by simp at ql; omega, k2, k3, fun i y hy j u hu => ?_, fun o ho => ?_, fun o ho => ?_⟩, ?_⟩
  · have hj : j < 9 := by
      have := (List.getElem?_eq_some_iff.1 hu).1
      rwa [actCells_len] at this
    have e : ((f + 1) % 8 + i) % 8 = (f + (i + 1)) % 8 := by omega
    rw [e, old _ (by omega)]
    exact at_ (i + 1) y (by simpa using hy) j u hu
  · obtain ⟨u, hu⟩ := ex o ho
    exact ⟨u, (old o ho).trans hu⟩
  · exact ((s2.froz qb o lt1).trans (s1.froz qb o lt)).trans (fz o ho)
  · refine Chg.trans (Chg.trans (Chg.refl w _) s1 ?_) s2 ?_
    · intro b o _ ⟨h1, h2⟩; exact ⟨h1, by omega⟩
    · intro b o _ ⟨h1, h2⟩; exact ⟨h1, by omega⟩

/-- What a Pull hands back. -/
def PullSays (w : World) (qb : Nat) (q : List ActD) (n : Nat) (e : Ending) (w' : World) : Prop :=
  ∃ v f', e = .returned v ∧ Own w' w.heap.size 32 9 v ((q.take n).map actCells) ∧ QR w' qb f' (q.drop n) ∧ Chg w w' (fun b _ => b = qb)


set_option maxRecDepth 100000 in
set_option maxHeartbeats 2000000 in
theorem pull_any (qb f n : Nat) (q : List ActD) (w : World) (h : QR w qb f q) (hn : n ≤ 1000) :
    Calls Try.prog 110 #[.pointer (some ⟨qb, 0, none⟩), .int .i64 n] w (PullSays w qb q n) := by
  have hql := h.ql
  have hlt := h.lt
  have HQ := Lib.hid h
  clear h
  go_enter Try.func110, Try.ntmps110
  go_wp2_with fail
  go_loopw [1, 5] (fun i v wr => ∃ m f' : Nat, m ≤ n ∧ m ≤ q.length ∧ i = .int .i64 ((n - m : Nat) : Int) ∧ Hid (Own wr w.heap.size 32 9 v ((q.take m).map actCells)) ∧ Hid (QR wr qb f' (q.drop m)) ∧ Hid (Chg w wr (fun b _ => b = qb))) (fun i _ _ => (intOf i).toNat)
  case atStart => exact ⟨0, f, Nat.zero_le _, Nat.zero_le _, rfl, Own.nil _ _ _ _, HQ.out, Chg.refl _ _⟩
  case round =>
    obtain ⟨m, f', hm, hmq, rfl, HO, HR, HC⟩ := hrel
    have hzr := HC.out.size
    have hqr : qb < wr.heap.size := by omega
    have c72 := HR.out.c72
    have c73 := HR.out.c73
    have f72 := HR.out.fz 72 (by decide)
    have f73 := HR.out.fz 73 (by decide)
    have hf' := HR.out.fl
    rw [List.length_drop] at c73
    by_cases hmn : m < n
    · have d1 : 0 < n - m := by omega
      by_cases hme : m < q.length
      · have d2 : 0 < q.length - m := by omega
        obtain ⟨y, hx⟩ : ∃ y, q[m]? = some y := ⟨_, List.getElem?_eq_getElem hme⟩
        have hx0 : (q.drop m)[0]? = some y := by rw [List.getElem?_drop]; simpa using hx
        have g := fun j u (hu : (actCells y)[j]? = some u) => HR.out.at_ 0 y hx0 j u hu
        rw [show (f' + 0) % 8 * 9 = f' * 9 by omega] at g
        have g0 : wr.cell? ⟨qb, f' * 9, none⟩ = _ := g 0 _ rfl
        have g1 := g 1 _ rfl
        have g2 := g 2 _ rfl
        have g3 := g 3 _ rfl
        have g4 := g 4 _ rfl
        have g5 := g 5 _ rfl
        have g6 := g 6 _ rfl
        have g7 := g 7 _ rfl
        have g8 := g 8 _ rfl
        have HX := Lib.hid hx
        clear g hx0 hx
        go_wp2_with fail
        refine (qat_0 qb f' _ c72 hf').mono ?_; rintro e w1 ⟨rfl, hb1⟩; (repeat (with_reducible (replace hb1 := Below.undrew hb1))); obtain ⟨hc1, hf1⟩ := bcell hb1; have hz1 := hb1.size; (repeat (first | rw [World.size_alloc] at hz1 | rw [World.size_drew] at hz1 | rw [World.size_setCell] at hz1)); (try have : qb < w1.heap.size := by omega); (try have : qb < w1.heap.size + 1 := by omega); (try have : qb < w1.heap.size + 1 + 1 := by omega); (try have : qb < w1.heap.size + 1 + 1 + 1 := by omega); (try have : wr.heap.size < w1.heap.size := by omega); (try have : wr.heap.size < w1.heap.size + 1 := by omega); (try have : wr.heap.size < w1.heap.size + 1 + 1 := by omega); (try have : wr.heap.size < w1.heap.size + 1 + 1 + 1 := by omega)
        go_wp2_with (at_builtin; refine stop_at ?_; intro G hG)
        rw [← hG.out]; clear hG G
        refine wpList_append_any rfl _ _ 39 32 9 72 _ rfl eiAct (w.heap.size) _ (((q.take m)).map actCells) rfl (by ((repeat (first | (with_reducible refine Wk.Own.alloc ?_ _) | (with_reducible refine Wk.Own.dr ?_))); refine Wk.Own.below ?_ hb1; (repeat (first | (with_reducible refine Wk.Own.alloc ?_ _) | (with_reducible refine Wk.Own.dr ?_))); exact HO.out)) _ (([y]).map actCells) rfl (sl_new (c := actCells y) (by simp) rfl) (by intro c hc; obtain ⟨r, _, rfl⟩ := List.mem_map.1 hc; exact actCells_one r) (by skip; first | omega | (simp; omega)) (by decide) (by first | omega | (simp; done) | (simp; omega)) ?_
        intro v2 w2 hown2 hb2
        rw [← List.map_append] at hown2
        obtain ⟨xs2, hxs2⟩ : ∃ x : List ActD, x = ((q.take m)) ++ ([y]) := ⟨_, rfl⟩
        rw [← hxs2] at hown2
        have hl2 : xs2.length = ((q.take m)).length + ([y]).length := by rw [hxs2, List.length_append]
        have HX2 := Lib.hid hxs2
        clear hxs2
        have HL2 := Lib.hid hl2
        clear hl2
        obtain ⟨a2, cap2, rfl⟩ := hown2.shape
        rw [List.length_map] at hown2 ⊢
        have HO2 := Lib.hid hown2
        clear hown2
        obtain ⟨hc2, hf2⟩ := bcellB hb2; have hz2 := hb2.size; (repeat (first | rw [World.size_alloc] at hz2 | rw [World.size_drew] at hz2 | rw [World.size_setCell] at hz2)); (try have : qb < w2.heap.size := by omega); (try have : qb < w2.heap.size + 1 := by omega); (try have : qb < w2.heap.size + 1 + 1 := by omega); (try have : qb < w2.heap.size + 1 + 1 + 1 := by omega); (try have : wr.heap.size < w2.heap.size := by omega); (try have : wr.heap.size < w2.heap.size + 1 := by omega); (try have : wr.heap.size < w2.heap.size + 1 + 1 := by omega); (try have : wr.heap.size < w2.heap.size + 1 + 1 + 1 := by omega); (try have : w1.heap.size < w2.heap.size := by omega); (try have : w1.heap.size < w2.heap.size + 1 := by omega); (try have : w1.heap.size < w2.heap.size + 1 + 1 := by omega); (try have : w1.heap.size < w2.heap.size + 1 + 1 + 1 := by omega); (try have : w1.heap.size + 1 < w2.heap.size := by omega); (try have : w1.heap.size + 1 < w2.heap.size + 1 := by omega); (try have : w1.heap.size + 1 < w2.heap.size + 1 + 1 := by omega); (try have : w1.heap.size + 1 < w2.heap.size + 1 + 1 + 1 := by omega)
        go_wp2_with fail
        have hbw : Below w.heap.size wr w2 := by (repeat' (first | (with_reducible exact Below.refl _ _) | (with_reducible assumption) | (with_reducible refine Below.alloc ?_ ?_ _) | (with_reducible refine Below.drew ?_) | (with_reducible refine Below.stepG ?_ (by assumption) ?_) | (with_reducible refine Below.setCell ?_ ?_ _) | omega | (dsimp only; omega) | (simp; done) | (simp; omega)))
        have hd : q.drop m = y :: q.drop (m + 1) := by
          obtain ⟨hy1, hy2⟩ := List.getElem?_eq_some_iff.1 HX.out
          rw [← hy2, ← List.drop_eq_getElem_cons hy1]
        obtain ⟨p1, p2⟩ := QR.pull (w := w2) (x := y) (q := q.drop (m + 1)) (by rw [← hd]; exact HR.out.below hbw hlt)
        have e1 : (((f' + 1) % 8 : Nat) : Int) = ((f' : Int) + 1) % 8 := by omega
        have e2 : (((q.drop (m + 1)).length : Nat) : Int) = ((q.length - m : Nat) : Int) - 1 := by rw [List.length_drop]; omega
        rw [e1, e2] at p1 p2
        have hx2 : xs2 = q.take (m + 1) := by
          rw [HX2.out, List.take_add_one, HX.out]; rfl
        have hcc : Chg w ((w2.setCell ⟨qb, 72, none⟩ (.int .i64 (((f' : Int) + 1) % 8))).setCell ⟨qb, 73, none⟩ (.int .i64 (((q.length - m : Nat) : Int) - 1))) (fun b _ => b = qb) :=
          (HC.out.then_below hbw (Nat.le_refl _)).trans p2 (fun b x _ h => h.1)
        go_roundw
        case rel =>
          refine ⟨m + 1, (f' + 1) % 8, by omega, by omega, ?_, ?_, p1, hcc⟩
          · rw [show ((n - (m + 1) : Nat) : Int) = ((n - m : Nat) : Int) - 1 by omega]
          · rw [← hx2]
            exact HO2.out.chg p2 (fun b x h => h.1) (fun hg => by have := (HO2.out.lt _ hg).1; omega)
        case measure => simp [intOf]; omega
      · obtain rfl : m = q.length := by omega
        rw [show ((q.length - q.length : Nat) : Int) = 0 by omega] at c73
        go_wp2
        go_returns
        exact ⟨_, f', rfl, by rw [List.take_of_length_le (Nat.le_refl _)] at HO; rw [List.take_of_length_le hm]; exact HO.out, by rw [List.drop_of_length_le (Nat.le_refl _)] at HR; rw [List.drop_of_length_le hm]; exact HR.out, HC.out⟩
    · obtain rfl : m = n := by omega
      rw [show ((m - m : Nat) : Int) = 0 by omega]
      go_wp2
      go_returns
      exact ⟨_, f', rfl, HO.out, HR.out, HC.out⟩
end Go.Proofs.Ytoecmoicaklbaaa

/- Contracts of package queue: Push. -/
set_option linter.unusedVariables false
namespace Go.Proofs.Ytoecmoicaklbaaa
open Go Go.RowKit Go.Sort Wc Wk

theorem act_ne {x y : ActD} (hx : x.ok) (hy : y.ok) (h : x.same y = false) : (x.k = y.k ∧ ¬ loOf x.n = loOf y.n) ∨ ¬ ((x.k : Int) = y.k) := by
  by_cases hk : x.k = y.k
  · refine .inl ⟨hk, fun e => ?_⟩
    rw [loOf_false hx.1.1, loOf_false hy.1.1] at e
    have : x.same y = true := (same_iff _ _).2 ⟨by omega, hk⟩
    rw [h] at this; cases this
  · exact .inr (by omega)
theorem nosame_step {q : List ActD} {m : Nat} {x y : ActD} (h : ∀ (t : Nat) (x : ActD), t < m → q[t]? = some x → x.same y = false) (hx : q[m]? = some x) (hs : x.same y = false) : ∀ (t : Nat) (x : ActD), t < m + 1 → q[t]? = some x → x.same y = false := by
  intro t z ht hz
  rcases Nat.lt_or_ge t m with h1 | h1
  · exact h t z h1 hz
  · obtain rfl : t = m := by omega
    rw [hx] at hz; cases hz; exact hs
end Go.Proofs.Ytoecmoicaklbaaa
namespace Wk
open Go Go.RowKit Go.Sort
theorem Chg.mono {w w' : World} {F G : Nat → Nat → Prop} (h : Chg w w' F) (hs : ∀ b x, F b x → G b x) : Chg w w' G :=
  ⟨h.os, h.tape, h.output, h.size, fun k hk hf => h.block k hk (fun x hx => hf x (hs _ _ hx)), fun k x hk hf => h.cell k x hk (fun hx => hf (hs _ _ hx)), h.froz⟩
end Wk
namespace Go.Proofs.Ytoecmoicaklbaaa
open Go Go.RowKit Go.Sort Wc Wk
def setRow (w : World) (b : Nat) : Nat → List Value → World
  | _, [] => w
  | o, c :: cs => setRow (w.setCell ⟨b, o, none⟩ c) b (o + 1) cs
theorem setRow_chg (b : Nat) : ∀ (cs : List Value) (o : Nat) (w : World), b < w.heap.size → (∀ j, j < cs.length → ∃ u, w.cell? ⟨b, o + j, none⟩ = some u) →
    Chg w (setRow w b o cs) (fun k x => k = b ∧ o ≤ x ∧ x < o + cs.length) ∧ ∀ j u, cs[j]? = some u → (setRow w b o cs).cell? ⟨b, o + j, none⟩ = some u
  | [], o, w, _, _ => ⟨Chg.refl _ _, fun j u h => by simp at h⟩
  | c :: cs, o, w, hb, hex => by
    have s1 := chg_set w b o c
    obtain ⟨u0, hu0⟩ := hex 0 (by simp)
    have k0 : (w.setCell ⟨b, o, none⟩ c).cell? ⟨b, o, none⟩ = some c := World.cell?_setCell_same w ⟨b, o, none⟩ c hu0
    have hb1 : b < (w.setCell ⟨b, o, none⟩ c).heap.size := by simpa using hb
    obtain ⟨h1, h2⟩ := setRow_chg b cs (o + 1) (w.setCell ⟨b, o, none⟩ c) hb1 (fun j hj => by
      obtain ⟨u, hu⟩ := hex (j + 1) (by simpa using hj)
      exact ⟨u, (s1.cell b (o + 1 + j) hb (by omega)).trans (by rw [show o + 1 + j = o + (j + 1) by omega]; exact hu)⟩)
    have s2 : Chg w (w.setCell ⟨b, o, none⟩ c) (fun k x => k = b ∧ o ≤ x ∧ x < o + (c :: cs).length) := s1.mono (by
      rintro k x ⟨h3, h4⟩; refine ⟨h3, by omega, ?_⟩; rw [List.length_cons]; omega)
    refine ⟨s2.trans h1 ?_, fun j u hu => ?_⟩
    · rintro k x _ ⟨h3, h4, h5⟩; refine ⟨h3, by omega, ?_⟩; rw [List.length_cons]; omega
    · match j, hu with
      | 0, hu =>
        simp at hu; subst hu
        exact (h1.cell b o hb1 (by omega)).trans k0
      | j + 1, hu =>
        rw [show o + (j + 1) = o + 1 + j by omega]
        exact h2 j u (by simpa using hu)
theorem QR.row {w : World} {qb f p : Nat} {q : List ActD} (h : QR w qb f q) (y : ActD) (hp : p < 8) :
    Chg w (setRow w qb (p * 9) (actCells y)) (fun k x => k = qb ∧ p * 9 ≤ x ∧ x < p * 9 + 9) ∧ ∀ j u, (actCells y)[j]? = some u → (setRow w qb (p * 9) (actCells y)).cell? ⟨qb, p * 9 + j, none⟩ = some u :=
  setRow_chg qb (actCells y) (p * 9) w h.lt (fun j hj => h.ex _ (by rw [actCells_len] at hj; omega))
theorem QR.put {w : World} {qb f m p : Nat} {x : ActD} {q : List ActD} (h : QR w qb f q) (hx : q[m]? = some x) (hp : (f + m) % 8 = p) (y : ActD) :
    QR (setRow w qb (p * 9) (actCells y)) qb f (q.set m y) ∧ Chg w (setRow w qb (p * 9) (actCells y)) (fun b _ => b = qb) := by
  have hm := (List.getElem?_eq_some_iff.1 hx).1
  have hql := h.ql
  obtain ⟨c, hc⟩ := h.row y (p := p) (by omega)
  refine ⟨⟨Nat.lt_of_lt_of_le h.lt c.size, h.fl, by simpa using hql, (c.cell _ _ h.lt (by omega)).trans h.c72, ?_, fun i z hz j u hu => ?_, fun o ho => ?_, fun o ho => (c.froz _ _ h.lt).trans (h.fz o ho)⟩, ⟨c.os, c.tape, c.output, c.size, fun k hk hf => c.block k hk (fun x hx => hf 0 hx.1), fun k x hk hf => c.cell k x hk (fun hx => hf hx.1), c.froz⟩⟩
  · rw [List.length_set]; exact (c.cell _ _ h.lt (by omega)).trans h.c73
  · have hj : j < 9 := by
      have := (List.getElem?_eq_some_iff.1 hu).1
      rwa [actCells_len] at this
    have hil := (List.getElem?_eq_some_iff.1 hz).1
    rw [List.length_set] at hil
    rw [List.getElem?_set] at hz
    by_cases hi : m = i
    · subst hi
      rw [if_pos rfl, if_pos hm] at hz
      cases hz
      rw [hp]
      exact hc j u hu
    · rw [if_neg hi] at hz
      have hne : (f + i) % 8 ≠ p := by omega
      exact (c.cell _ _ h.lt (by omega)).trans (h.at_ i z hz j u hu)
  · by_cases hin : p * 9 ≤ o ∧ o < p * 9 + 9
    · refine ⟨_, by rw [show o = p * 9 + (o - p * 9) by omega]; exact hc (o - p * 9) ((actCells y)[o - p * 9]'(by rw [actCells_len]; omega)) (List.getElem?_eq_getElem _)⟩
    · obtain ⟨u, hu⟩ := h.ex o ho
      exact ⟨u, (c.cell _ _ h.lt (by omega)).trans hu⟩
theorem QR.add {w : World} {qb f p : Nat} {q : List ActD} (h : QR w qb f q) (h8 : q.length ≠ 8) (hp : (f + q.length) % 8 = p) (y : ActD) :
    QR ((setRow w qb (p * 9) (actCells y)).setCell ⟨qb, 73, none⟩ (.int .i64 ((q.length + 1 : Nat) : Int))) qb f (q ++ [y]) ∧ Chg w ((setRow w qb (p * 9) (actCells y)).setCell ⟨qb, 73, none⟩ (.int .i64 ((q.length + 1 : Nat) : Int))) (fun b _ => b = qb) := by
  have hql := h.ql
  obtain ⟨c, hc⟩ := h.row y (p := p) (by omega)
  have hlt := Nat.lt_of_lt_of_le h.lt c.size
  have c73 := (c.cell qb 73 h.lt (by omega)).trans h.c73
  have s := chg_set (setRow w qb (p * 9) (actCells y)) qb 73 (.int .i64 ((q.length + 1 : Nat) : Int))
  have k := World.cell?_setCell_same (setRow w qb (p * 9) (actCells y)) ⟨qb, 73, none⟩ (.int .i64 ((q.length + 1 : Nat) : Int)) c73
  generalize (setRow w qb (p * 9) (actCells y)).setCell ⟨qb, 73, none⟩ (.int .i64 ((q.length + 1 : Nat) : Int)) = W at *
  refine ⟨⟨Nat.lt_of_lt_of_le hlt s.size, h.fl, by simp; omega, (s.cell _ _ hlt (by omega)).trans ((c.cell _ _ h.lt (by omega)).trans h.c72), by rw [k]; simp, fun i z hz j u hu => ?_, fun o ho => ?_, fun o ho => (s.froz _ _ hlt).trans ((c.froz _ _ h.lt).trans (h.fz o ho))⟩, ?_⟩
  · have hj : j < 9 := by
      have := (List.getElem?_eq_some_iff.1 hu).1
      rwa [actCells_len] at this
    have hil := (List.getElem?_eq_some_iff.1 hz).1
    simp at hil
    rw [s.cell _ _ hlt (by omega)]
    by_cases hi : i < q.length
    · rw [List.getElem?_append_left hi] at hz
      exact (c.cell _ _ h.lt (by omega)).trans (h.at_ i z hz j u hu)
    · obtain rfl : i = q.length := by omega
      simp at hz
      subst hz
      rw [hp]
      exact hc j u hu
  · by_cases hin : p * 9 ≤ o ∧ o < p * 9 + 9
    · refine ⟨_, by rw [s.cell _ _ hlt (by omega), show o = p * 9 + (o - p * 9) by omega]; exact hc (o - p * 9) ((actCells y)[o - p * 9]'(by rw [actCells_len]; omega)) (List.getElem?_eq_getElem _)⟩
    · obtain ⟨u, hu⟩ := h.ex o ho
      exact ⟨u, (s.cell _ _ hlt (by omega)).trans ((c.cell _ _ h.lt (by omega)).trans hu)⟩
  · refine Chg.trans (F := fun b _ => b = qb) (⟨c.os, c.tape, c.output, c.size, fun k hk hf => c.block k hk (fun x hx => hf 0 hx.1), fun k x hk hf => c.cell k x hk (fun hx => hf hx.1), c.froz⟩) s (fun b x _ h => h.1)
/-- What a Push comes to. -/
def PushSays (w : World) (qb : Nat) (q : List ActD) (y : ActD) (e : Ending) (w' : World) : Prop :=
  ∃ f', e = .returned (.tuple #[.bool (qstep q ⟨true, y, 0⟩).2.merged, .int .i64 ((qstep q ⟨true, y, 0⟩).2.code : Nat)]) ∧ (qstep q ⟨true, y, 0⟩).2.acts = [] ∧ QR w' qb f' (qstep q ⟨true, y, 0⟩).1 ∧ Chg w w' (fun b _ => b = qb)

theorem qstep_put {q : List ActD} {m : Nat} {x y : ActD} (hx : q[m]? = some x) (hs : x.same y = true) (hn : ∀ (t : Nat) (x : ActD), t < m → q[t]? = some x → x.same y = false) : qstep q ⟨true, y, 0⟩ = (q.set m y, ⟨0, true, []⟩) := by
  rcases qstep_cases q ⟨true, y, 0⟩ with ⟨_, i, z, h1, h2, h3, e⟩ | ⟨_, h, _⟩ | ⟨h, _⟩ | ⟨h, _⟩
  · have : i = m := by
      rcases Nat.lt_trichotomy i m with h | h | h
      · have := hn i z h h1; rw [h2] at this; cases this
      · exact h
      · have := h3 m x h hx; rw [hs] at this; cases this
    subst this
    exact e
  · have := h m x hx; rw [hs] at this; cases this
  · cases h
  · cases h
theorem qstep_none {q : List ActD} {y : ActD} (hn : ∀ (t : Nat) (x : ActD), t < q.length → q[t]? = some x → x.same y = false) : (q.length = 8 ∧ qstep q ⟨true, y, 0⟩ = (q, ⟨9, false, []⟩)) ∨ (q.length ≠ 8 ∧ qstep q ⟨true, y, 0⟩ = (q ++ [y], ⟨0, false, []⟩)) := by
  rcases qstep_cases q ⟨true, y, 0⟩ with ⟨_, i, z, h1, h2, h3, e⟩ | ⟨_, h, h'⟩ | ⟨h, _⟩ | ⟨h, _⟩
  · have := hn i z (List.getElem?_eq_some_iff.1 h1).1 h1
    have h2' : z.same y = true := h2
    rw [h2'] at this; cases this
  · exact h'
  · cases h
  · cases h


set_option maxRecDepth 100000 in
set_option maxHeartbeats 2000000 in
theorem push_any (qb f : Nat) (q : List ActD) (y : ActD) (w : World) (h : QR w qb f q) (hq : ∀ x ∈ q, ActD.ok x) (hy : y.ok) :
    Calls Try.prog 109 #[.pointer (some ⟨qb, 0, none⟩), Value.agg #[.int .i64 y.kind, .bool false, .int .u64 (hiOf false y.n), .int .u64 (loOf y.n), .int .i64 y.k, .int .i64 y.hop, .bool false, .int .u64 (hiOf false y.a), .int .u64 (loOf y.a)]] w (PushSays w qb q y) := by
  have hql := h.ql
  have hlt := h.lt
  have hfl := h.fl
  have HQ := Lib.hid h
  have HK := Lib.hid hq
  have HY := Lib.hid hy
  have C := Lib.hid (fun w => qfault_any y w hy)
  clear h hq hy
  go_enter Try.func109, Try.ntmps109
  go_wp2_with fail
  refine (C.out _).mono ?_; rintro e w1 ⟨rfl, hb1⟩; (repeat (with_reducible (replace hb1 := Below.undrew hb1))); obtain ⟨hc1, hf1⟩ := bcell hb1; have hz1 := hb1.size; (repeat (first | rw [World.size_alloc] at hz1 | rw [World.size_drew] at hz1 | rw [World.size_setCell] at hz1)); (try have : qb < w1.heap.size := by omega); (try have : qb < w1.heap.size + 1 := by omega); (try have : qb < w1.heap.size + 1 + 1 := by omega); (try have : qb < w1.heap.size + 1 + 1 + 1 := by omega); (try have : B < w1.heap.size := by omega); (try have : B < w1.heap.size + 1 := by omega); (try have : B < w1.heap.size + 1 + 1 := by omega); (try have : B < w1.heap.size + 1 + 1 + 1 := by omega); (try have : wr.heap.size < w1.heap.size := by omega); (try have : wr.heap.size < w1.heap.size + 1 := by omega); (try have : wr.heap.size < w1.heap.size + 1 + 1 := by omega); (try have : wr.heap.size < w1.heap.size + 1 + 1 + 1 := by omega)
  have F := fun j u (hu : (actCells y)[j]? = some u) => (hc1 w.heap.size j (by simp)).trans (show (w.alloc (.cells (actCells y).toArray 32)).cell? ⟨w.heap.size, j, none⟩ = some u by rw [World.cell?_alloc_new]; simpa using hu)
  have F0 := F 0 _ rfl
  have F1 := F 1 _ rfl
  have F2 := F 2 _ rfl
  have F3 := F 3 _ rfl
  have F4 := F 4 _ rfl
  have F5 := F 5 _ rfl
  have F6 := F 6 _ rfl
  have F7 := F 7 _ rfl
  have F8 := F 8 _ rfl
  have FB : Below w.heap.size w w1 := by (repeat' (first | (with_reducible exact Below.refl _ _) | (with_reducible assumption) | (with_reducible refine Below.alloc ?_ ?_ _) | (with_reducible refine Below.drew ?_) | (with_reducible refine Below.stepG ?_ (by assumption) ?_) | (with_reducible refine Below.setCell ?_ ?_ _) | omega | (dsimp only; omega) | (simp; done) | (simp; omega)))
  have FS : w.heap.size < w1.heap.size := by omega
  have FB' := FB
  have FS' : w.heap.size ≤ w1.heap.size := FB.size
  have HR := Lib.hid (HQ.out.below FB hlt)
  have hq1 : qb < w1.heap.size := by omega
  clear F hc1 hf1 hb1 hz1
  obtain ⟨B, hB⟩ : ∃ B, B = w.heap.size := ⟨_, rfl⟩
  rw [← hB] at F0 F1 F2 F3 F4 F5 F6 F7 F8 FS hlt ⊢
  have HB := Lib.hid hB
  clear hB
  have c73 := HR.out.c73
  go_wp2_with fail
  go_loopw [17] (fun i wr => ∃ m : Nat, m ≤ q.length ∧ i = .int .i64 m ∧ Hid (∀ (t : Nat) (x : ActD), t < m → q[t]? = some x → x.same y = false) ∧ Below w1.heap.size w1 wr) (fun i _ => q.length - (intOf i).toNat)
  case atStart => exact ⟨0, Nat.zero_le _, rfl, fun t x h => absurd h (Nat.not_lt_zero t), Below.refl _ _⟩
  case round =>
    obtain ⟨m, hm, rfl, HN, hbr⟩ := hrel
    have hzr := hbr.size
    have HQR := Lib.hid (HR.out.below hbr hq1)
    have gq : qb < wr.heap.size := by omega
    have gB : B < wr.heap.size := by omega
    have r72 := HQR.out.c72
    have r73 := HQR.out.c73
    have P0 := (hbr.cell (p := ⟨B, 0, none⟩) FS).trans F0
    have P1 := (hbr.cell (p := ⟨B, 1, none⟩) FS).trans F1
    have P2 := (hbr.cell (p := ⟨B, 2, none⟩) FS).trans F2
    have P3 := (hbr.cell (p := ⟨B, 3, none⟩) FS).trans F3
    have P4 := (hbr.cell (p := ⟨B, 4, none⟩) FS).trans F4
    have P5 := (hbr.cell (p := ⟨B, 5, none⟩) FS).trans F5
    have P6 := (hbr.cell (p := ⟨B, 6, none⟩) FS).trans F6
    have P7 := (hbr.cell (p := ⟨B, 7, none⟩) FS).trans F7
    have P8 := (hbr.cell (p := ⟨B, 8, none⟩) FS).trans F8
    clear F0 F1 F2 F3 F4 F5 F6 F7 F8 c73
    by_cases hlt : m < q.length
    · obtain ⟨x, hx⟩ : ∃ x, q[m]? = some x := ⟨_, List.getElem?_eq_getElem hlt⟩
      have hxok := HK.out x (List.mem_of_getElem? hx)
      obtain ⟨p, hp⟩ : ∃ p, (f + m) % 8 = p := ⟨_, rfl⟩
      have g := HQR.out.at_ m x hx
      rw [hp] at g
      have hp8 : p < 8 := by omega
      have g0 : wr.cell? ⟨qb, p * 9, none⟩ = _ := g 0 _ rfl
      have g5 := g 5 _ rfl
      have g6 := g 6 _ rfl
      have g7 := g 7 _ rfl
      have g8 := g 8 _ rfl
      have g1 : wr.cell? ⟨qb, p * 9 + 1, none⟩ = _ := g 1 _ rfl
      have g2 : wr.cell? ⟨qb, p * 9 + 2, none⟩ = _ := g 2 _ rfl
      have g3 : wr.cell? ⟨qb, p * 9 + 3, none⟩ = _ := g 3 _ rfl
      have g4 : wr.cell? ⟨qb, p * 9 + 4, none⟩ = _ := g 4 _ rfl
      have AT := Lib.hid (fun w' h => qat_b qb f m p w' h hfl (by omega) hp)
      have HX := Lib.hid hx
      have HP := Lib.hid hp
      clear g hx hp
      by_cases hsm : x.same y = true
      · have hsm2 := (same_iff x y).1 hsm
        rw [hsm2.1] at g2 g3
        rw [hsm2.2] at g4
        have HSM := Lib.hid hsm
        clear hsm hsm2
        go_wp2_with fail
        refine wp_region_qb (by kernel_rfl) (by kernel_rfl) (fun kq => ?_)
        repeat (quiet_step (with_reducible exact Calls.regrown_of (AT.out _ ((kq _ _ _ _ gq).trans r72))))
        clear kq
        refine wpQuiet_nil ?_; intro w2 hb2; (repeat (with_reducible (replace hb2 := Below.undrew hb2))); obtain ⟨hc2, hf2⟩ := bcell hb2; have hz2 := hb2.size; (repeat (first | rw [World.size_alloc] at hz2 | rw [World.size_drew] at hz2 | rw [World.size_setCell] at hz2)); (try have : qb < w2.heap.size := by omega); (try have : qb < w2.heap.size + 1 := by omega); (try have : qb < w2.heap.size + 1 + 1 := by omega); (try have : qb < w2.heap.size + 1 + 1 + 1 := by omega); (try have : B < w2.heap.size := by omega); (try have : B < w2.heap.size + 1 := by omega); (try have : B < w2.heap.size + 1 + 1 := by omega); (try have : B < w2.heap.size + 1 + 1 + 1 := by omega); (try have : wr.heap.size < w2.heap.size := by omega); (try have : wr.heap.size < w2.heap.size + 1 := by omega); (try have : wr.heap.size < w2.heap.size + 1 + 1 := by omega); (try have : wr.heap.size < w2.heap.size + 1 + 1 + 1 := by omega); (try have : w1.heap.size < w2.heap.size := by omega); (try have : w1.heap.size < w2.heap.size + 1 := by omega); (try have : w1.heap.size < w2.heap.size + 1 + 1 := by omega); (try have : w1.heap.size < w2.heap.size + 1 + 1 + 1 := by omega); (try have : w1.heap.size + 1 < w2.heap.size := by omega); (try have : w1.heap.size + 1 < w2.heap.size + 1 := by omega); (try have : w1.heap.size + 1 < w2.heap.size + 1 + 1 := by omega); (try have : w1.heap.size + 1 < w2.heap.size + 1 + 1 + 1 := by omega)
        go_wp2_with fail
        have HR2 := Lib.hid (HQR.out.below hb2 gq)
        have R72 := HR2.out.c72
        have f0 := HQR.out.fz (p * 9) (by omega)
        have f1 := HQR.out.fz (p * 9 + 1) (by omega)
        have f2 := HQR.out.fz (p * 9 + 2) (by omega)
        have f3 := HQR.out.fz (p * 9 + 3) (by omega)
        have f4 := HQR.out.fz (p * 9 + 4) (by omega)
        have f5 := HQR.out.fz (p * 9 + 5) (by omega)
        have f6 := HQR.out.fz (p * 9 + 6) (by omega)
        have f7 := HQR.out.fz (p * 9 + 7) (by omega)
        have f8 := HQR.out.fz (p * 9 + 8) (by omega)
        go_region_with (go_at_call 126; refine (qat_any qb f m _ (by first | exact R72 | (go_simp; done) | simpa using R72) hfl (by omega)).mono ?_; rintro e w' ⟨rfl, n3, rfl⟩; rw [HP.out])
        all_goals go_wp2
        all_goals go_returns
        all_goals
          have hbw : Below w1.heap.size w1 w2 := by (repeat' (first | (with_reducible exact Below.refl _ _) | (with_reducible assumption) | (with_reducible refine Below.alloc ?_ ?_ _) | (with_reducible refine Below.drew ?_) | (with_reducible refine Below.stepG ?_ (by assumption) ?_) | (with_reducible refine Below.setCell ?_ ?_ _) | omega | (dsimp only; omega) | (simp; done) | (simp; omega)))
          obtain ⟨p1, p2⟩ := QR.put (w := w2.drewN (1 + n3)) (HR2.out.below (B := w2.heap.size) (below_drewN (Below.refl _ _) _) (by omega)) HX.out HP.out y
          have hst := qstep_put HX.out HSM.out HN.out
          refine ⟨f, ?_, by rw [hst], by rw [hst]; exact p1, ?_⟩
          · rw [hst]; rfl
          · exact ((Chg.of_below FB' (fun b _ => b = qb)).then_below hbw FS').trans ((Chg.of_below (below_drewN (Below.refl _ _) _) (fun b _ => b = qb)).trans p2 (fun b x _ h => h)) (fun b x _ h => h)
      · have hsf : x.same y = false := by simpa using hsm
        have hd := act_ne hxok HY.out hsf
        have HSF := Lib.hid hsf
        clear hsm hsf
        rcases hd with ⟨hk, hn⟩ | hk
        · rw [hk] at g4
          clear hk
          go_wp2_with fail
          refine wp_region_qb (by kernel_rfl) (by kernel_rfl) (fun kq => ?_)
          repeat (quiet_step (with_reducible exact Calls.regrown_of (AT.out _ ((kq _ _ _ _ gq).trans r72))))
          clear kq
          refine wpQuiet_nil ?_; intro w2 hb2; (repeat (with_reducible (replace hb2 := Below.undrew hb2))); obtain ⟨hc2, hf2⟩ := bcell hb2; have hz2 := hb2.size; (repeat (first | rw [World.size_alloc] at hz2 | rw [World.size_drew] at hz2 | rw [World.size_setCell] at hz2)); (try have : qb < w2.heap.size := by omega); (try have : qb < w2.heap.size + 1 := by omega); (try have : qb < w2.heap.size + 1 + 1 := by omega); (try have : qb < w2.heap.size + 1 + 1 + 1 := by omega); (try have : B < w2.heap.size := by omega); (try have : B < w2.heap.size + 1 := by omega); (try have : B < w2.heap.size + 1 + 1 := by omega); (try have : B < w2.heap.size + 1 + 1 + 1 := by omega); (try have : wr.heap.size < w2.heap.size := by omega); (try have : wr.heap.size < w2.heap.size + 1 := by omega); (try have : wr.heap.size < w2.heap.size + 1 + 1 := by omega); (try have : wr.heap.size < w2.heap.size + 1 + 1 + 1 := by omega); (try have : w1.heap.size < w2.heap.size := by omega); (try have : w1.heap.size < w2.heap.size + 1 := by omega); (try have : w1.heap.size < w2.heap.size + 1 + 1 := by omega); (try have : w1.heap.size < w2.heap.size + 1 + 1 + 1 := by omega); (try have : w1.heap.size + 1 < w2.heap.size := by omega); (try have : w1.heap.size + 1 < w2.heap.size + 1 := by omega); (try have : w1.heap.size + 1 < w2.heap.size + 1 + 1 := by omega); (try have : w1.heap.size + 1 < w2.heap.size + 1 + 1 + 1 := by omega)
          go_wp2
          go_roundw
          case rel => exact ⟨m + 1, by omega, by go_num, nosame_step HN.out HX.out HSF.out, by (repeat' (first | (with_reducible exact Below.refl _ _) | (with_reducible assumption) | (with_reducible refine Below.alloc ?_ ?_ _) | (with_reducible refine Below.drew ?_) | (with_reducible refine Below.stepG ?_ (by assumption) ?_) | (with_reducible refine Below.setCell ?_ ?_ _) | omega | (dsimp only; omega) | (simp; done) | (simp; omega)))⟩
          case measure => simp [intOf]; omega
        · go_wp2_with fail
          refine wp_region_qb (by kernel_rfl) (by kernel_rfl) (fun kq => ?_)
          repeat (quiet_step (with_reducible exact Calls.regrown_of (AT.out _ ((kq _ _ _ _ gq).trans r72))))
          clear kq
          refine wpQuiet_nil ?_; intro w2 hb2; (repeat (with_reducible (replace hb2 := Below.undrew hb2))); obtain ⟨hc2, hf2⟩ := bcell hb2; have hz2 := hb2.size; (repeat (first | rw [World.size_alloc] at hz2 | rw [World.size_drew] at hz2 | rw [World.size_setCell] at hz2)); (try have : qb < w2.heap.size := by omega); (try have : qb < w2.heap.size + 1 := by omega); (try have : qb < w2.heap.size + 1 + 1 := by omega); (try have : qb < w2.heap.size + 1 + 1 + 1 := by omega); (try have : B < w2.heap.size := by omega); (try have : B < w2.heap.size + 1 := by omega); (try have : B < w2.heap.size + 1 + 1 := by omega); (try have : B < w2.heap.size + 1 + 1 + 1 := by omega); (try have : wr.heap.size < w2.heap.size := by omega); (try have : wr.heap.size < w2.heap.size + 1 := by omega); (try have : wr.heap.size < w2.heap.size + 1 + 1 := by omega); (try have : wr.heap.size < w2.heap.size + 1 + 1 + 1 := by omega); (try have : w1.heap.size < w2.heap.size := by omega); (try have : w1.heap.size < w2.heap.size + 1 := by omega); (try have : w1.heap.size < w2.heap.size + 1 + 1 := by omega); (try have : w1.heap.size < w2.heap.size + 1 + 1 + 1 := by omega); (try have : w1.heap.size + 1 < w2.heap.size := by omega); (try have : w1.heap.size + 1 < w2.heap.size + 1 := by omega); (try have : w1.heap.size + 1 < w2.heap.size + 1 + 1 := by omega); (try have : w1.heap.size + 1 < w2.heap.size + 1 + 1 + 1 := by omega)
          go_wp2
          go_roundw
          case rel => exact ⟨m + 1, by omega, by go_num, nosame_step HN.out HX.out HSF.out, by (repeat' (first | (with_reducible exact Below.refl _ _) | (with_reducible assumption) | (with_reducible refine Below.alloc ?_ ?_ _) | (with_reducible refine Below.drew ?_) | (with_reducible refine Below.stepG ?_ (by assumption) ?_) | (with_reducible refine Below.setCell ?_ ?_ _) | omega | (dsimp only; omega) | (simp; done) | (simp; omega)))⟩
          case measure => simp [intOf]; omega
    · obtain rfl : m = q.length := by omega
      rcases qstep_none HN.out with ⟨h8, hst⟩ | ⟨h8, hst⟩
      · rw [h8] at r73 ⊢
        go_wp2
        go_returns
        exact ⟨f, by rw [hst]; rfl, by rw [hst], by rw [hst]; exact HQR.out, (Chg.of_below FB' (fun b _ => b = qb)).then_below hbr FS'⟩
      · have HST := Lib.hid hst
        have hl8 : ((q.length : Int) == 8) = false := by rw [beq_eq_false_iff_ne]; omega
        obtain ⟨p, hp⟩ : ∃ p, (f + q.length) % 8 = p := ⟨_, rfl⟩
        have HP := Lib.hid hp
        have hp8 : p < 8 := by omega
        have f0 := HQR.out.fz (p * 9) (by omega)
        have f1 := HQR.out.fz (p * 9 + 1) (by omega)
        have f2 := HQR.out.fz (p * 9 + 2) (by omega)
        have f3 := HQR.out.fz (p * 9 + 3) (by omega)
        have f4 := HQR.out.fz (p * 9 + 4) (by omega)
        have f5 := HQR.out.fz (p * 9 + 5) (by omega)
        have f6 := HQR.out.fz (p * 9 + 6) (by omega)
        have f7 := HQR.out.fz (p * 9 + 7) (by omega)
        have f8 := HQR.out.fz (p * 9 + 8) (by omega)
        have f73 := HQR.out.fz 73 (by omega)
        obtain ⟨u0, g0⟩ := HQR.out.ex (p * 9) (by omega)
        obtain ⟨u1, g1⟩ := HQR.out.ex (p * 9 + 1) (by omega)
        obtain ⟨u2, g2⟩ := HQR.out.ex (p * 9 + 2) (by omega)
        obtain ⟨u3, g3⟩ := HQR.out.ex (p * 9 + 3) (by omega)
        obtain ⟨u4, g4⟩ := HQR.out.ex (p * 9 + 4) (by omega)
        obtain ⟨u5, g5⟩ := HQR.out.ex (p * 9 + 5) (by omega)
        obtain ⟨u6, g6⟩ := HQR.out.ex (p * 9 + 6) (by omega)
        obtain ⟨u7, g7⟩ := HQR.out.ex (p * 9 + 7) (by omega)
        obtain ⟨u8, g8⟩ := HQR.out.ex (p * 9 + 8) (by omega)
        have ewq : wrap64 ((q.length : Int) + 1) = (q.length : Int) + 1 := wrap64_in (by omega) (by omega)
        clear hp
        go_wp2_with fail
        go_region_with (go_at_call 126; refine (qat_any qb f q.length _ (by first | exact r72 | (go_simp; done) | simpa using r72) hfl (by omega)).mono ?_; rintro e w' ⟨rfl, n3, rfl⟩; rw [HP.out])
        all_goals
          change Exit.then _ _ _ _ (setRow (wr.drewN (1 + n3)) qb (p * 9) (actCells y))
          have HD := HQR.out.below (w' := wr.drewN (1 + n3)) (B := wr.heap.size) (below_drewN (Below.refl _ _) _) gq
          obtain ⟨p1, p2⟩ := HD.add h8 HP.out y
          obtain ⟨c, _⟩ := HD.row y hp8
          have x73 := (c.cell qb 73 HD.lt (by omega)).trans HD.c73
          have xf73 := (c.froz qb 73 HD.lt).trans (HD.fz 73 (by omega))
          have hcc : Chg w ((setRow (wr.drewN (1 + n3)) qb (p * 9) (actCells y)).setCell ⟨qb, 73, none⟩ (.int .i64 ((q.length + 1 : Nat) : Int))) (fun b _ => b = qb) :=
            ((Chg.of_below FB' (fun b _ => b = qb)).then_below hbr FS').trans ((Chg.of_below (below_drewN (Below.refl _ _) _) (fun b _ => b = qb)).trans p2 (fun b x _ h => h)) (fun b x _ h => h)
          have e1 : ((q.length + 1 : Nat) : Int) = (q.length : Int) + 1 := by omega
          rw [e1] at p1 hcc
          clear p2 c HD e1
          generalize setRow (wr.drewN (1 + n3)) qb (p * 9) (actCells y) = X at *
          have HP1 := Lib.hid p1
          have HCC := Lib.hid hcc
          clear p1 hcc g0 g1 g2 g3 g4 g5 g6 g7 g8 f0 f1 f2 f3 f4 f5 f6 f7 f8 f73
          go_wp2
          go_returns
          exact ⟨f, by rw [HST.out]; rfl, by rw [HST.out], by rw [HST.out]; exact HP1.out, HCC.out⟩
end Go.Proofs.Ytoecmoicaklbaaa

/- Contracts of package queue: do. -/
set_option linter.unusedVariables false
namespace Wk
open Go Go.RowKit Go.Sort
theorem Own.base {w : World} {B C : Nat} {e : TypeId} {sz : Nat} {v : Value} {xs : List (List Value)} (h : Own w C e sz v xs) (hB : B ≤ C) : Own w B e sz v xs := by
  obtain ⟨h1, h2, h3⟩ := h
  refine ⟨h1, h2, ?_⟩
  rcases h3 with h3 | ⟨g, cap, cur, e1, hb, rest⟩
  · exact .inl h3
  · exact .inr ⟨g, cap, cur, e1, Nat.le_trans hB hb, rest⟩
end Wk
namespace Go.Proofs.Ytoecmoicaklbaaa
open Go Go.RowKit Go.Sort Wc Wk

def jobKind (j : JobD) : Int := if j.push then 1 else 2
def jobCells (j : JobD) : List Value := .int .i64 (jobKind j) :: (actCells j.act ++ [.int .i64 j.num])
theorem jobCells_one (j : JobD) : ∀ u ∈ jobCells j, u.oneCell' = true := by
  intro u hu
  simp [jobCells, actCells] at hu
  rcases hu with rfl | rfl | rfl | rfl | rfl | rfl | rfl | rfl | rfl | rfl | rfl <;> rfl
/-- What a job comes to. -/
def DoSays (w : World) (qb : Nat) (q : List ActD) (j : JobD) (e : Ending) (w' : World) : Prop :=
  ∃ f' v, e = .returned (.agg #[.int .i64 ((qstep q j).2.code : Nat), .bool (qstep q j).2.merged, v]) ∧ Own w' w.heap.size 32 9 v ((qstep q j).2.acts.map actCells) ∧ QR w' qb f' (qstep q j).1 ∧ Chg w w' (fun b _ => b = qb)


set_option maxRecDepth 100000 in
set_option maxHeartbeats 2000000 in
theorem do_push (qb f : Nat) (q : List ActD) (y : ActD) (w : World) (h : QR w qb f q) (hq : ∀ x ∈ q, ActD.ok x) (hy : y.ok) :
    Calls Try.prog 76 #[.pointer (some ⟨qb, 0, none⟩), Value.agg #[.int .i64 1, .int .i64 y.kind, .bool false, .int .u64 (hiOf false y.n), .int .u64 (loOf y.n), .int .i64 y.k, .int .i64 y.hop, .bool false, .int .u64 (hiOf false y.a), .int .u64 (loOf y.a), .int .i64 0]] w (DoSays w qb q ⟨true, y, 0⟩) := by
  have hlt := h.lt
  have HQ := Lib.hid h
  have HK := Lib.hid hq
  have HY := Lib.hid hy
  clear h hq hy
  go_enter Try.func76, Try.ntmps76
  go_wp2_with fail
  refine (push_any qb f q y _ (HQ.out.below (B := w.heap.size) (by (repeat' (first | (with_reducible exact Below.refl _ _) | (with_reducible assumption) | (with_reducible refine Below.alloc ?_ ?_ _) | (with_reducible refine Below.drew ?_) | (with_reducible refine Below.stepG ?_ (by assumption) ?_) | (with_reducible refine Below.setCell ?_ ?_ _) | omega | (dsimp only; omega) | (simp; done) | (simp; omega)))) hlt) HK.out HY.out).mono ?_
  rintro e w1 ⟨f', rfl, ha, HR, HC⟩
  have c0 : w1.cell? ⟨w.heap.size + 1, 0, none⟩ = some (.int .i64 0) := (HC.cell _ _ (by simp) (by omega)).trans (by simp)
  have c1 : w1.cell? ⟨w.heap.size + 1, 1, none⟩ = some (.bool false) := (HC.cell _ _ (by simp) (by omega)).trans (by simp)
  have c2 : w1.cell? ⟨w.heap.size + 1, 2, none⟩ = some (.slice none 0 0) := (HC.cell _ _ (by simp) (by omega)).trans (by simp)
  have f0 : w1.frozen? ⟨w.heap.size + 1, 0, none⟩ = false := (HC.froz _ _ (by simp)).trans (by simp)
  have f1 : w1.frozen? ⟨w.heap.size + 1, 1, none⟩ = false := (HC.froz _ _ (by simp)).trans (by simp)
  have f2 : w1.frozen? ⟨w.heap.size + 1, 2, none⟩ = false := (HC.froz _ _ (by simp)).trans (by simp)
  have hs1 : w.heap.size + 1 < w1.heap.size := by have := HC.size; simp at this; omega
  have HR1 := Lib.hid HR
  have HC1 := Lib.hid HC
  have HA := Lib.hid ha
  clear HC HR ha
  go_wp2
  generalize hcode : (((qstep q ⟨true, y, 0⟩).2.code : Nat) : Int) = code at *
  generalize hmerg : (qstep q ⟨true, y, 0⟩).2.merged = merg at *
  change bodyPost _ _ _ _ _ (setRow w1 (w.heap.size + 1) 0 [.int .i64 code, .bool merg, .slice none 0 0])
  obtain ⟨sc, sv⟩ := setRow_chg (w.heap.size + 1) [.int .i64 code, .bool merg, .slice none 0 0] 0 w1 hs1 (fun j hj => by
    match j, hj with
    | 0, _ => exact ⟨_, c0⟩
    | 1, _ => exact ⟨_, c1⟩
    | 2, _ => exact ⟨_, c2⟩)
  have x0 := sv 0 _ rfl
  have x1 := sv 1 _ rfl
  have x2 := sv 2 _ rfl
  rw [Nat.zero_add] at x0 x1 x2
  have hrow : Below (w.heap.size + 1) w1 (setRow w1 (w.heap.size + 1) 0 [.int .i64 code, .bool merg, .slice none 0 0]) :=
    sc.below (by omega) (fun b x hb hx => by omega)
  generalize setRow w1 (w.heap.size + 1) 0 [.int .i64 code, .bool merg, .slice none 0 0] = X at *
  refine bodyPost_ret (v := .agg #[.int .i64 code, .bool merg, .slice none 0 0]) (by simp [results, Try.results76, go_sem, x0, x1, x2]) rfl ⟨f', .slice none 0 0, by rw [hcode, hmerg], ?_, HR1.out.below hrow (by omega), ?_⟩
  · rw [HA.out]; exact Own.nil _ _ _ _
  · have hal : Chg w ((w.alloc (.cells (jobCells ⟨true, y, 0⟩).toArray 34)).alloc (.cells #[.int .i64 0, .bool false, .slice none 0 0] 41)) (fun b _ => b = qb) :=
      Chg.of_below (((Below.refl _ _).alloc (Nat.le_refl _) _).alloc (by simp) _) _
    exact (hal.trans HC1.out (fun b x _ h => h)).then_below hrow (by omega)

set_option maxRecDepth 100000 in
set_option maxHeartbeats 2000000 in
theorem do_pull (qb f n : Nat) (q : List ActD) (w : World) (h : QR w qb f q) (hn : 1 ≤ n) (hn8 : n ≤ 8) :
    Calls Try.prog 76 #[.pointer (some ⟨qb, 0, none⟩), Value.agg #[.int .i64 2, .int .i64 actZ.kind, .bool false, .int .u64 (hiOf false actZ.n), .int .u64 (loOf actZ.n), .int .i64 actZ.k, .int .i64 actZ.hop, .bool false, .int .u64 (hiOf false actZ.a), .int .u64 (loOf actZ.a), .int .i64 n]] w (DoSays w qb q ⟨false, actZ, n⟩) := by
  have hlt := h.lt
  have HQ := Lib.hid h
  have c73 := h.c73
  clear h
  have d1 : decide ((n : Int) < 1) = false := by simp; omega
  have d2 : decide ((8 : Int) < n) = false := by simp; omega
  by_cases h0 : q.length = 0
  · have hst : qstep q ⟨false, actZ, n⟩ = (q, ⟨7, false, []⟩) := by unfold qstep; simp [h0]
    have HST := Lib.hid hst
    rw [h0] at c73
    clear hst h0
    go_enter Try.func76, Try.ntmps76
    go_wp2
    have hb : Below w.heap.size w ((w.alloc (.cells (jobCells ⟨false, actZ, n⟩).toArray 34)).alloc (.cells #[.int .i64 7, .bool false, .slice none 0 0] 41)) := (((Below.refl _ _).alloc (Nat.le_refl _) _).alloc (by simp) _)
    refine bodyPost_ret (v := .agg #[.int .i64 7, .bool false, .slice none 0 0]) (by simp [results, Try.results76, go_sem]) rfl ⟨f, .slice none 0 0, by rw [HST.out]; rfl, by rw [HST.out]; exact Own.nil _ _ _ _, by rw [HST.out]; exact HQ.out.below hb hlt, Chg.of_below hb _⟩
  · have hst : qstep q ⟨false, actZ, n⟩ = (q.drop n, ⟨0, false, q.take n⟩) := by unfold qstep; simp [h0]
    have HST := Lib.hid hst
    have h0' : ((q.length : Int) == 0) = false := by rw [beq_eq_false_iff_ne]; omega
    clear hst h0
    go_enter Try.func76, Try.ntmps76
    go_wp2_with fail
    refine (pull_any qb f n q _ (HQ.out.below (B := w.heap.size) (by (repeat' (first | (with_reducible exact Below.refl _ _) | (with_reducible assumption) | (with_reducible refine Below.alloc ?_ ?_ _) | (with_reducible refine Below.drew ?_) | (with_reducible refine Below.stepG ?_ (by assumption) ?_) | (with_reducible refine Below.setCell ?_ ?_ _) | omega | (dsimp only; omega) | (simp; done) | (simp; omega)))) hlt) (by omega)).mono ?_
    rintro e w1 ⟨v, f', rfl, HO, HR, HC⟩
    have c0 : w1.cell? ⟨w.heap.size + 1, 0, none⟩ = some (.int .i64 0) := (HC.cell _ _ (by simp) (by omega)).trans (by simp)
    have c1 : w1.cell? ⟨w.heap.size + 1, 1, none⟩ = some (.bool false) := (HC.cell _ _ (by simp) (by omega)).trans (by simp)
    have c2 : w1.cell? ⟨w.heap.size + 1, 2, none⟩ = some (.slice none 0 0) := (HC.cell _ _ (by simp) (by omega)).trans (by simp)
    have f0 : w1.frozen? ⟨w.heap.size + 1, 0, none⟩ = false := (HC.froz _ _ (by simp)).trans (by simp)
    have f1 : w1.frozen? ⟨w.heap.size + 1, 1, none⟩ = false := (HC.froz _ _ (by simp)).trans (by simp)
    have f2 : w1.frozen? ⟨w.heap.size + 1, 2, none⟩ = false := (HC.froz _ _ (by simp)).trans (by simp)
    have hs1 : w.heap.size + 1 < w1.heap.size := by have := HC.size; simp at this; omega
    obtain ⟨va, vc, rfl⟩ := HO.shape
    have HR1 := Lib.hid HR
    have HC1 := Lib.hid HC
    have HO1 := Lib.hid HO
    rw [List.length_map] at HO1 ⊢
    clear HC HR HO
    go_wp2
    rw [List.length_take] at HO1
    generalize hsv : Value.slice va (min n q.length) vc = sv at *
    change bodyPost _ _ _ _ _ (setRow w1 (w.heap.size + 1) 0 [.int .i64 0, .bool false, sv])
    obtain ⟨sc, sx⟩ := setRow_chg (w.heap.size + 1) [.int .i64 0, .bool false, sv] 0 w1 hs1 (fun j hj => by
      match j, hj with
      | 0, _ => exact ⟨_, c0⟩
      | 1, _ => exact ⟨_, c1⟩
      | 2, _ => exact ⟨_, c2⟩)
    have x0 := sx 0 _ rfl
    have x1 := sx 1 _ rfl
    have x2 := sx 2 _ rfl
    rw [Nat.zero_add] at x0 x1 x2
    have hrow : Below (w.heap.size + 1) w1 (setRow w1 (w.heap.size + 1) 0 [.int .i64 0, .bool false, sv]) :=
      sc.below (by omega) (fun b x hb hx => by omega)
    generalize setRow w1 (w.heap.size + 1) 0 [.int .i64 0, .bool false, sv] = X at *
    refine bodyPost_ret (v := .agg #[.int .i64 0, .bool false, sv]) (by simp [results, Try.results76, go_sem, x0, x1, x2]) rfl ⟨f', sv, by rw [HST.out]; rfl, ?_, by rw [HST.out]; exact HR1.out.below hrow (by omega), ?_⟩
    · rw [HST.out]
      exact Own.base (Own.chg HO1.out sc (fun b x h => h.1) (fun e => by have := (Own.lt HO1.out _ e).1; simp at this; omega)) (by simp; omega)
    · have hal : Chg w ((w.alloc (.cells (jobCells ⟨false, actZ, n⟩).toArray 34)).alloc (.cells #[.int .i64 0, .bool false, .slice none 0 0] 41)) (fun b _ => b = qb) :=
        Chg.of_below (((Below.refl _ _).alloc (Nat.le_refl _) _).alloc (by simp) _) _
      exact (hal.trans HC1.out (fun b x _ h => h)).then_below hrow (by omega)
/-- A job, whatever it is. -/
theorem do_any (qb f : Nat) (q : List ActD) (j : JobD) (w : World) (h : QR w qb f q) (hq : ∀ x ∈ q, ActD.ok x) (hj : j.ok) :
    Calls Try.prog 76 #[.pointer (some ⟨qb, 0, none⟩), .agg (jobCells j).toArray] w (DoSays w qb q j) := by
  obtain ⟨p, a, n⟩ := j
  rcases hj with ⟨h1, h2, h3⟩ | ⟨h1, h2, h3, h4⟩
  · obtain rfl : p = true := h1
    obtain rfl : n = 0 := h3
    exact do_push qb f q a w h hq h2
  · obtain rfl : p = false := h1
    obtain rfl : a = actZ := h2
    exact do_pull qb f n q w h h3 h4
theorem do_job (qb f : Nat) (q : List ActD) (j : JobD) (w : World) (h : QR w qb f q) (hq : ∀ x ∈ q, ActD.ok x) (hj : j.ok) :
    Calls Try.prog 76 #[.pointer (some ⟨qb, 0, none⟩), Value.agg #[.int .i64 (jobKind j), .int .i64 j.act.kind, .bool false, .int .u64 (hiOf false j.act.n), .int .u64 (loOf j.act.n), .int .i64 j.act.k, .int .i64 j.act.hop, .bool false, .int .u64 (hiOf false j.act.a), .int .u64 (loOf j.act.a), .int .i64 j.num]] w (DoSays w qb q j) := do_any qb f q j w h hq hj
end Go.Proofs.Ytoecmoicaklbaaa

/- Contracts of package queue: Play. -/
set_option linter.unusedVariables false
namespace Wk
open Go Go.RowKit Go.Sort
theorem Own.apart {w : World} {B C : Nat} {e e' : TypeId} {sz sz' : Nat} {v v' : Value} {xs xs' : List (List Value)} (h : Own w B e sz v xs) (h' : Own w C e' sz' v' xs') (hne : e ≠ e') (hv : v.ownBlock ≠ none) : v.ownBlock ≠ v'.ownBlock := by
  intro heq
  rcases h.2.2 with ⟨rfl, _⟩ | ⟨g, cap, cur, rfl, _, hg, _⟩
  · exact hv rfl
  · rcases h'.2.2 with ⟨rfl, _⟩ | ⟨g', cap', cur', rfl, _, hg', _⟩
    · simp [Value.ownBlock] at heq
    · simp [Value.ownBlock] at heq
      subst heq
      rw [hg] at hg'
      simp at hg'
      exact hne hg'.2
theorem Own.kept {w w' : World} {B : Nat} {e : TypeId} {sz : Nat} {v v' : Value} {xs : List (List Value)} (h : Own w B e sz v xs) (g : w.grownBy w' v'.ownBlock) (hne : v.ownBlock ≠ none → v.ownBlock ≠ v'.ownBlock) : Own w' B e sz v xs := by
  refine ⟨h.1, h.2.kept g ?_⟩
  by_cases hv : v.ownBlock = none
  · exact .inl hv
  · exact .inr (hne hv)
end Wk
namespace Go.Proofs.Ytoecmoicaklbaaa
open Go Go.RowKit Go.Sort Wc Wk

theorem eiJob : EI Try.prog 23 34 11 88 (.agg #[.int .i64 0, .int .i64 0, .bool false, .int .u64 0, .int .u64 0, .int .i64 0, .int .i64 0, .bool false, .int .u64 0, .int .u64 0, .int .i64 0]) := ⟨by kernel_rfl, by kernel_rfl, rfl, by decide⟩
theorem eiDone : EI Try.prog 35 41 3 40 (.agg #[.int .i64 0, .bool false, .slice none 0 0]) := ⟨by kernel_rfl, by kernel_rfl, rfl, by decide⟩
def doneCells (d : DoneD) (v : Value) : List Value := [.int .i64 (d.code : Nat), .bool d.merged, v]
theorem doneCells_one (d : DoneD) {u : Value} {a : Option Addr} {n c : Nat} (hu : u = .slice a n c) : ∀ x ∈ doneCells d u, x.oneCell' = true := by
  subst hu
  intro x hx
  simp [doneCells] at hx
  rcases hx with rfl | rfl | rfl <;> rfl
/-- What jobs came to, in memory. -/
structure Dones (w : World) (B : Nat) (v : Value) (ds : List DoneD) (vs : List Value) : Prop where
  len : vs.length = ds.length
  own : Own w B 41 3 v (List.zipWith doneCells ds vs)
  acts : ∀ (i : Nat) (d : DoneD) (u : Value), ds[i]? = some d → vs[i]? = some u → Own w B 32 9 u (d.acts.map actCells)
theorem Dones.base {w : World} {B C : Nat} {v : Value} {ds : List DoneD} {vs : List Value} (h : Dones w C v ds vs) (hB : B ≤ C) : Dones w B v ds vs :=
  ⟨h.len, h.own.base hB, fun i d u h1 h2 => (h.acts i d u h1 h2).base hB⟩
theorem Dones.nil (w : World) (B : Nat) : Dones w B (.slice none 0 0) [] [] := ⟨rfl, Own.nil _ _ _ _, fun i d u h => by simp at h⟩
theorem Dones.below {w w' : World} {B : Nat} {v : Value} {ds : List DoneD} {vs : List Value} (h : Dones w B v ds vs) (hb : Below w.heap.size w w') : Dones w' B v ds vs :=
  ⟨h.len, h.own.below hb, fun i d u h1 h2 => (h.acts i d u h1 h2).below hb⟩
theorem Dones.chg {w w' : World} {B g : Nat} {v : Value} {ds : List DoneD} {vs : List Value} {F : Nat → Nat → Prop} (h : Dones w B v ds vs) (c : Chg w w' F) (hF : ∀ b x, F b x → b = g) (hg : g < B) : Dones w' B v ds vs :=
  ⟨h.len, h.own.chg c hF (fun e => by have := (h.own.lt _ e).1; omega), fun i d u h1 h2 => (h.acts i d u h1 h2).chg c hF (fun e => by have := ((h.acts i d u h1 h2).lt _ e).1; omega)⟩
theorem Dones.snoc {w w' : World} {B : Nat} {v v' : Value} {ds : List DoneD} {vs : List Value} {d : DoneD} {u : Value} (h : Dones w B v ds vs) (ha : Own w B 32 9 u (d.acts.map actCells)) (g : w.grownBy w' v.ownBlock)
    (ho : Own w' B 41 3 v' (List.zipWith doneCells ds vs ++ [doneCells d u])) : Dones w' B v' (ds ++ [d]) (vs ++ [u]) := by
  refine ⟨by simp [h.len], by rw [List.zipWith_append h.len.symm]; exact ho, fun i e z h1 h2 => ?_⟩
  have key : ∀ (e : DoneD) (z : Value), Own w B 32 9 z (e.acts.map actCells) → Own w' B 32 9 z (e.acts.map actCells) := fun e z hz =>
    hz.kept g (fun hn => Own.apart hz h.own (by decide) hn)
  by_cases hi : i < ds.length
  · rw [List.getElem?_append_left hi] at h1
    rw [List.getElem?_append_left (by rw [h.len]; exact hi)] at h2
    exact key e z (h.acts i e z h1 h2)
  · have hil := (List.getElem?_eq_some_iff.1 h1).1
    simp at hil
    obtain rfl : i = ds.length := by omega
    simp at h1
    rw [← h.len] at h2
    simp at h2
    subst h1 h2
    exact key d u ha
/-- What a play hands back. -/
def RetDones (w : World) (js : List JobD) (e : Ending) (w' : World) : Prop :=
  ∃ v vs, e = .returned (.tuple #[v, .int .i64 0]) ∧ Dones w' w.heap.size v (qrun [] js) vs ∧ Below w.heap.size w w'

theorem QR.new (w : World) (cs : Array Value) (E : TypeId) (hs : cs.size = 74) (h72 : cs[72]? = some (.int .i64 0)) (h73 : cs[73]? = some (.int .i64 0)) : QR (w.alloc (.cells cs E)) w.heap.size 0 [] := by
  refine ⟨by simp, by decide, by simp, by rw [World.cell?_alloc_new]; exact h72, by rw [World.cell?_alloc_new]; exact h73, fun i x h => by simp at h, fun o ho => ⟨cs[o]'(by omega), by rw [World.cell?_alloc_new]; exact Array.getElem?_eq_getElem _⟩, fun o ho => by simp⟩
theorem Sl.job {w w' : World} {a : Option Addr} {n cap : Nat} {xs : List JobD} (hs : Sl w 11 (.slice a n cap) (xs.map jobCells)) (hb : Below w.heap.size w w') {i : Nat} {r : JobD} (hr : xs[i]? = some r) :
    ∃ b off, a = some ⟨b, off, none⟩ ∧ b < w.heap.size ∧ w'.cell? ⟨b, off + i * 11, none⟩ = some (.int .i64 (jobKind r)) ∧ w'.cell? ⟨b, off + i * 11 + 1, none⟩ = some (.int .i64 r.act.kind) ∧ w'.cell? ⟨b, off + i * 11 + 2, none⟩ = some (.bool false) ∧ w'.cell? ⟨b, off + i * 11 + 3, none⟩ = some (.int .u64 (hiOf false r.act.n)) ∧
      w'.cell? ⟨b, off + i * 11 + 4, none⟩ = some (.int .u64 (loOf r.act.n)) ∧ w'.cell? ⟨b, off + i * 11 + 5, none⟩ = some (.int .i64 r.act.k) ∧ w'.cell? ⟨b, off + i * 11 + 6, none⟩ = some (.int .i64 r.act.hop) ∧ w'.cell? ⟨b, off + i * 11 + 7, none⟩ = some (.bool false) ∧
      w'.cell? ⟨b, off + i * 11 + 8, none⟩ = some (.int .u64 (hiOf false r.act.a)) ∧ w'.cell? ⟨b, off + i * 11 + 9, none⟩ = some (.int .u64 (loOf r.act.a)) ∧ w'.cell? ⟨b, off + i * 11 + 10, none⟩ = some (.int .i64 r.num) := by
  obtain ⟨b, off, ha, hlt, hc⟩ := Sl.at hs (i := i) (c := jobCells r) (by rw [List.getElem?_map, hr]; rfl)
  have g := fun j u (h : (jobCells r)[j]? = some u) => (hb.cell (p := ⟨b, off + i * 11 + j, none⟩) hlt).trans (hc j u h)
  exact ⟨b, off, ha, hlt, g 0 _ rfl, g 1 _ rfl, g 2 _ rfl, g 3 _ rfl, g 4 _ rfl, g 5 _ rfl, g 6 _ rfl, g 7 _ rfl, g 8 _ rfl, g 9 _ rfl, g 10 _ rfl⟩


set_option maxRecDepth 100000 in
set_option maxHeartbeats 2000000 in
theorem qplay_any (a : Option Addr) (cap : Nat) (js : List JobD) (w : World) (hs : Sl w 11 (.slice a js.length cap) (js.map jobCells)) (hl : js.length ≤ 100) (hok : ∀ j ∈ js, JobD.ok j) :
    Calls Try.prog 40 #[.slice a js.length cap] w (RetDones w js) := by
  have HS := Lib.hid hs
  have HK := Lib.hid hok
  have d1 : decide ((100 : Int) < js.length) = false := by simp; omega
  clear hs hok
  go_enter Try.func40, Try.ntmps40
  go_wp2_with fail
  have HW := Lib.hid (QR.new w Try.zeroCells133 133 (by kernel_rfl) (by kernel_rfl) (by kernel_rfl))
  have HWB : Below w.heap.size w (w.alloc (.cells Try.zeroCells133 133)) := (Below.refl _ _).alloc (Nat.le_refl _) _
  have hWs : (w.alloc (.cells Try.zeroCells133 133)).heap.size = w.heap.size + 1 := by simp
  generalize w.alloc (.cells Try.zeroCells133 133) = W at *
  obtain ⟨qb, hqb⟩ : ∃ qb, qb = w.heap.size := ⟨_, rfl⟩
  rw [← hqb] at HW ⊢
  obtain ⟨C, hC⟩ : ∃ C, C = qb + 1 := ⟨_, rfl⟩
  have HQB := Lib.hid hqb
  have HCE := Lib.hid hC
  have hW1 : C ≤ W.heap.size := by omega
  have hwC : w.heap.size ≤ C := by omega
  have hqC : qb < C := by omega
  have hwq : w.heap.size ≤ qb := by omega
  have hlw1 := HS.out.lens.2.1
  have hlw2 := HS.out.lens.2.2
  clear hqb hC hWs
  go_loopw [5, 15] (fun v i wr => ∃ (m f : Nat) (vs : List Value), m ≤ js.length ∧ i = .int .i64 m ∧ Hid (QR wr qb f (qend [] (js.take m))) ∧ Hid (Dones wr C v (qrun [] (js.take m)) vs) ∧ Hid (Below w.heap.size w wr)) (fun _ i _ => js.length - (intOf i).toNat)
  case atStart => exact ⟨0, 0, [], Nat.zero_le _, rfl, HW.out, Dones.nil _ _, HWB⟩
  case round =>
    obtain ⟨m, f, vs, hm, rfl, HR, HD, HB⟩ := hrel
    have hqr := HR.out.lt
    have hzr := HB.out.size
    have hrC : C ≤ wr.heap.size := by have := HCE.out; omega
    by_cases hlt : m < js.length
    · obtain ⟨j, hj⟩ : ∃ j, js[m]? = some j := ⟨_, List.getElem?_eq_getElem hlt⟩
      obtain ⟨b, off, rfl, hb, d0, d1, d2, d3, d4, d5, d6, d7, d8, d9, d10⟩ := Sl.job HS.out HB.out hj
      have HJ := Lib.hid (HK.out j (List.mem_of_getElem? hj))
      have HA := Lib.hid (qrun_at (q := []) hj)
      have HQO := Lib.hid (qend_ok (q := []) (l := js.take m) (fun x hx => by cases hx) (fun x hx => HK.out x (List.mem_of_mem_take hx)))
      have HT := Lib.hid (show js.take (m + 1) = js.take m ++ [j] by rw [List.take_add_one, hj]; rfl)
      clear hj
      go_wp2_with fail
      have hYB : Below wr.heap.size wr (wr.alloc (.cells (jobCells j).toArray 34)) := (Below.refl _ _).alloc (Nat.le_refl _) _
      refine (do_job qb f (qend [] (js.take m)) j _ (HR.out.below hYB hqr) HQO.out HJ.out).mono ?_
      rintro e w1 ⟨f2, u, rfl, HAc, HR2, HC⟩
      obtain ⟨ua, uc, hu⟩ := HAc.shape
      have hD1 := (HD.out.below (w' := wr.alloc (.cells (jobCells j).toArray 34)) hYB).chg HC (fun b x h => h) hqC
      have hzy : wr.heap.size + 1 ≤ w1.heap.size := by have := HC.size; simpa using this
      have hAc : Own w1 C 32 9 u ((qstep (qend [] (js.take m)) j).2.acts.map actCells) := HAc.base (by simp; omega)
      have HD1 := Lib.hid hD1
      have HA1 := Lib.hid hAc
      have HR3 := Lib.hid HR2
      have HC3 := Lib.hid HC
      generalize hq0 : qend [] (js.take m) = q0 at *
      generalize hds : qrun [] (js.take m) = ds at *
      generalize hdd : (qstep q0 j).2 = d at *
      have HDS := Lib.hid hds
      have HQ0 := Lib.hid hq0
      have HDD := Lib.hid hdd
      have hdl : ds.length = m := by rw [← hds, qrun_len, List.length_take]; omega
      have HDL := Lib.hid hdl
      have HU := Lib.hid hu
      clear hD1 hAc HR2 HC HAc hq0 hds hdd hdl hu
      go_wp2_with (at_builtin; refine wpList_append_rows rfl _ _ 35 41 3 40 _ rfl eiDone C _ (List.zipWith doneCells ds vs) rfl (HD1.out.own.alloc _) _ _ rfl (sl_new (c := doneCells d u) (by simp) rfl) (by intro c hc; simp at hc; subst hc; exact doneCells_one d HU.out) (by have := HDL.out; simp; omega) (by decide) (by simp; omega) (by simp) ?_; intro v' w5 hown' hgr hb5)
      have hD5 := Dones.snoc (d := d) (u := u) (HD1.out.below (w' := w1.alloc (.cells (doneCells d u).toArray 41)) ((Below.refl _ _).alloc (Nat.le_refl _) _)) (HA1.out.alloc _) hgr hown'
      have hR5 := HR3.out.below (B := C) (((Below.refl _ _).alloc (by omega) _).trans hb5) hqC
      have hB5 : Below w.heap.size w w5 := (((HB.out.alloc hzr _).trans (HC3.out.below (B := w.heap.size) (by simp; omega) (fun b x hb hx => by omega))).alloc (by omega) _).trans (hb5.mono hwC)
      have hz5 := hb5.size
      have e1 := HA.out.2
      have e2 : qrun [] (js.take (m + 1)) = ds ++ [d] := by
        rw [HT.out, qrun_app, HDS.out, HQ0.out]
        show ds ++ [(qstep q0 j).2] = _
        rw [HDD.out]
      have HR5 := Lib.hid hR5
      have HD5 := Lib.hid hD5
      have HB5 := Lib.hid hB5
      rw [← e1] at HR5
      rw [← e2] at HD5
      clear hR5 hD5 hB5 hown' hgr hb5 e1 e2
      go_roundw
      case rel => exact ⟨m + 1, f2, vs ++ [u], by omega, by go_num, HR5, HD5, HB5⟩
      case measure => simp [intOf]; omega
    · obtain rfl : m = js.length := by omega
      go_wp2
      go_returns
      have e1 : js.take js.length = js := List.take_of_length_le (Nat.le_refl _)
      rw [e1] at HD
      exact ⟨_, vs, rfl, HD.out.base hwC, HB.out⟩
end Go.Proofs.Ytoecmoicaklbaaa
