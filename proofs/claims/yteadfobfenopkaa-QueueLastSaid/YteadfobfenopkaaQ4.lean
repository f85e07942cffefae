
/- Contracts of package queue: do. -/
import Derived.Test.YteadfobfenopkaaQ3
set_option linter.unusedVariables false
namespace Wk
open Go Go.RowKit Go.Sort
theorem Own.base {w : World} {B C : Nat} {e : TypeId} {sz : Nat} {v : Value} {xs : List (List Value)} (h : Own w C e sz v xs) (hB : B ≤ C) : Own w B e sz v xs := by
  obtain ⟨h1, h2, h3⟩ := h
  refine ⟨h1, h2, ?_⟩
  rcases h3 with h3 | ⟨g, cap, cur, e1, hb, rest⟩
  · exact .inl h3
  · exact .inr ⟨g, cap, cur, e1, Nat.le_trans hB hb, rest⟩
end Wk
namespace Go.Proofs.Yteadfobfenopkaa
open Go Go.RowKit Go.Sort Wc Wk

def jobKind (j : JobD) : Int := if j.push then 1 else 2
def jobCells (j : JobD) : List Value := .int .i64 (jobKind j) :: (actCells j.act ++ [.int .i64 j.num])
theorem jobCells_one (j : JobD) : ∀ u ∈ jobCells j, u.oneCell' = true := by
  intro u hu
  simp [jobCells, actCells] at hu
  rcases hu with rfl | rfl | rfl | rfl | rfl | rfl | rfl | rfl | rfl | rfl | rfl <;> rfl
/-- What a job comes to. -/
def DoSays (w : World) (qb : Nat) (q : List ActD) (j : JobD) (e : Ending) (w' : World) : Prop :=
  ∃ f' v, e = .returned (.agg #[.int .i64 ((qstep q j).2.code : Nat), .bool (qstep q j).2.merged, v]) ∧ Own w' w.heap.size 35 9 v ((qstep q j).2.acts.map actCells) ∧ QR w' qb f' (qstep q j).1 ∧ Chg w w' (fun b _ => b = qb)


set_option maxRecDepth 100000 in
set_option maxHeartbeats 2000000 in
theorem do_push (qb f : Nat) (q : List ActD) (y : ActD) (w : World) (h : QR w qb f q) (hq : ∀ x ∈ q, ActD.ok x) (hy : y.ok) :
    Calls Try.prog 59 #[.pointer (some ⟨qb, 0, none⟩), Value.agg #[.int .i64 1, .int .i64 y.kind, .bool false, .int .u64 (hiOf false y.n), .int .u64 (loOf y.n), .int .i64 y.k, .int .i64 y.hop, .bool false, .int .u64 (hiOf false y.a), .int .u64 (loOf y.a), .int .i64 0]] w (DoSays w qb q ⟨true, y, 0⟩) := by
  have hlt := h.lt
  have HQ := Lib.hid h
  have HK := Lib.hid hq
  have HY := Lib.hid hy
  clear h hq hy
  go_enter Try.func59, Try.ntmps59
  go_wp2_with fail
  refine (push_any qb f q y _ (HQ.out.below (B := w.heap.size) (by (repeat' (first | (with_reducible exact Below.refl _ _) | (with_reducible assumption) | (with_reducible refine Below.alloc ?_ ?_ _) | (with_reducible refine Below.drew ?_) | (with_reducible refine Below.stepG ?_ (by assumption) ?_) | (with_reducible refine Below.setCell ?_ ?_ _) | omega | (dsimp only; omega) | (simp; done) | (simp; omega)))) hlt) HK.out HY.out).mono ?_
  rintro e w1 ⟨f', rfl, ha, HR, HC⟩
  have c0 : w1.cell? ⟨w.heap.size + 1, 0, none⟩ = some (.int .i64 0) := (HC.cell _ _ (by simp) (by omega)).trans (by simp)
  have c1 : w1.cell? ⟨w.heap.size + 1, 1, none⟩ = some (.bool false) := (HC.cell _ _ (by simp) (by omega)).trans (by simp)
  have c2 : w1.cell? ⟨w.heap.size + 1, 2, none⟩ = some (.slice none 0 0) := (HC.cell _ _ (by simp) (by omega)).trans (by simp)
  have f0 : w1.frozen? ⟨w.heap.size + 1, 0, none⟩ = false := (HC.froz _ _ (by simp)).trans (by simp)
  have f1 : w1.frozen? ⟨w.heap.size + 1, 1, none⟩ = false := (HC.froz _ _ (by simp)).trans (by simp)
  have f2 : w1.frozen? ⟨w.heap.size + 1, 2, none⟩ = false := (HC.froz _ _ (by simp)).trans (by simp)
  have hs1 : w.heap.size + 1 < w1.heap.size := by have := HC.size; simp at this; omega
  have HR1 := Lib.hid HR
  have HC1 := Lib.hid HC
  have HA := Lib.hid ha
  clear HC HR ha
  go_wp2
  generalize hcode : (((qstep q ⟨true, y, 0⟩).2.code : Nat) : Int) = code at *
  generalize hmerg : (qstep q ⟨true, y, 0⟩).2.merged = merg at *
  change bodyPost _ _ _ _ _ (setRow w1 (w.heap.size + 1) 0 [.int .i64 code, .bool merg, .slice none 0 0])
  obtain ⟨sc, sv⟩ := setRow_chg (w.heap.size + 1) [.int .i64 code, .bool merg, .slice none 0 0] 0 w1 hs1 (fun j hj => by
    match j, hj with
    | 0, _ => exact ⟨_, c0⟩
    | 1, _ => exact ⟨_, c1⟩
    | 2, _ => exact ⟨_, c2⟩)
  have x0 := sv 0 _ rfl
  have x1 := sv 1 _ rfl
  have x2 := sv 2 _ rfl
  rw [Nat.zero_add] at x0 x1 x2
  have hrow : Below (w.heap.size + 1) w1 (setRow w1 (w.heap.size + 1) 0 [.int .i64 code, .bool merg, .slice none 0 0]) :=
    sc.below (by omega) (fun b x hb hx => by omega)
  generalize setRow w1 (w.heap.size + 1) 0 [.int .i64 code, .bool merg, .slice none 0 0] = X at *
  refine bodyPost_ret (v := .agg #[.int .i64 code, .bool merg, .slice none 0 0]) (by simp [results, Try.results59, go_sem, x0, x1, x2]) rfl ⟨f', .slice none 0 0, by rw [hcode, hmerg], ?_, HR1.out.below hrow (by omega), ?_⟩
  · rw [HA.out]; exact Own.nil _ _ _ _
  · have hal : Chg w ((w.alloc (.cells (jobCells ⟨true, y, 0⟩).toArray 37)).alloc (.cells #[.int .i64 0, .bool false, .slice none 0 0] 40)) (fun b _ => b = qb) :=
      Chg.of_below (((Below.refl _ _).alloc (Nat.le_refl _) _).alloc (by simp) _) _
    exact (hal.trans HC1.out (fun b x _ h => h)).then_below hrow (by omega)

set_option maxRecDepth 100000 in
set_option maxHeartbeats 2000000 in
theorem do_pull (qb f n : Nat) (q : List ActD) (w : World) (h : QR w qb f q) (hn : 1 ≤ n) (hn8 : n ≤ 8) :
    Calls Try.prog 59 #[.pointer (some ⟨qb, 0, none⟩), Value.agg #[.int .i64 2, .int .i64 actZ.kind, .bool false, .int .u64 (hiOf false actZ.n), .int .u64 (loOf actZ.n), .int .i64 actZ.k, .int .i64 actZ.hop, .bool false, .int .u64 (hiOf false actZ.a), .int .u64 (loOf actZ.a), .int .i64 n]] w (DoSays w qb q ⟨false, actZ, n⟩) := by
  have hlt := h.lt
  have HQ := Lib.hid h
  have c73 := h.c73
  clear h
  have d1 : decide ((n : Int) < 1) = false := by simp; omega
  have d2 : decide ((8 : Int) < n) = false := by simp; omega
  by_cases h0 : q.length = 0
  · have hst : qstep q ⟨false, actZ, n⟩ = (q, ⟨7, false, []⟩) := by unfold qstep; simp [h0]
    have HST := Lib.hid hst
    rw [h0] at c73
    clear hst h0
    go_enter Try.func59, Try.ntmps59
    go_wp2
    have hb : Below w.heap.size w ((w.alloc (.cells (jobCells ⟨false, actZ, n⟩).toArray 37)).alloc (.cells #[.int .i64 7, .bool false, .slice none 0 0] 40)) := (((Below.refl _ _).alloc (Nat.le_refl _) _).alloc (by simp) _)
    refine bodyPost_ret (v := .agg #[.int .i64 7, .bool false, .slice none 0 0]) (by simp [results, Try.results59, go_sem]) rfl ⟨f, .slice none 0 0, by rw [HST.out]; rfl, by rw [HST.out]; exact Own.nil _ _ _ _, by rw [HST.out]; exact HQ.out.below hb hlt, Chg.of_below hb _⟩
  · have hst : qstep q ⟨false, actZ, n⟩ = (q.drop n, ⟨0, false, q.take n⟩) := by unfold qstep; simp [h0]
    have HST := Lib.hid hst
    have h0' : ((q.length : Int) == 0) = false := by rw [beq_eq_false_iff_ne]; omega
    clear hst h0
    go_enter Try.func59, Try.ntmps59
    go_wp2_with fail
    refine (pull_any qb f n q _ (HQ.out.below (B := w.heap.size) (by (repeat' (first | (with_reducible exact Below.refl _ _) | (with_reducible assumption) | (with_reducible refine Below.alloc ?_ ?_ _) | (with_reducible refine Below.drew ?_) | (with_reducible refine Below.stepG ?_ (by assumption) ?_) | (with_reducible refine Below.setCell ?_ ?_ _) | omega | (dsimp only; omega) | (simp; done) | (simp; omega)))) hlt) (by omega)).mono ?_
    rintro e w1 ⟨v, f', rfl, HO, HR, HC⟩
    have c0 : w1.cell? ⟨w.heap.size + 1, 0, none⟩ = some (.int .i64 0) := (HC.cell _ _ (by simp) (by omega)).trans (by simp)
    have c1 : w1.cell? ⟨w.heap.size + 1, 1, none⟩ = some (.bool false) := (HC.cell _ _ (by simp) (by omega)).trans (by simp)
    have c2 : w1.cell? ⟨w.heap.size + 1, 2, none⟩ = some (.slice none 0 0) := (HC.cell _ _ (by simp) (by omega)).trans (by simp)
    have f0 : w1.frozen? ⟨w.heap.size + 1, 0, none⟩ = false := (HC.froz _ _ (by simp)).trans (by simp)
    have f1 : w1.frozen? ⟨w.heap.size + 1, 1, none⟩ = false := (HC.froz _ _ (by simp)).trans (by simp)
    have f2 : w1.frozen? ⟨w.heap.size + 1, 2, none⟩ = false := (HC.froz _ _ (by simp)).trans (by simp)
    have hs1 : w.heap.size + 1 < w1.heap.size := by have := HC.size; simp at this; omega
    obtain ⟨va, vc, rfl⟩ := HO.shape
    have HR1 := Lib.hid HR
    have HC1 := Lib.hid HC
    have HO1 := Lib.hid HO
    rw [List.length_map] at HO1 ⊢
    clear HC HR HO
    go_wp2
    rw [List.length_take] at HO1
    generalize hsv : Value.slice va (min n q.length) vc = sv at *
    change bodyPost _ _ _ _ _ (setRow w1 (w.heap.size + 1) 0 [.int .i64 0, .bool false, sv])
    obtain ⟨sc, sx⟩ := setRow_chg (w.heap.size + 1) [.int .i64 0, .bool false, sv] 0 w1 hs1 (fun j hj => by
      match j, hj with
      | 0, _ => exact ⟨_, c0⟩
      | 1, _ => exact ⟨_, c1⟩
      | 2, _ => exact ⟨_, c2⟩)
    have x0 := sx 0 _ rfl
    have x1 := sx 1 _ rfl
    have x2 := sx 2 _ rfl
    rw [Nat.zero_add] at x0 x1 x2
    have hrow : Below (w.heap.size + 1) w1 (setRow w1 (w.heap.size + 1) 0 [.int .i64 0, .bool false, sv]) :=
      sc.below (by omega) (fun b x hb hx => by omega)
    generalize setRow w1 (w.heap.size + 1) 0 [.int .i64 0, .bool false, sv] = X at *
    refine bodyPost_ret (v := .agg #[.int .i64 0, .bool false, sv]) (by simp [results, Try.results59, go_sem, x0, x1, x2]) rfl ⟨f', sv, by rw [HST.out]; rfl, ?_, by rw [HST.out]; exact HR1.out.below hrow (by omega), ?_⟩
    · rw [HST.out]
      exact Own.base (Own.chg HO1.out sc (fun b x h => h.1) (fun e => by have := (Own.lt HO1.out _ e).1; simp at this; omega)) (by simp; omega)
    · have hal : Chg w ((w.alloc (.cells (jobCells ⟨false, actZ, n⟩).toArray 37)).alloc (.cells #[.int .i64 0, .bool false, .slice none 0 0] 40)) (fun b _ => b = qb) :=
        Chg.of_below (((Below.refl _ _).alloc (Nat.le_refl _) _).alloc (by simp) _) _
      exact (hal.trans HC1.out (fun b x _ h => h)).then_below hrow (by omega)
/-- A job, whatever it is. -/
theorem do_any (qb f : Nat) (q : List ActD) (j : JobD) (w : World) (h : QR w qb f q) (hq : ∀ x ∈ q, ActD.ok x) (hj : j.ok) :
    Calls Try.prog 59 #[.pointer (some ⟨qb, 0, none⟩), .agg (jobCells j).toArray] w (DoSays w qb q j) := by
  obtain ⟨p, a, n⟩ := j
  rcases hj with ⟨h1, h2, h3⟩ | ⟨h1, h2, h3, h4⟩
  · obtain rfl : p = true := h1
    obtain rfl : n = 0 := h3
    exact do_push qb f q a w h hq h2
  · obtain rfl : p = false := h1
    obtain rfl : a = actZ := h2
    exact do_pull qb f n q w h h3 h4
theorem do_job (qb f : Nat) (q : List ActD) (j : JobD) (w : World) (h : QR w qb f q) (hq : ∀ x ∈ q, ActD.ok x) (hj : j.ok) :
    Calls Try.prog 59 #[.pointer (some ⟨qb, 0, none⟩), Value.agg #[.int .i64 (jobKind j), .int .i64 j.act.kind, .bool false, .int .u64 (hiOf false j.act.n), .int .u64 (loOf j.act.n), .int .i64 j.act.k, .int .i64 j.act.hop, .bool false, .int .u64 (hiOf false j.act.a), .int .u64 (loOf j.act.a), .int .i64 j.num]] w (DoSays w qb q j) := do_any qb f q j w h hq hj
end Go.Proofs.Yteadfobfenopkaa
