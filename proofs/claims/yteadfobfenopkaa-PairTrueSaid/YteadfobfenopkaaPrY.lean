
/- The first picks of a list; those behind. -/
import Derived.Test.YteadfobfenopkaaPrK
set_option linter.unusedVariables false
set_option linter.unusedSimpArgs false
namespace Go.Proofs.Yteadfobfenopkaa
open Go Go.RowKit Go.Sort Wc Wk

theorem run_pick_take (g p n c : Nat) (h1 : p ≤ n) (h2 : n ≤ c) (h3 : c ≤ 9223372036854775807) (W : World) : (Instr.slice 57 (.slice (some ⟨g, 0, none⟩) n c) none (some (.int .i64 (p : Int))) none).run Try.prog W = .ok (.slice (some ⟨g, 0, none⟩) p c) W := by
  have h4 : p ≤ c := by omega
  have h5 : (0 : Int) ≤ p := by omega
  go_simp
theorem run_pick_drop (g p n c : Nat) (h1 : p ≤ n) (h2 : n ≤ c) (h3 : c ≤ 9223372036854775807) (hne : c ≠ p) (W : World) : (Instr.slice 57 (.slice (some ⟨g, 0, none⟩) n c) (some (.int .i64 (p : Int))) none none).run Try.prog W = .ok (.slice (some ⟨g, 0 + p, none⟩) (n - p) (c - p)) W := by
  have h4 : p ≤ c := by omega
  have h5 : (0 : Int) ≤ p := by omega
  go_simp
theorem run_pick_end (g p : Nat) (h3 : p ≤ 9223372036854775807) (W : World) : (Instr.slice 57 (.slice (some ⟨g, 0, none⟩) p p) (some (.int .i64 (p : Int))) none none).run Try.prog W = .ok (.slice (some ⟨g, 0, none⟩) 0 0) W := by
  have h5 : (0 : Int) ≤ p := by omega
  go_simp
set_option maxRecDepth 100000 in
theorem pick_take {w : World} {B : Nat} {a : Option Addr} {n c : Nat} {xs : List Nat} (h : Wk.Own w B 3 1 (.slice a n c) (xs.map pickCells)) (p : Nat) (hp : p ≤ n) :
    (∀ W : World, (Instr.slice 57 (.slice a n c) none (some (.int .i64 (p : Int))) none).run Try.prog W = .ok (.slice a p c) W) ∧ Sl w 1 (.slice a p c) ((xs.take p).map pickCells) := by
  obtain ⟨hl, hc1, hc2⟩ := h.sl.lens
  rw [List.length_map] at hl
  refine ⟨fun W => ?_, by rw [List.map_take]; exact h.sl.take p (by rw [List.length_map]; omega)⟩
  rcases h.2.2 with ⟨hv, h0⟩ | ⟨g, cap, cur, hv, _⟩
  · simp only [Value.slice.injEq] at hv
    obtain ⟨rfl, rfl, rfl⟩ := hv
    obtain rfl : p = 0 := by omega
    first | rfl | kernel_rfl
  · simp only [Value.slice.injEq] at hv
    obtain ⟨rfl, _, rfl⟩ := hv
    exact run_pick_take g p n c hp hc1 hc2 W
set_option maxRecDepth 100000 in
theorem pick_drop {w : World} {B : Nat} {a : Option Addr} {n c : Nat} {xs : List Nat} (h : Wk.Own w B 3 1 (.slice a n c) (xs.map pickCells)) (p : Nat) (hp : p ≤ n) :
    ∃ a' c', (∀ W : World, (Instr.slice 57 (.slice a n c) (some (.int .i64 (p : Int))) none none).run Try.prog W = .ok (.slice a' (n - p) c') W) ∧ Sl w 1 (.slice a' (n - p) c') ((xs.drop p).map pickCells) := by
  obtain ⟨hl, hc1, hc2⟩ := h.sl.lens
  rw [List.length_map] at hl
  rcases h.2.2 with ⟨hv, h0⟩ | ⟨g, cap, cur, hv, _⟩
  · simp only [Value.slice.injEq] at hv
    obtain ⟨rfl, rfl, rfl⟩ := hv
    obtain rfl : p = 0 := by omega
    have hx : xs = [] := List.eq_nil_of_length_eq_zero (by omega)
    subst hx
    exact ⟨none, 0, fun W => by first | rfl | kernel_rfl, Sl.empty _ _ _ _ (by decide)⟩
  · simp only [Value.slice.injEq] at hv
    obtain ⟨rfl, _, rfl⟩ := hv
    have hs := h.sl
    rcases hs.behind p (by rw [List.length_map]; omega) with ⟨rfl, rfl, hn, hs'⟩ | ⟨hne, hs'⟩
    · exact ⟨_, _, fun W => by rw [Nat.sub_self]; exact run_pick_end g _ hc2 W, by rw [Nat.sub_self, List.map_drop]; exact hs'⟩
    · rw [Nat.mul_one] at hs'
      exact ⟨_, _, fun W => run_pick_drop g p n c hp hc1 hc2 hne W, by rw [List.map_drop]; exact hs'⟩
theorem Sl.seen {w w' : World} {a : Option Addr} {n cap : Nat} {xs : List SeenD} (hs : Sl w 5 (.slice a n cap) (xs.map seenCells)) (hb : Below w.heap.size w w') {i : Nat} {r : SeenD} (hr : xs[i]? = some r) :
    ∃ b off, a = some ⟨b, off, none⟩ ∧ b < w.heap.size ∧ w'.cell? ⟨b, off + i * 5, none⟩ = some (.int .i64 r.rd) ∧ w'.cell? ⟨b, off + i * 5 + 2, none⟩ = some (.int .i64 r.hop) ∧ w'.cell? ⟨b, off + i * 5 + 4, none⟩ = some (.int .i64 r.acts) := by
  obtain ⟨b, off, ha, hlt, hc⟩ := Sl.at hs (i := i) (c := seenCells r) (by rw [List.getElem?_map, hr]; rfl)
  have g := fun j u (h : (seenCells r)[j]? = some u) => (hb.cell (p := ⟨b, off + i * 5 + j, none⟩) hlt).trans (hc j u h)
  exact ⟨b, off, ha, hlt, g 0 _ rfl, g 2 _ rfl, g 4 _ rfl⟩
theorem getLast_at {α : Type} {l : List α} {x : α} (h : l.getLast? = some x) : ∃ k, l.length = k + 1 ∧ l[k]? = some x := by
  cases e : l.length with
  | zero => rw [List.eq_nil_of_length_eq_zero e] at h; cases h
  | succ k => exact ⟨k, rfl, by rw [List.getLast?_eq_getElem?, e] at h; exact h⟩
end Go.Proofs.Yteadfobfenopkaa
