
/- The first picks of a list; those behind. -/
import Derived.Test.YteadfobfenopkaaPrK
set_option linter.unusedVariables false
set_option linter.unusedSimpArgs false
namespace Go.Proofs.Yteadfobfenopkaa
open Go Go.RowKit Go.Sort Wc Wk

theorem run_pick_take (g p n c : Nat) (h1 : p ≤ n) (h2 : n ≤ c) (h3 : c ≤ 9223372036854775807) (W : World) : (Instr.slice 57 (.slice (some ⟨g, 0, none⟩) n c) none (some (.int .i64 (p : Int))) none).run Try.prog W = .ok (.slice (some ⟨g, 0, none⟩) p c) W := by
  have h4 : p ≤ c := by omega
  have h5 : (0 : Int) ≤ p := by omega
  go_simp
theorem run_pick_drop (g p n c : Nat) (h1 : p ≤ n) (h2 : n ≤ c) (h3 : c ≤ 9223372036854775807) (hne : c ≠ p) (W : World) : (Instr.slice 57 (.slice (some ⟨g, 0, none⟩) n c) (some (.int .i64 (p : Int))) none none).run Try.prog W = .ok (.slice (some ⟨g, 0 + p, none⟩) (n - p) (c - p)) W := by
  have h4 : p ≤ c := by omega
  have h5 : (0 : Int) ≤ p := by omega
  go_simp
theorem run_pick_end (g p : Nat) (h3 : p ≤ 9223372036854775807) (W : World) : (Instr.slice 57 (.slice (some ⟨g, 0, none⟩) p p) (some (.int .i64 (p : Int))) none none).run Try.prog W = .ok (.slice (some ⟨g, 0, none⟩) 0 0) W := by
  have h5 : (0 : Int) ≤ p := by omega
  go_simp
set_option maxRecDepth 100000 in
theorem pick_take {w : World} {B : Nat} {a : Option Addr} {n c : Nat} {xs : List Nat} (h : Wk.Own w B 3 1 (.slice a n c) (xs.map pickCells)) (p : Nat) (hp : p ≤ n) :
    (∀ W : World, (Instr.slice 57 (.slice a n c) none (some (.int .i64 (p : Int))) none).run Try.prog W = .ok (.slice a p c) W) ∧ Sl w 1 (.slice a p c) ((xs.take p).map pickCells) := by
  obtain ⟨hl, hc1, hc2⟩ := h.sl.lens
  rw [List.length_map] at hl
  refine ⟨fun W => ?_, by rw [List.map_take]; exact h.sl.take p (by rw [List.length_map]; omega)⟩
  rcases h.2.2 with ⟨hv, h0⟩ | ⟨g, cap, cur, hv, _⟩
  · simp only [Value.slice.injEq] at hv
    obtain ⟨rfl, rfl, rfl⟩ := hv
    obtain rfl : p = 0 := by omega
    first | rfl | kernel_rfl
  · simp only [Value.slice.injEq] at hv
    obtain ⟨rfl, _, rfl⟩ := hv
    exact run_pick_take g p n c hp hc1 hc2 W
set_option maxRecDepth 100000 in
theorem pick_drop {w : World} {B : Nat} {a : Option Addr} {n c : Nat} {xs : List Nat} (h : Wk.Own w B 3 1 (.slice a n c) (xs.map pickCells)) (p : Nat) (hp : p ≤ n) :
    ∃ a' c', (∀ W : World, (Instr.slice 57 (.slice a n c) (some (.int .i64 (p : Int))) none none).run Try.prog W = .ok (.slice a' (n - p) c') W) ∧ Sl w 1 (.slice a' (n - p) c') ((xs.drop p).map pickCells) := by
  obtain ⟨hl, hc1, hc2⟩ := h.sl.lens
  rw [List.length_map] at hl
  rcases h.2.2 with ⟨hv, h0⟩ | ⟨g, cap, cur, hv, _⟩
  · simp only [Value.slice.injEq] at hv
    obtain ⟨rfl, rfl, rfl⟩ := hv
    obtain rfl : p = 0 := by omega
    have hx : xs = [] := List.eq_nil_of_length_eq_zero (by omega)
    subst hx
    exact ⟨none, 0, fun W => by first | rfl | kernel_rfl, Sl.empty _ _ _ _ (by decide)⟩
  · simp only [Value.slice.injEq] at hv
    obtain ⟨rfl, _, rfl⟩ := hv
    have hs := h.sl
    rcases hs.behind p (by rw [List.length_map]; omega) with ⟨rfl, rfl, hn, hs'⟩ | ⟨hne, hs'⟩
    · exact ⟨_, _, fun W => by rw [Nat.sub_self]; exact run_pick_end g _ hc2 W, by rw [Nat.sub_self, List.map_drop]; exact hs'⟩
    · rw [Nat.mul_one] at hs'
      exact ⟨_, _, fun W => run_pick_drop g p n c hp hc1 hc2 hne W, by rw [List.map_drop]; exact hs'⟩
end Go.Proofs.Yteadfobfenopkaa
