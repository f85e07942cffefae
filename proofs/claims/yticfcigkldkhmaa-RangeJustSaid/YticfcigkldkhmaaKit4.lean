
/- Small laws of my own, the fourth part: a store into a slice of the call's own. -/
import Derived.Test.YticfcigkldkhmaaKit3
set_option linter.unusedVariables false
namespace Wk
open Go Go.RowKit Go.Sort

theorem heap_setCell_at (w : World) (g i : Nat) (cs : Array Value) (t : TypeId) (fr : Nat × Nat) (v : Value) (hg : w.heap[g]? = some (.cells cs t fr)) :
    (w.setCell ⟨g, i, none⟩ v).heap[g]? = some (.cells (cs.setIfInBounds i v) t fr) := by
  simp [World.setCell, Array.getElem?_modify, hg]
theorem set_flatten {sz : Nat} : ∀ {xs : List (List Value)} (h : ∀ c ∈ xs, c.length = sz) (i : Nat) (c : List Value) (hc : xs[i]? = some c) (j : Nat) (u : Value) (hj : j < sz),
    xs.flatten.set (i * sz + j) u = (xs.set i (c.set j u)).flatten
  | [], _, i, c, hc, _, _, _ => by simp at hc
  | x :: xs, h, 0, c, hc, j, u, hj => by
    simp at hc; subst hc
    have hx := h x (by simp)
    rw [List.flatten_cons, Nat.zero_mul, Nat.zero_add, List.set_append_left _ _ (by omega)]; rfl
  | x :: xs, h, i + 1, c, hc, j, u, hj => by
    have hx := h x (by simp)
    rw [List.flatten_cons, List.set_append_right _ _ (by rw [hx, Nat.succ_mul]; omega), hx, show (i + 1) * sz + j - sz = i * sz + j from by rw [Nat.succ_mul]; omega]
    rw [set_flatten (fun c hc => h c (by simp [hc])) i c (by simpa using hc) j u hj]
    simp
/-- An own slice that holds something: where it lies. -/
theorem Own.at {w : World} {B : Nat} {e : TypeId} {sz : Nat} {v : Value} {xs : List (List Value)} (h : Own w B e sz v xs) (hp : 0 < xs.length) :
    ∃ g cap, v = .slice (some ⟨g, 0, none⟩) xs.length cap ∧ B ≤ g ∧ g < w.heap.size ∧ xs.length ≤ cap ∧ cap ≤ 9223372036854775807 ∧ (∀ o, w.frozen? ⟨g, o, none⟩ = false) ∧ ∀ i c, xs[i]? = some c → ∀ j u, c[j]? = some u → w.cell? ⟨g, i * sz + j, none⟩ = some u := by
  obtain ⟨hl, hx, h2⟩ := id h
  rcases h2 with ⟨rfl, h0⟩ | ⟨g, cap, cur, rfl, hb, hg, hn, hm, hs, ht⟩
  · omega
  · refine ⟨g, cap, rfl, hb, (Array.getElem?_eq_some_iff.1 hg).1, hn, by unfold maxLen at hm; exact hm, fun o => ?_, fun i c hc j u hu => ?_⟩
    · unfold World.frozen?
      simp [hg]
    · obtain ⟨_, a', cap', hv, _, _, hcell⟩ := h.sl
      obtain ⟨b, off, hab, _, hcc⟩ := hcell (by intro h; rw [h] at hp; simp at hp)
      simp only [Value.slice.injEq] at hv
      rw [hab] at hv
      simp only [Option.some.injEq, Addr.mk.injEq] at hv
      obtain ⟨⟨rfl, rfl, _⟩, _, _⟩ := hv
      have := hcc i c hc j u hu
      rwa [Nat.zero_add] at this
theorem Own.set {w : World} {B : Nat} {e : TypeId} {sz g n cap : Nat} {xs : List (List Value)} (h : Own w B e sz (.slice (some ⟨g, 0, none⟩) n cap) xs) {i : Nat} {c : List Value} (hc : xs[i]? = some c) {j : Nat} (hj : j < sz) (u : Value) :
    Own (w.setCell ⟨g, i * sz + j, none⟩ u) B e sz (.slice (some ⟨g, 0, none⟩) n cap) (xs.set i (c.set j u)) := by
  obtain ⟨hl, hx, h2⟩ := h
  have hcl := hl c (List.mem_of_getElem? hc)
  refine ⟨fun d hd => ?_, ?_⟩
  · rcases List.mem_or_eq_of_mem_set hd with hd | rfl
    · exact hl d hd
    · rw [List.length_set]; exact hcl
  · have hx' : (xs.set i (c.set j u)).flatten.length = (xs.set i (c.set j u)).length * sz := by
      refine flatten_len fun d hd => ?_
      rcases List.mem_or_eq_of_mem_set hd with hd | rfl
      · exact hl d hd
      · rw [List.length_set]; exact hcl
    rw [List.length_set] at hx' ⊢
    refine ⟨hx', ?_⟩
    rcases h2 with ⟨h0, _⟩ | ⟨g', cap', cur, hv, hb, hg, hn, hm, hs, ht⟩
    · cases h0
    · simp only [Value.slice.injEq, Option.some.injEq, Addr.mk.injEq] at hv
      obtain ⟨⟨rfl, _, _⟩, rfl, rfl⟩ := hv
      refine .inr ⟨g, cap, _, rfl, hb, heap_setCell_at w g _ cur e (0, 0) u hg, hn, hm, by rw [Array.size_setIfInBounds]; exact hs, ?_⟩
      rw [Array.toList_setIfInBounds, List.take_set, ht, set_flatten hl i c hc j u hj]
end Wk
