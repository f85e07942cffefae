
/- QueueParts: the walk. -/
import Derived.Test.YtllemhknmleklaaQ6
import Derived.Test.YtllemhknmleklaaQ7
set_option linter.unusedVariables false
namespace Go.Proofs.Ytllemhknmleklaa
open Go Go.RowKit Go.Sort Wc Wk

theorem Dones.at {w : World} {B : Nat} {v : Value} {ds : List DoneD} {vs : List Value} (h : Dones w B v ds vs) {i : Nat} {d : DoneD} (hd : ds[i]? = some d) :
    ∃ g cap a c, v = .slice (some ⟨g, 0, none⟩) ds.length cap ∧ g < w.heap.size ∧ B ≤ g ∧ w.cell? ⟨g, i * 3, none⟩ = some (.int .i64 (d.code : Nat)) ∧ w.cell? ⟨g, i * 3 + 1, none⟩ = some (.bool d.merged) ∧
      w.cell? ⟨g, i * 3 + 2, none⟩ = some (.slice a d.acts.length c) ∧ Own w B 31 9 (.slice a d.acts.length c) (d.acts.map actCells) := by
  have hi := (List.getElem?_eq_some_iff.1 hd).1
  have hu : vs[i]? = some (vs[i]'(by rw [h.len]; exact hi)) := List.getElem?_eq_getElem _
  generalize vs[i]'(by rw [h.len]; exact hi) = u at hu
  have ho := h.acts i d u hd hu
  have hz : (List.zipWith doneCells ds vs)[i]? = some (doneCells d u) := by rw [List.getElem?_zipWith, hd, hu]
  obtain ⟨g, cap, hv, hg1, hg2, _, _, _, hc⟩ := h.own.at (Nat.lt_of_le_of_lt (Nat.zero_le i) (List.getElem?_eq_some_iff.1 hz).1)
  obtain ⟨a, c, rfl⟩ := ho.shape
  rw [List.length_map] at ho hz
  refine ⟨g, cap, a, c, ?_, hg2, hg1, hc i _ hz 0 _ rfl, hc i _ hz 1 _ rfl, hc i _ hz 2 _ rfl, ho⟩
  rw [hv, List.length_zipWith, h.len, Nat.min_self]
/-- A Done of what was played, read from a later world. -/
theorem Dones.opened {w w' : World} {B : Nat} {b : Option Addr} {n cap : Nat} {ds : List DoneD} {vs : List Value} (h : Dones w B (.slice b n cap) ds vs) (hb : Below w.heap.size w w') {i : Nat} {d : DoneD} (hd : ds[i]? = some d) :
    ∃ g a c, b = some ⟨g, 0, none⟩ ∧ g < w.heap.size ∧ w'.cell? ⟨g, i * 3, none⟩ = some (.int .i64 (d.code : Nat)) ∧ w'.cell? ⟨g, i * 3 + 1, none⟩ = some (.bool d.merged) ∧
      w'.cell? ⟨g, i * 3 + 2, none⟩ = some (.slice a d.acts.length c) ∧ Own w' B 31 9 (.slice a d.acts.length c) (d.acts.map actCells) := by
  obtain ⟨g, cap', a, c, hv, hg, _, h0, h1, h2, ho⟩ := h.at hd
  simp only [Value.slice.injEq] at hv
  obtain ⟨rfl, _, _⟩ := hv
  exact ⟨g, a, c, rfl, hg, (hb.cell (p := ⟨g, i * 3, none⟩) hg).trans h0, (hb.cell (p := ⟨g, i * 3 + 1, none⟩) hg).trans h1, (hb.cell (p := ⟨g, i * 3 + 2, none⟩) hg).trans h2, ho.below hb⟩


end Go.Proofs.Ytllemhknmleklaa
