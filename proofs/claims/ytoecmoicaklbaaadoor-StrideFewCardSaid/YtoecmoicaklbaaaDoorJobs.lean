
/- A slice of jobs that came in: opened. -/
import Derived.Test.YtoecmoicaklbaaaDoorActs
import Derived.Deep.Slices
import Derived.Deep.Strs
import Derived.ChangeSame
set_option linter.unusedVariables false
namespace Go.Proofs.YtoecmoicaklbaaaDoor
open Go Go.RowKit Go.Sort Wc Wk Go.ChangeShapes Go.WideShapes Go.Deep

theorem cellsJob : Tryd.prog.cellsOf 61 = 3 := by kernel_rfl
theorem list3 {α : Type} : ∀ {l : List α}, l.length = 3 → ∃ a b c, l = [a, b, c]
  | [a, b, c], _ => ⟨a, b, c, rfl⟩
set_option maxRecDepth 100000 in
theorem jobs_in {H : Type} {enc : TypeId × Value → H} {W : World} {base : Nat} {sp : Nat → Bool} {hd : Bool} {a : Option Addr} {len cap fuel : Nat} {x : DataW H × List MemPlace}
    (h : DataW.trod enc Tryd.prog W base sp hd fuel 22 [.slice a len cap] = some x) : ∃ js, IsJobs W a len cap js := by
  rcases open_slice Tryd.underlying22 h with ⟨hcs, _⟩ | ⟨x0, l, c, m, n, D, Pl, hcs, _, hl, hm, hmm, _, hi⟩
  · simp at hcs
    obtain ⟨rfl, rfl, rfl⟩ := hcs
    exact ⟨[], rfl, ⟨fun c hc => (by cases hc), none, 0, rfl, Nat.le_refl _, Nat.zero_le _, fun h => absurd rfl h⟩, fun j hj => (by cases hj)⟩
  · simp at hcs
    obtain ⟨rfl, rfl, rfl⟩ := hcs
    have hlm : len ≤ m := by rw [hmm]; split <;> omega
    have each : ∀ i, i < len → ∃ r : RawJ, (∀ j u, (rawCells r)[j]? = some u → W.cell? ((x0.add (i * 3)).add j) = some u) ∧ I64 r.kind ∧ I64 r.pre ∧ I64 r.hop := by
      intro i hil
      obtain ⟨cs', h1, h2⟩ := hi i (by omega)
      rw [cellsJob] at h1
      obtain ⟨y0, y1, y2, n', _, hlen, g0, g1, g2⟩ := trod_struct3 Tryd.underlying61 h2
      rw [cellsJob] at hlen
      obtain ⟨_, _, hat⟩ := World.cells?_some h1
      obtain ⟨c0, c1, c2, rfl⟩ := list3 hlen
      · skip
        simp [show Tryd.prog.cellsOf 3 = 1 by kernel_rfl] at g0 g1 g2
        obtain ⟨z0, e0, _, w0⟩ := DataW.trod_int Tryd.underlying3 g0
        obtain ⟨z1, e1, _, w1⟩ := DataW.trod_int Tryd.underlying3 g1
        obtain ⟨z2, e2, _, w2⟩ := DataW.trod_int Tryd.underlying3 g2
        simp at e0 e1 e2
        subst e0 e1 e2
        refine ⟨⟨z0, z1, z2⟩, fun j u hu => ?_, wf_i64 w0, wf_i64 w1, wf_i64 w2⟩
        have hj : j < 3 := (List.getElem?_eq_some_iff.1 hu).1
        have hc := hat j hj
        rw [hc]
        exact hu
    have hx : 0 < len → ∃ b off, x0 = ⟨b, off, none⟩ ∧ b < W.heap.size := by
      intro hp
      obtain ⟨r, hr, _⟩ := each 0 hp
      have h0 := hr 0 _ rfl
      obtain ⟨b, off, spot⟩ := x0
      have hs : spot = none := by
        have := World.cell?_spot h0
        unfold Addr.add at this
        simpa using this
      subst hs
      have hb := World.block_lt_of_cell? _ _ h0
      rw [addr_add_none, addr_add_none] at hb
      exact ⟨b, off, rfl, hb⟩
    obtain ⟨f, hf⟩ : ∃ f : Nat → RawJ, ∀ i, i < len → (∀ j u, (rawCells (f i))[j]? = some u → W.cell? ((x0.add (i * 3)).add j) = some u) ∧ I64 (f i).kind ∧ I64 (f i).pre ∧ I64 (f i).hop := by
      refine ⟨fun i => if h : i < len then Classical.choose (each i h) else ⟨0, 0, 0⟩, fun i h => ?_⟩
      dsimp only
      rw [dif_pos h]
      exact Classical.choose_spec (each i h)
    have hat : ∀ i c, (((List.range len).map f).map rawCells)[i]? = some c → i < len ∧ c = rawCells (f i) := by
      intro i c hc
      rw [List.map_map, List.getElem?_map] at hc
      by_cases hil : i < len
      · rw [List.getElem?_range hil] at hc
        simp at hc
        exact ⟨hil, hc.symm⟩
      · rw [List.getElem?_eq_none (by simpa using hil)] at hc
        cases hc
    refine ⟨(List.range len).map f, by simp, ⟨fun c hc => ?_, some x0, cap, ?_, ?_, ?_, fun hne => ?_⟩, fun j hj => ?_⟩
    · obtain ⟨i, hi⟩ := List.getElem?_of_mem hc
      rw [(hat i c hi).2]; rfl
    · simp
    · simpa using hl
    · exact hm
    · have hp : 0 < len := by
        rcases Nat.eq_zero_or_pos len with h | h
        · subst h; simp at hne
        · exact h
      obtain ⟨b, off, rfl, hb⟩ := hx hp
      refine ⟨b, off, rfl, hb, fun i c hc j u hu => ?_⟩
      obtain ⟨hil, rfl⟩ := hat i c hc
      have := (hf i hil).1 j u hu
      rw [addr_add_none, addr_add_none] at this
      exact this
    · obtain ⟨i, hi, rfl⟩ := List.mem_map.1 hj
      exact (hf i (List.mem_range.1 hi)).2
end Go.Proofs.YtoecmoicaklbaaaDoor
