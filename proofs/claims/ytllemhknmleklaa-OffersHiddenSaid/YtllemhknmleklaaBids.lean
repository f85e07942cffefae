
/- A slice of bids that came in: opened. -/
import Derived.Test.YtllemhknmleklaaActs
import Derived.Deep.Slices
import Derived.Deep.Strs
import Derived.ChangeSame
set_option linter.unusedVariables false
namespace Go.Proofs.Ytllemhknmleklaa
open Go Go.RowKit Go.Sort Wc Wk Go.ChangeShapes Go.WideShapes Go.Deep

/-- A bid: five numbers. -/
structure BidD where
  pre : Int
  src : Int
  peer : Int
  met : Int
  hop : Int
def bidCells (r : BidD) : List Value := [.int .i64 r.pre, .int .i64 r.src, .int .i64 r.peer, .int .i64 r.met, .int .i64 r.hop]
def BidD.wide (j : BidD) : Prop := I64 j.pre ∧ I64 j.src ∧ I64 j.peer ∧ I64 j.met ∧ I64 j.hop
def IsBids (w : World) (a : Option Addr) (len cap : Nat) (js : List BidD) : Prop :=
  js.length = len ∧ Sl w 5 (.slice a len cap) (js.map bidCells) ∧ ∀ j ∈ js, j.wide
theorem IsBids.below {w w' : World} {a : Option Addr} {len cap : Nat} {js : List BidD} (h : IsBids w a len cap js) (hb : Below w.heap.size w w') : IsBids w' a len cap js := ⟨h.1, h.2.1.below hb, h.2.2⟩
theorem IsBids.le {w : World} {a : Option Addr} {len cap : Nat} {js : List BidD} (h : IsBids w a len cap js) : len ≤ 9223372036854775807 := by
  have := Sl.lens h.2.1; omega
theorem IsBids.opened {w w' : World} {a : Option Addr} {len cap : Nat} {js : List BidD} (h : IsBids w a len cap js) (hb : Below w.heap.size w w') {k : Nat} (hk : k < len) :
    ∃ b off r, js[k]? = some r ∧ a = some ⟨b, off, none⟩ ∧ b < w.heap.size ∧ w'.cell? ⟨b, off + k * 5, none⟩ = some (.int .i64 r.pre) ∧ w'.cell? ⟨b, off + k * 5 + 1, none⟩ = some (.int .i64 r.src) ∧ w'.cell? ⟨b, off + k * 5 + 2, none⟩ = some (.int .i64 r.peer) ∧
      w'.cell? ⟨b, off + k * 5 + 3, none⟩ = some (.int .i64 r.met) ∧ w'.cell? ⟨b, off + k * 5 + 4, none⟩ = some (.int .i64 r.hop) ∧ r.wide := by
  obtain ⟨hl, hs, hi⟩ := h
  have hr : js[k]? = some (js[k]'(by omega)) := List.getElem?_eq_getElem (by omega)
  obtain ⟨b, off, ha, hlt, hc⟩ := Sl.at hs (i := k) (c := bidCells (js[k]'(by omega))) (by rw [List.getElem?_map, hr]; rfl)
  have g := fun j u (h : (bidCells (js[k]'(by omega)))[j]? = some u) => (hb.cell (p := ⟨b, off + k * 5 + j, none⟩) hlt).trans (hc j u h)
  exact ⟨b, off, _, hr, ha, hlt, g 0 _ rfl, g 1 _ rfl, g 2 _ rfl, g 3 _ rfl, g 4 _ rfl, hi _ (List.mem_of_getElem? hr)⟩

theorem cellsBid : Try.prog.cellsOf 158 = 5 := by kernel_rfl
theorem list5 {α : Type} : ∀ {l : List α}, l.length = 5 → ∃ a b c d e, l = [a, b, c, d, e]
  | [a, b, c, d, e], _ => ⟨a, b, c, d, e, rfl⟩
theorem trod_struct5 {H : Type} {enc : TypeId × Value → H} {P : Program} {w : World} {base : Nat} {spare : Nat → Bool} {held : Bool} {t : TypeId} {f0 f1 f2 f3 f4 : Field} {fuel : Nat} {cs : List Value} {x : DataW H × List MemPlace} (ht : P.underlying t = some (.struct #[f0, f1, f2, f3, f4])) (h : DataW.trod enc P w base spare held fuel t cs = some x) :
    ∃ y0 y1 y2 y3 y4 n, cs.length = P.cellsOf t ∧ DataW.trod enc P w base spare held n f0.type ((cs.drop f0.offset).take (P.cellsOf f0.type)) = some y0 ∧
      DataW.trod enc P w base spare held n f1.type ((cs.drop f1.offset).take (P.cellsOf f1.type)) = some y1 ∧ DataW.trod enc P w base spare held n f2.type ((cs.drop f2.offset).take (P.cellsOf f2.type)) = some y2 ∧
      DataW.trod enc P w base spare held n f3.type ((cs.drop f3.offset).take (P.cellsOf f3.type)) = some y3 ∧ DataW.trod enc P w base spare held n f4.type ((cs.drop f4.offset).take (P.cellsOf f4.type)) = some y4 := by
  obtain ⟨xs, n, _, rfl, hl, hlen, hf⟩ := DataW.trod_struct ht h
  match xs, hlen with
  | [y0, y1, y2, y3, y4], _ => exact ⟨y0, y1, y2, y3, y4, n, hl, by simpa using hf 0 f0 rfl, by simpa using hf 1 f1 rfl, by simpa using hf 2 f2 rfl, by simpa using hf 3 f3 rfl, by simpa using hf 4 f4 rfl⟩
set_option maxRecDepth 100000 in
theorem bids_in {H : Type} {enc : TypeId × Value → H} {W : World} {base : Nat} {sp : Nat → Bool} {hd : Bool} {a : Option Addr} {len cap fuel : Nat} {x : DataW H × List MemPlace}
    (h : DataW.trod enc Try.prog W base sp hd fuel 78 [.slice a len cap] = some x) : ∃ js, IsBids W a len cap js := by
  rcases open_slice Try.underlying78 h with ⟨hcs, _⟩ | ⟨x0, l, c, m, n, D, Pl, hcs, _, hl, hm, hmm, _, hi⟩
  · simp at hcs
    obtain ⟨rfl, rfl, rfl⟩ := hcs
    exact ⟨[], rfl, ⟨fun c hc => (by cases hc), none, 0, rfl, Nat.le_refl _, Nat.zero_le _, fun h => absurd rfl h⟩, fun j hj => (by cases hj)⟩
  · simp at hcs
    obtain ⟨rfl, rfl, rfl⟩ := hcs
    have hlm : len ≤ m := by rw [hmm]; split <;> omega
    have each : ∀ i, i < len → ∃ r : BidD, (∀ j u, (bidCells r)[j]? = some u → W.cell? ((x0.add (i * 5)).add j) = some u) ∧ r.wide := by
      intro i hil
      obtain ⟨cs', h1, h2⟩ := hi i (by omega)
      rw [cellsBid] at h1
      obtain ⟨y0, y1, y2, y3, y4, n', hlen, g0, g1, g2, g3, g4⟩ := trod_struct5 Try.underlying158 h2
      rw [cellsBid] at hlen
      obtain ⟨_, _, hat⟩ := World.cells?_some h1
      obtain ⟨c0, c1, c2, c3, c4, rfl⟩ := list5 hlen
      · skip
        simp [show Try.prog.cellsOf 3 = 1 by kernel_rfl] at g0 g1 g2 g3 g4
        obtain ⟨z0, e0, _, w0⟩ := DataW.trod_int Try.underlying3 g0
        obtain ⟨z1, e1, _, w1⟩ := DataW.trod_int Try.underlying3 g1
        obtain ⟨z2, e2, _, w2⟩ := DataW.trod_int Try.underlying3 g2
        obtain ⟨z3, e3, _, w3⟩ := DataW.trod_int Try.underlying3 g3
        obtain ⟨z4, e4, _, w4⟩ := DataW.trod_int Try.underlying3 g4
        simp at e0 e1 e2 e3 e4
        subst e0 e1 e2 e3 e4
        refine ⟨⟨z0, z1, z2, z3, z4⟩, fun j u hu => ?_, wf_i64 w0, wf_i64 w1, wf_i64 w2, wf_i64 w3, wf_i64 w4⟩
        have hj : j < 5 := (List.getElem?_eq_some_iff.1 hu).1
        have hc := hat j hj
        rw [hc]
        exact hu
    have hx : 0 < len → ∃ b off, x0 = ⟨b, off, none⟩ ∧ b < W.heap.size := by
      intro hp
      obtain ⟨r, hr, _⟩ := each 0 hp
      have h0 := hr 0 _ rfl
      obtain ⟨b, off, spot⟩ := x0
      have hs : spot = none := by
        have := World.cell?_spot h0
        unfold Addr.add at this
        simpa using this
      subst hs
      have hb := World.block_lt_of_cell? _ _ h0
      rw [addr_add_none, addr_add_none] at hb
      exact ⟨b, off, rfl, hb⟩
    obtain ⟨f, hf⟩ : ∃ f : Nat → BidD, ∀ i, i < len → (∀ j u, (bidCells (f i))[j]? = some u → W.cell? ((x0.add (i * 5)).add j) = some u) ∧ (f i).wide := by
      refine ⟨fun i => if h : i < len then Classical.choose (each i h) else ⟨0, 0, 0, 0, 0⟩, fun i h => ?_⟩
      dsimp only
      rw [dif_pos h]
      exact Classical.choose_spec (each i h)
    have hat : ∀ i c, (((List.range len).map f).map bidCells)[i]? = some c → i < len ∧ c = bidCells (f i) := by
      intro i c hc
      rw [List.map_map, List.getElem?_map] at hc
      by_cases hil : i < len
      · rw [List.getElem?_range hil] at hc
        simp at hc
        exact ⟨hil, hc.symm⟩
      · rw [List.getElem?_eq_none (by simpa using hil)] at hc
        cases hc
    refine ⟨(List.range len).map f, by simp, ⟨fun c hc => ?_, some x0, cap, ?_, ?_, ?_, fun hne => ?_⟩, fun j hj => ?_⟩
    · obtain ⟨i, hi⟩ := List.getElem?_of_mem hc
      rw [(hat i c hi).2]; rfl
    · simp
    · simpa using hl
    · exact hm
    · have hp : 0 < len := by
        rcases Nat.eq_zero_or_pos len with h | h
        · subst h; simp at hne
        · exact h
      obtain ⟨b, off, rfl, hb⟩ := hx hp
      refine ⟨b, off, rfl, hb, fun i c hc j u hu => ?_⟩
      obtain ⟨hil, rfl⟩ := hat i c hc
      have := (hf i hil).1 j u hu
      rw [addr_add_none, addr_add_none] at this
      exact this
    · obtain ⟨i, hi, rfl⟩ := List.mem_map.1 hj
      exact (hf i (List.mem_range.1 hi)).2
end Go.Proofs.Ytllemhknmleklaa
