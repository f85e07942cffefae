
/- A slice of the call's own, sorted by slices.SortFunc: what lies there behind it. -/
import Derived.Test.YtoecmoicaklbaaaKit
import Derived.Shelf.GgSortFunc.InsertionK
set_option linter.unusedVariables false
set_option linter.unusedSimpArgs false
namespace Wk
open Go Go.RowKit Go.Sort Go.Proofs

variable {α : Type} [Inhabited α]

theorem flatK_list (enc : α → List Value) (k : Nat) (hk : ∀ x, (enc x).length = k) (d : Array α) : (flatK enc k d).toList = (d.toList.map enc).flatten := by
  have hf : ∀ c ∈ d.toList.map enc, c.length = k := fun c hc => by
    obtain ⟨x, _, rfl⟩ := List.mem_map.1 hc
    exact hk x
  have hl : (d.toList.map enc).flatten.length = d.size * k := by
    obtain ⟨l⟩ := d
    clear hf
    show (l.map enc).flatten.length = l.length * k
    induction l with
    | nil => simp
    | cons x r ih => simp only [List.map_cons, List.flatten_cons, List.length_append, List.length_cons, hk, ih]; rw [Nat.add_mul, Nat.one_mul, Nat.add_comm]
  refine List.ext_getElem? fun t => ?_
  by_cases ht : t < d.size * k
  · have k0 : 0 < k := by
      rcases Nat.eq_zero_or_pos k with h | h
      · subst h; simp at ht
      · exact h
    have hq : t / k < d.size := by rw [Nat.div_lt_iff_lt_mul k0]; exact ht
    have hr : t % k < k := Nat.mod_lt _ k0
    have e1 : t = t / k * k + t % k := by rw [Nat.mul_comm]; exact (Nat.div_add_mod t k).symm
    have g1 : (d.toList.map enc)[t / k]? = some (enc d[t / k]) := by
      rw [List.getElem?_map, Array.getElem?_toList, Array.getElem?_eq_getElem hq]; rfl
    have g2 : (enc d[t / k])[t % k]? = some ((enc d[t / k])[t % k]'(by rw [hk]; exact hr)) := List.getElem?_eq_getElem _
    have := flatten_at hf (t / k) _ g1 (t % k) _ g2
    rw [← e1] at this
    rw [this, Array.getElem?_toList, Array.getElem?_eq_getElem (by simpa using ht)]
    have := get_flatK enc k d t ht
    rw [getElem!_pos (flatK enc k d) t (by simpa using ht), getElem!_pos d _ hq, getElem!_pos (enc d[t / k]) _ (by rw [hk]; exact hr)] at this
    rw [this]
  · rw [List.getElem?_eq_none (by simpa using Nat.le_of_not_lt ht), List.getElem?_eq_none (by rw [hl]; omega)]

theorem holds_own {w : World} {B : Nat} {e : TypeId} {k g n cap : Nat} {enc : α → List Value} (hk : ∀ x, (enc x).length = k) {d : Array α} (h : Own w B e k (.slice (some ⟨g, 0, none⟩) n cap) (d.toList.map enc)) : HoldsK enc k w g 0 d ∧ g < w.heap.size ∧ n = d.size := by
  obtain ⟨hl, h1, h2⟩ := h
  rcases h2 with ⟨h2, _⟩ | ⟨g', cap', cur, hv, hB, hg, hn, hm, hs, ht⟩
  · cases h2
  · simp only [Value.slice.injEq, Option.some.injEq, Addr.mk.injEq, and_true] at hv
    obtain ⟨rfl, hn2, rfl⟩ := hv
    have hd : (d.toList.map enc).length = d.size := by simp
    refine ⟨fun j hj => ?_, (Array.getElem?_eq_some_iff.1 hg).1, by rw [hn2, hd]⟩
    have hj2 : j < d.size * k := by simpa using hj
    have hcur : j < cur.size := by
      rw [hd] at hn
      exact Nat.lt_of_lt_of_le hj2 (by rw [hs]; exact Nat.mul_le_mul_right _ hn)
    have e1 : (flatK enc k d)[j]! = cur[j] := by
      have a1 : (flatK enc k d).toList[j]? = cur.toList[j]? := by
        rw [flatK_list enc k hk, ← ht, List.getElem?_take, if_pos (by rw [hd]; exact hj2)]
      rw [Array.getElem?_toList, Array.getElem?_toList, Array.getElem?_eq_getElem hj, Array.getElem?_eq_getElem hcur] at a1
      rw [getElem!_pos _ j hj]
      exact Option.some.inj a1
    constructor
    · simp [World.cell?, hg, Nat.zero_add, Array.getElem?_eq_getElem hcur, e1]
    · simp [World.frozen?, hg]

theorem grown_sortK {enc : α → List Value} {k : Nat} {w : World} {g m : Nat} {d : Array α} {os : Array Obj} : w.grownBy (sortWorldK enc k w g 0 m d os) (some g) := by
  refine ⟨rfl, rfl, rfl, ?_, ?_⟩
  · simp [sortWorldK, grow, putRowK, putRow, mapBlock, Sort.ahead]
  · intro b hb hne
    have hne2 : g ≠ b := fun h => hne (by rw [h])
    simp only [sortWorldK, grow, putRowK, putRow, mapBlock, Sort.ahead]
    rw [Array.getElem?_append_left (by simpa using hb), Array.getElem?_modify, if_neg hne2]

theorem own_sortK {w : World} {B : Nat} {e : TypeId} {k g n cap : Nat} {enc : α → List Value} (hk : ∀ x, (enc x).length = k) {d d' : Array α} (h : Own w B e k (.slice (some ⟨g, 0, none⟩) n cap) (d.toList.map enc)) (hs : d'.size = d.size) (m : Nat) (os : Array Obj) :
    Own (sortWorldK enc k w g 0 m d' os) B e k (.slice (some ⟨g, 0, none⟩) n cap) (d'.toList.map enc) := by
  obtain ⟨hl, h1, h2⟩ := h
  have hf : ∀ c ∈ d'.toList.map enc, c.length = k := fun c hc => by
    obtain ⟨x, _, rfl⟩ := List.mem_map.1 hc
    exact hk x
  have hln : (d'.toList.map enc).length = (d.toList.map enc).length := by simp [hs]
  refine ⟨hf, ?_, ?_⟩
  · rw [← flatK_list enc k hk]; simp
  · rw [hln]
    rcases h2 with ⟨h2, _⟩ | ⟨g', cap', cur, hv, hB, hg, hn, hm, hsz, ht⟩
    · cases h2
    · refine .inr ⟨g', cap', putCells id 0 (flatK enc k d') cur, hv, hB, ?_, hn, hm, by simp [putCells, hsz], ?_⟩
      · simp only [Value.slice.injEq, Option.some.injEq, Addr.mk.injEq, and_true] at hv
        obtain ⟨rfl, _, _⟩ := hv
        have hlt := (Array.getElem?_eq_some_iff.1 hg).1
        simp only [sortWorldK, grow, putRowK, putRow, mapBlock, Sort.ahead]
        rw [Array.getElem?_append_left (by simpa using hlt), Array.getElem?_modify, if_pos rfl, hg]
        rfl
      · rw [← flatK_list enc k hk]
        have hd : (d.toList.map enc).length = d'.size := by simp [hs]
        rw [hd] at hn ⊢
        have hle : d'.size * k ≤ cur.size := by rw [hsz]; exact Nat.mul_le_mul_right _ hn
        refine List.ext_getElem? fun t => ?_
        rw [List.getElem?_take]
        by_cases htt : t < d'.size * k
        · rw [if_pos htt, Array.getElem?_toList, Array.getElem?_toList]
          have ht2 : t < (flatK enc k d').size := by simpa using htt
          have ht3 : t < (putCells id 0 (flatK enc k d') cur).size := by simp [putCells]; omega
          rw [Array.getElem?_eq_getElem ht2, Array.getElem?_eq_getElem ht3]
          congr 1
          simp only [putCells, Array.getElem_mapIdx, id]
          rw [if_pos ⟨Nat.zero_le _, by simpa using htt⟩, Nat.sub_zero, getElem!_pos _ t ht2]
        · rw [if_neg htt, List.getElem?_eq_none (by simpa using Nat.le_of_not_lt htt)]
end Wk
