
/- What the way of a hop comes to: one hop further on; with more hops; without one. -/
import Derived.Test.YtllemhknmleklaaVia2
set_option linter.unusedVariables false
namespace Go.Proofs.Ytllemhknmleklaa
open Go.RowKit Go.Sort Wc Wk

theorem portW_code (l : List ViaD) : ∀ (f : Nat) (s : List Nat) (x : Nat), s.length + f = 10 → (portW l f s x).2.2 = 0 ∧ (portW l f s x).2.1 ≤ 8 ∨ ((portW l f s x).2.2 = 7 ∨ (portW l f s x).2.2 = 9 ∨ (portW l f s x).2.2 = 10) ∧ (portW l f s x).1 = 0 ∧ (portW l f s x).2.1 = 0
  | 0, s, x, _ => .inr ⟨.inr (.inl rfl), rfl, rfl⟩
  | f + 1, s, x, hs => by
    cases hv : viaAt l x with
    | none => rw [portW_none hv]; exact .inr ⟨.inl rfl, rfl, rfl⟩
    | some v =>
      rw [portW_some hv]
      by_cases h1 : x ∈ s
      · rw [if_pos h1]; exact .inr ⟨.inr (.inr rfl), rfl, rfl⟩
      · rw [if_neg h1]
        by_cases h2 : 8 < s.length
        · rw [if_pos h2]; exact .inr ⟨.inr (.inl rfl), rfl, rfl⟩
        · rw [if_neg h2]
          by_cases h3 : 0 < v.port
          · rw [if_pos h3]; exact .inl ⟨rfl, by show s.length ≤ 8; omega⟩
          · rw [if_neg h3]
            exact portW_code l f (s ++ [x]) v.next (by simp; omega)

/-- One hop ahead of a way. -/
theorem portW_cons (l : List ViaD) (h : Nat) : ∀ (f : Nat) (s : List Nat) (x : Nat), s.length + f = 9 →
    ((portW l f (h :: s) x).2.2 = 0 ∧ portW l (f + 1) s x = ((portW l f (h :: s) x).1, (portW l f (h :: s) x).2.1 - 1, 0) ∧ 1 ≤ (portW l f (h :: s) x).2.1 ∧ (portW l f (h :: s) x).2.1 ≤ 8) ∨
    ((portW l f (h :: s) x).2.2 = 7 ∧ portW l (f + 1) s x = (0, 0, 7)) ∨ (portW l f (h :: s) x).2.2 = 9 ∨ (portW l f (h :: s) x).2.2 = 10
  | 0, s, x, _ => .inr (.inr (.inl rfl))
  | f + 1, s, x, hs => by
    cases hv : viaAt l x with
    | none => rw [portW_none hv, portW_none hv]; exact .inr (.inl ⟨rfl, rfl⟩)
    | some v =>
      rw [portW_some hv, portW_some hv]
      by_cases h1 : x ∈ h :: s
      · rw [if_pos h1]; exact .inr (.inr (.inr rfl))
      · rw [if_neg h1, if_neg (fun k => h1 (List.mem_cons_of_mem _ k))]
        by_cases h2 : 8 < (h :: s).length
        · rw [if_pos h2]; exact .inr (.inr (.inl rfl))
        · rw [if_neg h2]
          rw [List.length_cons] at h2
          rw [if_neg (show ¬ 8 < s.length by omega)]
          by_cases h3 : 0 < v.port
          · rw [if_pos h3, if_pos h3]
            refine .inl ⟨rfl, ?_, ?_, ?_⟩
            · simp
            · simp
            · show (h :: s).length ≤ 8; rw [List.length_cons]; omega
          · rw [if_neg h3, if_neg h3, List.cons_append]
            exact portW_cons l h f (s ++ [x]) v.next (by simp; omega)

/-- A hop leads where its next leads, one deeper. -/
theorem portW_step {l : List ViaD} {v : ViaD} {h : Nat} (hv : viaAt l h = some v) (hp : v.port = 0) :
    ((portW l 10 [] h).2.2 = 0 ∧ portW l 10 [] v.next = ((portW l 10 [] h).1, (portW l 10 [] h).2.1 - 1, 0) ∧ 1 ≤ (portW l 10 [] h).2.1 ∧ (portW l 10 [] h).2.1 ≤ 8) ∨
    ((portW l 10 [] h).2.2 = 7 ∧ portW l 10 [] v.next = (0, 0, 7)) ∨ (portW l 10 [] h).2.2 = 9 ∨ (portW l 10 [] h).2.2 = 10 := by
  have e : portW l 10 [] h = portW l 9 [h] v.next := by
    rw [portW_some hv, if_neg (by simp), if_neg (by simp), if_neg (by omega)]; rfl
  rw [e]
  exact portW_cons l h 9 [] v.next rfl
theorem portW_port {l : List ViaD} {v : ViaD} {h : Nat} (hv : viaAt l h = some v) (hp : 0 < v.port) : portW l 10 [] h = (v.port, 0, 0) := by
  rw [portW_some hv, if_neg (by simp), if_neg (by simp), if_pos hp]; rfl
theorem viaAt_of {l : List ViaD} (hd : hopsApart l) {i : Nat} {v : ViaD} (hv : l[i]? = some v) : viaAt l v.hop = some v := by
  have := viaF_put l i v hv hd (.int .i64 v.hop) trivial
  obtain ⟨hi, he⟩ := List.getElem?_eq_some_iff.1 hv
  unfold viaAt
  rw [List.find?_eq_some_iff_getElem]
  refine ⟨by simp, i, hi, he, fun j hj => ?_⟩
  have := (List.pairwise_iff_getElem.1 hd) j i (by omega) hi hj
  rw [he] at this
  simp only [Bool.not_eq_true', decide_eq_false_iff_not]
  omega
end Go.Proofs.Ytllemhknmleklaa
