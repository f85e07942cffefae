
/- Plain laws: what two lists of spans have together; what a list of spans leaves. -/
import Derived.Test.YtoecmoicaklbaaaMsN
set_option linter.unusedVariables false
set_option linter.unusedSimpArgs false
namespace Go.Proofs.Ytoecmoicaklbaaa
open Go.RowKit Go.Sort Wc Wk

/-- What two lists of spans have together. -/
def meetL : List (Nat × Nat) → List (Nat × Nat) → List (Nat × Nat)
  | [], _ => []
  | _ :: _, [] => []
  | x :: A, y :: B => (if (if y.2 < x.2 then y.2 else x.2) < (if x.1 < y.1 then y.1 else x.1) then [] else [(if x.1 < y.1 then y.1 else x.1, if y.2 < x.2 then y.2 else x.2)]) ++ (if x.2 < y.2 then meetL A (y :: B) else meetL (x :: A) B)
termination_by a b => a.length + b.length
theorem meetL_nil (A : List (Nat × Nat)) : meetL A [] = [] := by cases A <;> simp [meetL]
theorem meetL_nil' (B : List (Nat × Nat)) : meetL [] B = [] := by simp [meetL]
theorem meetL_cons (x y : Nat × Nat) (A B : List (Nat × Nat)) : meetL (x :: A) (y :: B) = (if (if y.2 < x.2 then y.2 else x.2) < (if x.1 < y.1 then y.1 else x.1) then [] else [(if x.1 < y.1 then y.1 else x.1, if y.2 < x.2 then y.2 else x.2)]) ++ (if x.2 < y.2 then meetL A (y :: B) else meetL (x :: A) B) := by rw [meetL]
structure Meets (A B S : List (Nat × Nat)) : Prop where
  sep : SepS S
  le : ∀ s ∈ S, s.1 ≤ s.2
  ina : ∀ s ∈ S, ∃ x ∈ A, x.1 ≤ s.1 ∧ s.2 ≤ x.2
  inb : ∀ s ∈ S, ∃ y ∈ B, y.1 ≤ s.1 ∧ s.2 ≤ y.2
  ins : ∀ a, InS S a ↔ InS A a ∧ InS B a
  len : S.length ≤ A.length + B.length
theorem Meets.out {A B R : List (Nat × Nat)} (h : Meets A B R) (lo hi : Nat) (x y : Nat × Nat) (A' B' : List (Nat × Nat)) (hA : ∀ z ∈ A, z ∈ A') (hB : ∀ z ∈ B, z ∈ B') (hx : x ∈ A') (hy : y ∈ B') (hl : A.length + B.length + 1 ≤ A'.length + B'.length)
    (e : lo ≤ hi → x.1 ≤ lo ∧ hi ≤ x.2 ∧ y.1 ≤ lo ∧ hi ≤ y.2) (hs : ∀ s ∈ R, hi + 1 < s.1) (hi' : ∀ a, InS A' a → InS B' a → (lo ≤ a ∧ a ≤ hi) ∨ InS A a ∧ InS B a) : Meets A' B' ((if hi < lo then [] else [(lo, hi)]) ++ R) := by
  have up : ∀ {S T : List (Nat × Nat)} {a : Nat}, (∀ z ∈ S, z ∈ T) → InS S a → InS T a := fun h ⟨s, hs, h1⟩ => ⟨s, h s hs, h1⟩
  by_cases c : hi < lo
  · rw [if_pos c, List.nil_append]
    refine ⟨h.sep, h.le, fun s hs => ?_, fun s hs => ?_, fun a => ?_, by have := h.len; omega⟩
    · obtain ⟨z, hz, k⟩ := h.ina s hs; exact ⟨z, hA z hz, k⟩
    · obtain ⟨z, hz, k⟩ := h.inb s hs; exact ⟨z, hB z hz, k⟩
    · rw [h.ins]
      refine ⟨fun ⟨k1, k2⟩ => ⟨up hA k1, up hB k2⟩, fun ⟨k1, k2⟩ => ?_⟩
      rcases hi' a k1 k2 with k | k
      · omega
      · exact k
  · rw [if_neg c]
    obtain ⟨e1, e2, e3, e4⟩ := e (by omega)
    refine ⟨List.pairwise_cons.2 ⟨fun s hs' => hs s hs', h.sep⟩, fun s hs' => ?_, fun s hs' => ?_, fun s hs' => ?_, fun a => ?_, by simp; have := h.len; omega⟩
    · rcases List.mem_cons.1 hs' with rfl | hs'
      · show lo ≤ hi; omega
      · exact h.le s hs'
    · rcases List.mem_cons.1 hs' with rfl | hs'
      · exact ⟨x, hx, e1, e2⟩
      · obtain ⟨z, hz, k⟩ := h.ina s hs'; exact ⟨z, hA z hz, k⟩
    · rcases List.mem_cons.1 hs' with rfl | hs'
      · exact ⟨y, hy, e3, e4⟩
      · obtain ⟨z, hz, k⟩ := h.inb s hs'; exact ⟨z, hB z hz, k⟩
    · rw [List.cons_append, List.nil_append, InS.cons, h.ins]
      constructor
      · rintro (k | ⟨k1, k2⟩)
        · dsimp only at k
          exact ⟨⟨x, hx, by omega, by omega⟩, ⟨y, hy, by omega, by omega⟩⟩
        · exact ⟨up hA k1, up hB k2⟩
      · rintro ⟨k1, k2⟩
        exact hi' a k1 k2
theorem meetL_says : ∀ (A B : List (Nat × Nat)), SepS A → SepS B → (∀ s ∈ A, s.1 ≤ s.2) → (∀ s ∈ B, s.1 ≤ s.2) → Meets A B (meetL A B) := by
  have main : ∀ n (A B : List (Nat × Nat)), A.length + B.length ≤ n → SepS A → SepS B → (∀ s ∈ A, s.1 ≤ s.2) → (∀ s ∈ B, s.1 ≤ s.2) → Meets A B (meetL A B) := by
    intro n
    induction n with
    | zero =>
      intro A B hl _ _ _ _
      obtain rfl := List.eq_nil_of_length_eq_zero (show A.length = 0 by omega)
      rw [meetL_nil']
      exact ⟨List.Pairwise.nil, by simp, by simp, by simp, fun a => by simp [InS], by simp⟩
    | succ n ih =>
      intro A B hl sA sB lA lB
      cases A with
      | nil => rw [meetL_nil']; exact ⟨List.Pairwise.nil, by simp, by simp, by simp, fun a => by simp [InS], by simp⟩
      | cons x A =>
        cases B with
        | nil => rw [meetL_nil]; exact ⟨List.Pairwise.nil, by simp, by simp, by simp, fun a => by simp [InS], by simp⟩
        | cons y B =>
          obtain ⟨p1, p2⟩ := List.pairwise_cons.1 sA
          obtain ⟨q1, q2⟩ := List.pairwise_cons.1 sB
          have hx := lA x (by simp)
          have hy := lB y (by simp)
          rw [meetL_cons]
          by_cases c : x.2 < y.2
          · rw [if_pos c, if_neg (show ¬ y.2 < x.2 by omega)]
            have h := ih A (y :: B) (by simp at hl ⊢; omega) p2 sB (fun s hs => lA s (List.mem_cons_of_mem _ hs)) lB
            refine h.out _ _ x y _ _ (fun z hz => List.mem_cons_of_mem _ hz) (fun z hz => hz) (by simp) (by simp) (by simp; omega) (fun hlo => ?_) (fun s hs => ?_) (fun a k1 k2 => ?_)
            · split at hlo <;> split <;> omega
            · obtain ⟨z, hz, k1, k2⟩ := h.ina s hs
              have := p1 z hz
              omega
            · rcases InS.cons.1 k1 with k | k
              · rcases InS.cons.1 k2 with k' | ⟨t, ht, k3, k4⟩
                · left; split <;> omega
                · have := q1 t ht; omega
              · exact .inr ⟨k, k2⟩
          · rw [if_neg c]
            have e : (if y.2 < x.2 then y.2 else x.2) = y.2 := by split <;> omega
            rw [e]
            have h := ih (x :: A) B (by simp at hl ⊢; omega) sA q2 lA (fun s hs => lB s (List.mem_cons_of_mem _ hs))
            refine h.out _ _ x y _ _ (fun z hz => hz) (fun z hz => List.mem_cons_of_mem _ hz) (by simp) (by simp) (by simp; omega) (fun hlo => ?_) (fun s hs => ?_) (fun a k1 k2 => ?_)
            · split at hlo <;> split <;> omega
            · obtain ⟨z, hz, k1, k2⟩ := h.inb s hs
              have := q1 z hz
              omega
            · rcases InS.cons.1 k2 with k | k
              · rcases InS.cons.1 k1 with k' | ⟨t, ht, k3, k4⟩
                · left; split <;> omega
                · have := p1 t ht; omega
              · exact .inr ⟨k1, k⟩
  exact fun A B => main _ A B (Nat.le_refl _)
theorem meetL_comm {A B : List (Nat × Nat)} (sA : SepS A) (sB : SepS B) (lA : ∀ s ∈ A, s.1 ≤ s.2) (lB : ∀ s ∈ B, s.1 ≤ s.2) : meetL A B = meetL B A := by
  have h1 := meetL_says A B sA sB lA lB
  have h2 := meetL_says B A sB sA lB lA
  exact sep_eq _ _ h1.sep h1.le h2.sep h2.le (fun a => (h1.ins a).trans ((And.comm).trans (h2.ins a).symm))
/-- What a list of spans leaves, from an address on up to the last one. -/
def restL (M : Nat) : Nat → List (Nat × Nat) → List (Nat × Nat)
  | n, [] => [(n, M)]
  | n, s :: S => (if n < s.1 then [(n, s.1 - 1)] else []) ++ restL M (s.2 + 1) S
structure Rests (M n : Nat) (S R : List (Nat × Nat)) : Prop where
  sep : SepS R
  le : ∀ r ∈ R, n ≤ r.1 ∧ r.1 ≤ r.2 ∧ r.2 ≤ M
  ins : ∀ a, InS R a ↔ n ≤ a ∧ a ≤ M ∧ ¬ InS S a
  len : R.length ≤ S.length + 1
theorem restL_says {M : Nat} : ∀ (S : List (Nat × Nat)) (n : Nat), SepS S → (∀ s ∈ S, n ≤ s.1 ∧ s.1 ≤ s.2 ∧ s.2 < M) → n ≤ M → Rests M n S (restL M n S)
  | [], n, _, _, hn => by
    refine ⟨List.pairwise_singleton _ _, fun r hr => ?_, fun a => ?_, by simp [restL]⟩
    · simp only [restL, List.mem_singleton] at hr
      subst hr
      exact ⟨Nat.le_refl _, hn, Nat.le_refl _⟩
    · simp [restL, InS]
  | s :: S, n, hs, hl, hn => by
    obtain ⟨p1, p2⟩ := List.pairwise_cons.1 hs
    have h1 := hl s (by simp)
    have ih := restL_says (M := M) S (s.2 + 1) p2 (fun t ht => by have := p1 t ht; have := hl t (List.mem_cons_of_mem _ ht); omega) (by omega)
    rw [restL]
    by_cases c : n < s.1
    · rw [if_pos c]
      refine ⟨List.pairwise_cons.2 ⟨fun r hr => ?_, ih.sep⟩, fun r hr => ?_, fun a => ?_, by simp; have := ih.len; omega⟩
      · have := ih.le r hr
        dsimp only
        omega
      · rcases List.mem_cons.1 hr with rfl | hr
        · dsimp only; omega
        · have := ih.le r hr; omega
      · rw [List.cons_append, List.nil_append, InS.cons, ih.ins, InS.cons]
        dsimp only
        constructor
        · rintro (k | ⟨k1, k2, k3⟩)
          · refine ⟨k.1, by omega, ?_⟩
            rintro (k4 | ⟨t, ht, k4, k5⟩)
            · omega
            · have := p1 t ht; omega
          · exact ⟨by omega, k2, fun k4 => k4.elim (fun k4 => by omega) k3⟩
        · rintro ⟨k1, k2, k3⟩
          by_cases k4 : a < s.1
          · exact .inl ⟨k1, by omega⟩
          · have k5 : ¬ (s.1 ≤ a ∧ a ≤ s.2) := fun k => k3 (.inl k)
            exact .inr ⟨by omega, k2, fun k => k3 (.inr k)⟩
    · rw [if_neg c, List.nil_append]
      refine ⟨ih.sep, fun r hr => ?_, fun a => ?_, by simp; have := ih.len; omega⟩
      · have := ih.le r hr; omega
      · rw [ih.ins, InS.cons]
        constructor
        · rintro ⟨k1, k2, k3⟩
          exact ⟨by omega, k2, fun k4 => k4.elim (fun k4 => by omega) k3⟩
        · rintro ⟨k1, k2, k3⟩
          have k5 : ¬ (s.1 ≤ a ∧ a ≤ s.2) := fun k => k3 (.inl k)
          exact ⟨by omega, k2, fun k => k3 (.inr k)⟩
end Go.Proofs.Ytoecmoicaklbaaa
