
/- PairWait: the plain law. -/
import Derived.Test.YtllemhknmleklaaPrP
set_option linter.unusedVariables false
namespace Go.Proofs.Ytllemhknmleklaa
open Go Go.RowKit Wc

theorem wstep_R (s : PSt) : (wstep s).R = s.R ∧ (wstep s).se = s.se := by
  unfold wstep
  split
  · exact ⟨rfl, rfl⟩
  · split
    · exact ⟨rfl, rfl⟩
    · split
      · exact ⟨rfl, rfl⟩
      · split
        · split <;> exact ⟨rfl, rfl⟩
        · split <;> exact ⟨rfl, rfl⟩
theorem rstep_se (s : PSt) (n : Nat) : ∃ t, (rstep s n).se = s.se ++ t := by
  unfold rstep
  split
  · exact ⟨[], (List.append_nil _).symm⟩
  · split
    · exact ⟨[], (List.append_nil _).symm⟩
    · split
      · exact ⟨[], (List.append_nil _).symm⟩
      · split
        · exact ⟨_, rfl⟩
        · exact ⟨[], (List.append_nil _).symm⟩
theorem pstep_se (s : PSt) (n : Nat) : ∃ t, (pstep s n).se = s.se ++ t := by
  unfold pstep
  split
  · exact ⟨[], by rw [(wstep_R s).2, List.append_nil]⟩
  · exact rstep_se s n
theorem prun_se : ∀ (l : List Nat) (s : PSt), ∃ t, (prun s l).se = s.se ++ t
  | [], s => ⟨[], (List.append_nil _).symm⟩
  | n :: l, s => by
    obtain ⟨t1, h1⟩ := pstep_se s n
    obtain ⟨t2, h2⟩ := prun_se l (pstep s n)
    exact ⟨t1 ++ t2, by show (prun (pstep s n) l).se = _; rw [h2, h1, List.append_assoc]⟩
/-- How far the readers are: after so many steps of each. -/
def Wt (s : PSt) (L c : Nat → Nat) : Prop := ∀ n, n < 4 → (s.R n).todo.length = L n - min (c n) (4 * L n) / 4 ∧ (s.R n).at_ = min (c n) (4 * L n) % 4
theorem Wt.w {s : PSt} {L c : Nat → Nat} (h : Wt s L c) : Wt (wstep s) L c := fun n hn => by rw [(wstep_R s).1]; exact h n hn
theorem Wt.r {s : PSt} {L c : Nat → Nat} (h : Wt s L c) {n : Nat} (hn : n < 4) :
    Wt (rstep s n) L (up c n (c n + 1)) ∧ (((c n + 1) % 4 = 3 ∧ c n + 1 ≤ 4 * L n ∧ ∃ x : SeenD, x.rd = n ∧ (rstep s n).se = s.se ++ [x]) ∨ (¬ ((c n + 1) % 4 = 3 ∧ c n + 1 ≤ 4 * L n) ∧ (rstep s n).se = s.se)) := by
  obtain ⟨h1, h2⟩ := h n hn
  cases ht : (s.R n).todo with
  | nil =>
    have e : rstep s n = s := by unfold rstep; rw [ht]
    rw [ht, List.length_nil] at h1
    rw [e]
    refine ⟨fun m hm => ?_, .inr ⟨by omega, rfl⟩⟩
    by_cases e : m = n
    · subst e
      rw [up_same, ht, List.length_nil, h2]
      constructor <;> omega
    · rw [up_other _ _ e]
      exact h m hm
  | cons a l =>
    rw [ht, List.length_cons] at h1
    have hw : ∀ (R : RdS) (s' : PSt), s'.R = up s.R n R → R.todo.length = L n - min (c n + 1) (4 * L n) / 4 → R.at_ = min (c n + 1) (4 * L n) % 4 → Wt s' L (up c n (c n + 1)) := fun R s' e1 e2 e3 m hm => by
      rw [e1]
      by_cases e : m = n
      · subst e
        rw [up_same, up_same]
        exact ⟨e2, e3⟩
      · rw [up_other _ _ e, up_other _ _ e]
        exact h m hm
    unfold rstep
    rw [ht]
    dsimp only
    by_cases h0 : (s.R n).at_ = 0
    · rw [if_pos h0]
      exact ⟨hw _ _ rfl (by rw [List.length_cons]; omega) (by show 1 = _; omega), .inr ⟨by omega, rfl⟩⟩
    · rw [if_neg h0]
      by_cases h3 : (s.R n).at_ = 1
      · rw [if_pos h3]
        exact ⟨hw _ _ rfl (by rw [List.length_cons]; omega) (by show 2 = _; omega), .inr ⟨by omega, rfl⟩⟩
      · rw [if_neg h3]
        by_cases h4 : (s.R n).at_ = 2
        · rw [if_pos h4]
          exact ⟨hw _ _ rfl (by rw [List.length_cons]; omega) (by show 3 = _; omega), .inl ⟨by omega, by omega, _, rfl, rfl⟩⟩
        · rw [if_neg h4]
          exact ⟨hw _ _ rfl (by show l.length = _; omega) (by show 0 = _; omega), .inr ⟨by omega, rfl⟩⟩
def looksN (al : List AskD) (n : Nat) : Nat := ((pasks al).R n).todo.length
theorem wait_zero {al : List AskD} (h : ∀ a ∈ al, a.ok) : Wt (pasks al) (looksN al) (fun _ => 0) := fun n hn => by
  refine ⟨by show looksN al n = _; simp, by rw [(pasks_ok h).2.2.2.1 n]; simp⟩
/-- One pick of PairWait's loop. -/
theorem wait_step {al : List AskD} {pl : List Nat} {c : Nat → Nat} {i n : Nat} (h : Wt (prun (pasks al) (pl.take i)) (looksN al) c) (hi : pl[i]? = some n) (hn : n ≤ 4) :
    (n = 4 ∧ Wt (prun (pasks al) (pl.take (i + 1))) (looksN al) c ∧ (prun (pasks al) (pl.take (i + 1))).se.length = (prun (pasks al) (pl.take i)).se.length) ∨
    (n < 4 ∧ Wt (prun (pasks al) (pl.take (i + 1))) (looksN al) (up c n (c n + 1)) ∧
      (((c n + 1) % 4 = 3 ∧ c n + 1 ≤ 4 * looksN al n ∧ (prun (pasks al) (pl.take (i + 1))).se.length = (prun (pasks al) (pl.take i)).se.length + 1 ∧ ∃ x : SeenD, x.rd = n ∧ (prun (pasks al) pl).se[(prun (pasks al) (pl.take i)).se.length]? = some x) ∨
       (¬ ((c n + 1) % 4 = 3 ∧ c n + 1 ≤ 4 * looksN al n) ∧ (prun (pasks al) (pl.take (i + 1))).se.length = (prun (pasks al) (pl.take i)).se.length))) := by
  have e : prun (pasks al) (pl.take (i + 1)) = pstep (prun (pasks al) (pl.take i)) n := by rw [List.take_add_one, hi]; exact prun_snoc _ _ _
  obtain ⟨t, ht⟩ := prun_se (pl.drop (i + 1)) (prun (pasks al) (pl.take (i + 1)))
  rw [← prun_app, List.take_append_drop] at ht
  rw [e] at ht ⊢
  generalize prun (pasks al) (pl.take i) = s at *
  by_cases h4 : n = 4
  · subst h4
    refine .inl ⟨rfl, ?_, ?_⟩
    · exact h.w
    · show (wstep s).se.length = _
      rw [(wstep_R s).2]
  · have e2 : pstep s n = rstep s n := by unfold pstep; rw [if_neg h4]
    rw [e2] at ht ⊢
    obtain ⟨h1, h2⟩ := h.r (n := n) (by omega)
    refine .inr ⟨by omega, h1, ?_⟩
    rcases h2 with ⟨g1, g2, x, g3, g4⟩ | ⟨g1, g2⟩
    · refine .inl ⟨g1, g2, by rw [g4]; simp, x, g3, ?_⟩
      rw [ht, g4, List.append_assoc, List.getElem?_append_right (Nat.le_refl _), Nat.sub_self]
      rfl
    · exact .inr ⟨g1, by rw [g2]⟩
theorem looks_snoc (al : List AskD) (x : AskD) (n : Nat) : looksN (al ++ [x]) n = if x.rd = true ∧ n = x.n then looksN al n + 1 else looksN al n := by
  unfold looksN
  rw [pasks_snoc]
  unfold pask
  by_cases h : x.rd = true
  · rw [if_pos h]
    by_cases e : n = x.n
    · rw [if_pos ⟨h, e⟩, e]
      show (RdS.todo (up _ _ _ _)).length = _
      rw [up_same]
      simp
    · rw [if_neg (fun g => e g.2)]
      show (RdS.todo (up _ _ _ _)).length = _
      rw [up_other _ _ e]
  · rw [if_neg h, if_neg (fun g => h g.1)]
end Go.Proofs.Ytllemhknmleklaa
