
/- Plain laws on queues: what the statements say. -/
import Derived.Test.YteadfobfenopkaaQPl
set_option linter.unusedVariables false
namespace Go.Proofs.Yteadfobfenopkaa
open Go Go.RowKit Wc

/-- The prefix of an act as a pair. -/
def ActD.pre (x : ActD) : Nat × Nat := (x.n, x.k)
theorem same_pre (x y : ActD) : x.same y = true ↔ x.pre = y.pre := by
  rw [same_iff]; unfold ActD.pre; simp
theorem pull_step {q : List ActD} {j : JobD} (hp : j.push = false) (hn : 1 ≤ j.num) :
    ((qstep q j).2.code = 7 ↔ q.length = 0) ∧ (qstep q j).2.acts = q.take j.num ∧ (qstep q j).1 = q.drop (qstep q j).2.acts.length ∧ (qstep q j).2.merged = false := by
  rcases qstep_cases q j with ⟨h, _⟩ | ⟨h, _⟩ | ⟨_, h0, e⟩ | ⟨_, h0, e⟩
  · rw [hp] at h; cases h
  · rw [hp] at h; cases h
  · rw [e]
    have : q = [] := List.length_eq_zero_iff.1 h0
    subst this
    simp
  · rw [e]
    refine ⟨⟨fun h => by simp at h, fun h => by omega⟩, rfl, ?_, rfl⟩
    simp only [List.length_take]
    by_cases h : j.num ≤ q.length
    · rw [Nat.min_eq_left h]
    · rw [Nat.min_eq_right (by omega), List.drop_of_length_le (by omega), List.drop_of_length_le (Nat.le_refl _)]
theorem push_step {q : List ActD} {j : JobD} (hp : j.push = true) :
    (qstep q j).2.merged = q.any (fun x => decide (x.pre = j.act.pre)) ∧ ((qstep q j).2.code = 9 ↔ (qstep q j).2.merged = false ∧ q.length = 8) ∧ ((qstep q j).2.code = 0 ∨ (qstep q j).2.code = 9) ∧ (qstep q j).2.acts = [] ∧
      (qstep q j).1.map ActD.pre = if (qstep q j).2.code = 0 ∧ (qstep q j).2.merged = false then q.map ActD.pre ++ [j.act.pre] else q.map ActD.pre := by
  rcases qstep_cases q j with ⟨_, i, x, hx, hs, hno, e⟩ | ⟨_, hno, h⟩ | ⟨h, _⟩ | ⟨h, _⟩
  · rw [e]
    have hi := (List.getElem?_eq_some_iff.1 hx).1
    refine ⟨?_, by simp, .inl rfl, rfl, ?_⟩
    · symm
      show _ = true
      rw [List.any_eq_true]
      exact ⟨x, List.mem_of_getElem? hx, by rw [decide_eq_true_iff]; exact (same_pre _ _).1 hs⟩
    · simp only [Bool.true_eq_false, and_false, if_false]
      apply List.ext_getElem?
      intro k
      rw [List.getElem?_map, List.getElem?_map, List.getElem?_set]
      by_cases hk : i = k
      · subst hk
        rw [if_pos rfl, if_pos hi, hx]
        simp only [Option.map_some, Option.some.injEq]
        exact ((same_pre _ _).1 hs).symm
      · rw [if_neg hk]
  · have ha : q.any (fun x => decide (x.pre = j.act.pre)) = false := by
      rw [List.any_eq_false]
      intro x hx
      obtain ⟨m, hm⟩ := List.getElem?_of_mem hx
      have := hno m x hm
      intro h
      rw [decide_eq_true_iff] at h
      rw [(same_pre _ _).2 h] at this
      cases this
    rcases h with ⟨h8, e⟩ | ⟨h8, e⟩
    · rw [e, ha]; exact ⟨rfl, by simp [h8], .inr rfl, rfl, by simp⟩
    · rw [e, ha]; exact ⟨rfl, by simp [h8], .inl rfl, rfl, by simp [ActD.pre]⟩
  · rw [hp] at h; cases h
  · rw [hp] at h; cases h

/-- All is pulled: the queue is empty. -/
theorem pull_all {q : List ActD} (h : q.length ≤ 8) : (qstep q ⟨false, actZ, 8⟩).1 = [] := by
  rcases qstep_cases q ⟨false, actZ, 8⟩ with ⟨h, _⟩ | ⟨h, _⟩ | ⟨_, h0, e⟩ | ⟨_, h0, e⟩
  · cases h
  · cases h
  · rw [e]; exact List.length_eq_zero_iff.1 h0
  · rw [e]; exact List.drop_of_length_le h
theorem parts_at (a b : List JobD) (i : Nat) (hi : i < b.length) :
    (qrun [] ((a ++ [⟨false, actZ, 8⟩]) ++ b))[a.length + 1 + i]? = (qrun [] b)[i]? := by
  rw [qrun_app, qend_app]
  have h1 : qend (qend [] a) [⟨false, actZ, 8⟩] = [] := pull_all (qend_len a (by decide))
  rw [h1, List.getElem?_append_right (by rw [qrun_len]; simp), qrun_len]
  congr 1
  simp

/-- The jobs, each Push twice. -/
def dup : List JobD → List JobD
  | [] => []
  | j :: l => if j.push then j :: j :: dup l else j :: dup l
theorem dup_app : ∀ (a b : List JobD), dup (a ++ b) = dup a ++ dup b
  | [], b => rfl
  | j :: a, b => by
    show (if j.push then j :: j :: dup (a ++ b) else j :: dup (a ++ b)) = (if j.push then j :: j :: dup a else j :: dup a) ++ dup b
    rw [dup_app a b]
    split <;> rfl
theorem dup_one (j : JobD) : dup [j] = if j.push then [j, j] else [j] := by unfold dup; split <;> rfl
theorem dup_snoc (l : List JobD) {j : JobD} {m : Nat} (h : l[m]? = some j) : dup (l.take (m + 1)) = dup (l.take m) ++ (if j.push then [j, j] else [j]) := by
  rw [List.take_add_one, h, dup_app]
  show _ ++ dup [j] = _
  rw [dup_one]
theorem dup_len : ∀ l : List JobD, (dup l).length ≤ 2 * l.length
  | [] => Nat.le_refl _
  | j :: l => by
    have := dup_len l
    unfold dup
    split <;> simp <;> omega
theorem dup_ok {l : List JobD} (h : ∀ j ∈ l, JobD.ok j) : ∀ j ∈ dup l, JobD.ok j := by
  induction l with
  | nil => intro j hj; cases hj
  | cons x l ih =>
    have ih := ih (fun j hj => h j (by simp [hj]))
    have hx := h x (by simp)
    intro j hj
    unfold dup at hj
    split at hj
    · simp at hj
      rcases hj with rfl | hj
      · exact hx
      · exact ih j hj
    · simp at hj
      rcases hj with rfl | hj
      · exact hx
      · exact ih j hj
theorem findIdx_at {q : List ActD} {p : ActD → Bool} {i : Nat} {x : ActD} (h1 : q[i]? = some x) (h2 : p x = true) (h3 : ∀ (m : Nat) (y : ActD), m < i → q[m]? = some y → p y = false) : q.findIdx? p = some i := by
  rw [List.findIdx?_eq_some_iff_getElem]
  obtain ⟨hi, rfl⟩ := List.getElem?_eq_some_iff.1 h1
  exact ⟨hi, h2, fun j hj => by simp [h3 j _ hj (List.getElem?_eq_getElem (by omega))]⟩
/-- A Push once more. -/
theorem push_twice {q : List ActD} {j : JobD} (hp : j.push = true) : (qstep (qstep q j).1 j).1 = (qstep q j).1 ∧ ((qstep q j).2.code = 0 → (qstep (qstep q j).1 j).2.merged = true) := by
  rcases qstep_cases q j with ⟨_, i, x, hx, hs, hno, e⟩ | ⟨_, hno, h⟩ | ⟨h, _⟩ | ⟨h, _⟩
  · rw [e]
    have hi := (List.getElem?_eq_some_iff.1 hx).1
    have hf : (q.set i j.act).findIdx? (fun x => x.same j.act) = some i := findIdx_at (x := j.act) (by rw [List.getElem?_set, if_pos rfl, if_pos hi]) ((same_iff _ _).2 ⟨rfl, rfl⟩) (fun m y hm hy => by
      rw [List.getElem?_set, if_neg (by omega)] at hy
      exact hno m y hm hy)
    unfold qstep
    rw [if_pos hp]
    simp only [hf]
    exact ⟨by rw [List.set_set], fun _ => trivial⟩
  · rcases h with ⟨h8, e⟩ | ⟨h8, e⟩
    · rw [e]
      exact ⟨by rw [e], fun h => by simp at h⟩
    · rw [e]
      have hf : (q ++ [j.act]).findIdx? (fun x => x.same j.act) = some q.length := findIdx_at (x := j.act) (by simp) ((same_iff _ _).2 ⟨rfl, rfl⟩) (fun m y hm hy => by
        rw [List.getElem?_append_left hm] at hy
        exact hno m y hy)
      unfold qstep
      rw [if_pos hp]
      simp only [hf]
      refine ⟨?_, fun _ => trivial⟩
      simp
  · rw [hp] at h; cases h
  · rw [hp] at h; cases h
theorem qend_dup : ∀ (q : List ActD) (l : List JobD), qend q (dup l) = qend q l
  | _, [] => rfl
  | q, j :: l => by
    unfold dup
    split
    · rename_i hp
      show qend (qstep (qstep q j).1 j).1 (dup l) = qend (qstep q j).1 l
      rw [(push_twice hp).1, qend_dup]
    · show qend (qstep q j).1 (dup l) = _
      rw [qend_dup]; rfl
/-- Where a job of the list comes to lie in the doubled list, what both come to. -/
theorem once_at {l : List JobD} {m : Nat} {j : JobD} (h : l[m]? = some j) :
    (qrun [] (dup l))[(dup (l.take m)).length]? = (qrun [] l)[m]? ∧
    (j.push = true → ∃ d, (qrun [] (dup l))[(dup (l.take m)).length + 1]? = some d ∧ ∀ a, (qrun [] l)[m]? = some a → a.code = 0 → d.merged = true) := by
  have hm := (List.getElem?_eq_some_iff.1 h).1
  have e : l = l.take m ++ j :: l.drop (m + 1) := by
    obtain ⟨_, h2⟩ := List.getElem?_eq_some_iff.1 h
    rw [← h2, ← List.drop_eq_getElem_cons hm, List.take_append_drop]
  have hx : (qrun [] l)[m]? = some (qstep (qend [] (l.take m)) j).2 := (qrun_at h).1
  have e2 : qrun [] (dup l) = qrun [] (dup (l.take m)) ++ qrun (qend [] (l.take m)) (dup (j :: l.drop (m + 1))) := by
    conv => lhs; rw [e]
    rw [dup_app, qrun_app, qend_dup]
  have hl : (qrun [] (dup (l.take m))).length = (dup (l.take m)).length := qrun_len _ _
  rw [hx]
  constructor
  · rw [e2, List.getElem?_append_right (by omega), hl, Nat.sub_self]
    unfold dup
    split <;> rfl
  · intro hp
    refine ⟨(qstep (qstep (qend [] (l.take m)) j).1 j).2, ?_, fun a ha hc => ?_⟩
    · rw [e2, List.getElem?_append_right (by omega), hl, show (dup (l.take m)).length + 1 - (dup (l.take m)).length = 1 by omega]
      unfold dup
      rw [if_pos hp]
      rfl
    · cases ha
      exact (push_twice hp).2 hc
end Go.Proofs.Yteadfobfenopkaa
