
/- A queue of acts: plain. -/
import Derived.Test.YteadfobfenopkaaActs
set_option linter.unusedVariables false
namespace Go.Proofs.Yteadfobfenopkaa
open Go Go.RowKit Wc

structure JobD where
  push : Bool
  act : ActD
  num : Nat
structure DoneD where
  code : Nat
  merged : Bool
  acts : List ActD
def ActD.same (x y : ActD) : Bool := decide (x.n = y.n ∧ x.k = y.k)
def qstep (q : List ActD) (j : JobD) : List ActD × DoneD :=
  if j.push then
    match q.findIdx? (fun x => x.same j.act) with
    | some i => (q.set i j.act, ⟨0, true, []⟩)
    | none => if q.length = 8 then (q, ⟨9, false, []⟩) else (q ++ [j.act], ⟨0, false, []⟩)
  else if q.length = 0 then (q, ⟨7, false, []⟩) else (q.drop j.num, ⟨0, false, q.take j.num⟩)
def qrun : List ActD → List JobD → List DoneD
  | _, [] => []
  | q, j :: l => (qstep q j).2 :: qrun (qstep q j).1 l
def qend : List ActD → List JobD → List ActD
  | q, [] => q
  | q, j :: l => qend (qstep q j).1 l
/-- An act that may wait; a job that may be. -/
def ActD.ok (x : ActD) : Prop := VP false x.n x.k ∧ x.hop ≤ 999 ∧ x.a = 0 ∧ ((x.kind = 1 ∧ 1 ≤ x.hop) ∨ x.kind = 2)
def JobD.ok (j : JobD) : Prop := (j.push = true ∧ j.act.ok ∧ j.num = 0) ∨ (j.push = false ∧ j.act = actZ ∧ 1 ≤ j.num ∧ j.num ≤ 8)

theorem qrun_len : ∀ (q : List ActD) (l : List JobD), (qrun q l).length = l.length
  | _, [] => rfl
  | q, j :: l => by show (qrun _ l).length + 1 = _; rw [qrun_len]; rfl
theorem qrun_app : ∀ (q : List ActD) (a b : List JobD), qrun q (a ++ b) = qrun q a ++ qrun (qend q a) b
  | _, [], _ => rfl
  | q, j :: a, b => by show _ :: qrun _ (a ++ b) = _; rw [qrun_app]; rfl
theorem qend_app : ∀ (q : List ActD) (a b : List JobD), qend q (a ++ b) = qend (qend q a) b
  | _, [], _ => rfl
  | q, j :: a, b => by show qend _ (a ++ b) = _; rw [qend_app]; rfl
theorem qrun_at {q : List ActD} {l : List JobD} {i : Nat} {j : JobD} (h : l[i]? = some j) :
    (qrun q l)[i]? = some (qstep (qend q (l.take i)) j).2 ∧ qend q (l.take (i + 1)) = (qstep (qend q (l.take i)) j).1 := by
  obtain ⟨hi, rfl⟩ := List.getElem?_eq_some_iff.1 h
  have e : l = l.take i ++ l[i] :: l.drop (i + 1) := by rw [← List.drop_eq_getElem_cons hi, List.take_append_drop]
  have hl : (l.take i).length = i := by rw [List.length_take]; omega
  constructor
  · have e2 : qrun q l = qrun q (l.take i) ++ qrun (qend q (l.take i)) (l[i] :: l.drop (i + 1)) := by rw [← qrun_app, ← e]
    rw [e2, List.getElem?_append_right (by rw [qrun_len, hl]; exact Nat.le_refl _), qrun_len, hl, Nat.sub_self]
    rfl
  · rw [List.take_succ_eq_append_getElem hi, qend_app]
    rfl
theorem findIdx_len {q : List ActD} {p : ActD → Bool} {i : Nat} (h : q.findIdx? p = some i) : ∃ x, q[i]? = some x ∧ p x = true ∧ ∀ j y, j < i → q[j]? = some y → p y = false := by
  obtain ⟨hi, h1, h2⟩ := List.findIdx?_eq_some_iff_getElem.1 h
  refine ⟨q[i], List.getElem?_eq_getElem hi, h1, fun j y hj hy => ?_⟩
  obtain ⟨hjl, rfl⟩ := List.getElem?_eq_some_iff.1 hy
  simpa using h2 j hj
theorem findIdx_none {q : List ActD} {p : ActD → Bool} (h : q.findIdx? p = none) {j : Nat} {y : ActD} (hy : q[j]? = some y) : p y = false :=
  List.findIdx?_eq_none_iff.1 h y (List.mem_of_getElem? hy)
/-- The cases of a step. -/
theorem qstep_cases (q : List ActD) (j : JobD) :
    (j.push = true ∧ ∃ i x, q[i]? = some x ∧ x.same j.act = true ∧ (∀ (m : Nat) (y : ActD), m < i → q[m]? = some y → y.same j.act = false) ∧ qstep q j = (q.set i j.act, ⟨0, true, []⟩)) ∨
    (j.push = true ∧ (∀ (m : Nat) (y : ActD), q[m]? = some y → y.same j.act = false) ∧ ((q.length = 8 ∧ qstep q j = (q, ⟨9, false, []⟩)) ∨ (q.length ≠ 8 ∧ qstep q j = (q ++ [j.act], ⟨0, false, []⟩)))) ∨
    (j.push = false ∧ q.length = 0 ∧ qstep q j = (q, ⟨7, false, []⟩)) ∨
    (j.push = false ∧ 0 < q.length ∧ qstep q j = (q.drop j.num, ⟨0, false, q.take j.num⟩)) := by
  unfold qstep
  by_cases hp : j.push = true
  · rw [if_pos hp]
    cases hf : q.findIdx? (fun x => x.same j.act) with
    | some i =>
      obtain ⟨x, h1, h2, h3⟩ := findIdx_len hf
      exact .inl ⟨hp, i, x, h1, h2, h3, rfl⟩
    | none =>
      refine .inr (.inl ⟨hp, fun m y hy => findIdx_none hf hy, ?_⟩)
      by_cases h8 : q.length = 8
      · exact .inl ⟨h8, by simp [h8]⟩
      · exact .inr ⟨h8, by simp [h8]⟩
  · rw [if_neg hp]
    have hp' : j.push = false := by simpa using hp
    by_cases h0 : q.length = 0
    · exact .inr (.inr (.inl ⟨hp', h0, by simp [h0]⟩))
    · exact .inr (.inr (.inr ⟨hp', by omega, by simp [h0]⟩))
theorem same_iff (x y : ActD) : x.same y = true ↔ x.n = y.n ∧ x.k = y.k := by unfold ActD.same; simp
theorem qstep_len {q : List ActD} (j : JobD) (h : q.length ≤ 8) : (qstep q j).1.length ≤ 8 := by
  rcases qstep_cases q j with ⟨_, i, x, _, _, _, e⟩ | ⟨_, _, ⟨_, e⟩ | ⟨_, e⟩⟩ | ⟨_, _, e⟩ | ⟨_, _, e⟩ <;> rw [e] <;> simp <;> omega
theorem qend_len : ∀ {q : List ActD} (l : List JobD), q.length ≤ 8 → (qend q l).length ≤ 8
  | _, [], h => h
  | _, j :: l, h => qend_len l (qstep_len j h)
theorem qstep_ok {q : List ActD} {j : JobD} (h : ∀ x ∈ q, x.ok) (hj : j.ok) : ∀ x ∈ (qstep q j).1, x.ok := by
  rcases qstep_cases q j with ⟨hp, i, x, _, _, _, e⟩ | ⟨hp, _, ⟨_, e⟩ | ⟨_, e⟩⟩ | ⟨_, _, e⟩ | ⟨_, _, e⟩ <;> rw [e] <;> intro x hx
  · rcases List.mem_or_eq_of_mem_set hx with hx | rfl
    · exact h x hx
    · rcases hj with ⟨_, hj, _⟩ | ⟨hn, _⟩
      · exact hj
      · rw [hp] at hn; cases hn
  · exact h x hx
  · rcases List.mem_append.1 hx with hx | hx
    · exact h x hx
    · simp at hx; subst hx
      rcases hj with ⟨_, hj, _⟩ | ⟨hn, _⟩
      · exact hj
      · rw [hp] at hn; cases hn
  · exact h x hx
  · exact h x (List.mem_of_mem_drop hx)
theorem qend_ok : ∀ {q : List ActD} {l : List JobD}, (∀ x ∈ q, x.ok) → (∀ j ∈ l, JobD.ok j) → ∀ x ∈ qend q l, x.ok
  | _, [], h, _ => h
  | q, j :: l, h, hl => qend_ok (q := (qstep q j).1) (l := l) (qstep_ok h (hl j (by simp))) (fun x hx => hl x (by simp [hx]))
end Go.Proofs.Yteadfobfenopkaa
