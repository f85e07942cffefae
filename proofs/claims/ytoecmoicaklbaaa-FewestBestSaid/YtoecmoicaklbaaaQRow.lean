
/- A queue of acts: plain. -/
import Derived.Test.YtoecmoicaklbaaaActs
set_option linter.unusedVariables false
namespace Go.Proofs.Ytoecmoicaklbaaa
open Go Go.RowKit Wc

structure JobD where
  push : Bool
  act : ActD
  num : Nat
structure DoneD where
  code : Nat
  merged : Bool
  acts : List ActD
def ActD.same (x y : ActD) : Bool := decide (x.n = y.n ∧ x.k = y.k)
def qstep (q : List ActD) (j : JobD) : List ActD × DoneD :=
  if j.push then
    match q.findIdx? (fun x => x.same j.act) with
    | some i => (q.set i j.act, ⟨0, true, []⟩)
    | none => if q.length = 8 then (q, ⟨9, false, []⟩) else (q ++ [j.act], ⟨0, false, []⟩)
  else if q.length = 0 then (q, ⟨7, false, []⟩) else (q.drop j.num, ⟨0, false, q.take j.num⟩)
def qrun : List ActD → List JobD → List DoneD
  | _, [] => []
  | q, j :: l => (qstep q j).2 :: qrun (qstep q j).1 l
def qend : List ActD → List JobD → List ActD
  | q, [] => q
  | q, j :: l => qend (qstep q j).1 l
/-- An act that may wait; a job that may be. -/
def ActD.ok (x : ActD) : Prop := VP false x.n x.k ∧ x.hop ≤ 999 ∧ x.a = 0 ∧ ((x.kind = 1 ∧ 1 ≤ x.hop) ∨ x.kind = 2)
def JobD.ok (j : JobD) : Prop := (j.push = true ∧ j.act.ok ∧ j.num = 0) ∨ (j.push = false ∧ j.act = actZ ∧ 1 ≤ j.num ∧ j.num ≤ 8)

theorem qrun_len : ∀ (q : List ActD) (l : List JobD), (qrun q l).length = l.length
  | _, [] => rfl
  | q, j :: l => by show (qrun _ l).length + 1 = _; rw [qrun_len]; rfl
theorem qrun_app : ∀ (q : List ActD) (a b : List JobD), qrun q (a ++ b) = qrun q a ++ qrun (qend q a) b
  | _, [], _ => rfl
  | q, j :: a, b => by show _ :: qrun _ (a ++ b) = _; rw [qrun_app]; rfl
theorem qend_app : ∀ (q : List ActD) (a b : List JobD), qend q (a ++ b) = qend (qend q a) b
  | _, [], _ => rfl
  | q, j :: a, b => by show qend _ (a ++ b) = _; rw [qend_app]; rfl
theorem qrun_at {q : List ActD} {l : List JobD} {i : Nat} {j : JobD} (h : l[i]? = some j) :
    (qrun q l)[i]? = some (qstep (qend q (l.take i)) j).2 ∧ qend q (l.take (i + 1)) = (qstep (qend q (l.take i)) j).1 := by
  obtain ⟨hi, rfl⟩ := List.getElem?_eq_some_iff.1 h
  have e : l = l.take i ++ l[i] :: l.drop (i + 1) := by rw [← List.drop_eq_getElem_cons hi, List.take_append_drop]
  have hl : (l.take i).length = i := by rw [List.length_take]; omega
  constructor
  · have e2 : qrun q l = qrun q (l.take i) ++ qrun (qend q (l.take i)) (l[i] :: l.drop (i + 1)) := by rw [← qrun_app, ← e]
    rw [e2, List.getElem?_append_right (by rw [qrun_len, hl]; exact Nat.le_refl _), qrun_len, hl, Nat.sub_self]
    rfl
  · rw [List.take_succ_eq_append_getElem hi, qend_app]
    rfl
theorem findIdx_len {q : List ActD} {p : ActD → Bool} {i : Nat} (h : q.findIdx? p = some i) : ∃ x, q[i]? = some x ∧ p x = true ∧ ∀ j y, j < i → q[j]? = some y → p y = false := by
  obtain ⟨hi, h1, h2⟩ := List.findIdx?_eq_some_iff_getElem.1 h
  refine ⟨q[i], List.getElem?_eq_getElem hi, h1, fun j y hj hy => ?_⟩
  obtain ⟨hjl, rfl⟩ := List.getElem?_eq_some_iff.1 hy
  simpa using h2 j hj
theorem findIdx_none {q : List ActD} {p : ActD → Bool} (h : q.findIdx? p = none) {j : Nat} {y : ActD} (hy : q[j]? = some y) : p y = false :=
  List.findIdx?_eq_none_iff.1 h y (List.mem_of_getElem? hy)
/-- The cases of a step. -/
theorem qstep_cases (q : List ActD) (j : JobD) :
    (j.push = true ∧ ∃ i x, q[i]? = some x ∧ x.same j.act = true ∧ (∀ (m : Nat) (y : ActD), m < i → q[m]? = some y → y.same j.act = false) ∧ qstep q j = (q.set i j.act, ⟨0, true, []⟩)) ∨
    (j.push = true ∧ (∀ (m : Nat) (y : ActD), q[m]? = some y → y.same j.act = false) ∧ ((q.length = 8 ∧ qstep q j = (q, ⟨9, false, []⟩)) ∨ (q.length ≠ 8 ∧ qstep q j = (q ++ [j.act], ⟨0, false, []⟩)))) ∨
    (j.push = false ∧ q.length = 0 ∧ qstep q j = (q, ⟨7, false, []⟩)) ∨
    (j.push = false ∧ 0 < q.length ∧ qstep q j = (q.drop j.num, ⟨0, false, q.take j.num⟩)) := by
  unfold qstep
  by_cases hp : j.push = true
  · rw [if_pos hp]
    cases hf : q.findIdx? (fun x => x.same j.act) with
    | some i =>
      obtain ⟨x, h1, h2, h3⟩ := findIdx_len hf
      exact .inl ⟨hp, i, x, h1, h2, h3, rfl⟩
    | none =>
      refine .inr (.inl ⟨hp, fun m y hy => findIdx_none hf hy, ?_⟩)
      by_cases h8 : q.length = 8
      · exact .inl ⟨h8, by simp [h8]⟩
      · exact .inr ⟨h8, by simp [h8]⟩
  · rw [if_neg hp]
    have hp' : j.push = false := by simpa using hp
    by_cases h0 : q.length = 0
    · exact .inr (.inr (.inl ⟨hp', h0, by simp [h0]⟩))
    · exact .inr (.inr (.inr ⟨hp', by omega, by simp [h0]⟩))
theorem same_iff (x y : ActD) : x.same y = true ↔ x.n = y.n ∧ x.k = y.k := by unfold ActD.same; simp
theorem qstep_len {q : List ActD} (j : JobD) (h : q.length ≤ 8) : (qstep q j).1.length ≤ 8 := by
  rcases qstep_cases q j with ⟨_, i, x, _, _, _, e⟩ | ⟨_, _, ⟨_, e⟩ | ⟨_, e⟩⟩ | ⟨_, _, e⟩ | ⟨_, _, e⟩ <;> rw [e] <;> simp <;> omega
theorem qend_len : ∀ {q : List ActD} (l : List JobD), q.length ≤ 8 → (qend q l).length ≤ 8
  | _, [], h => h
  | _, j :: l, h => qend_len l (qstep_len j h)
theorem qstep_ok {q : List ActD} {j : JobD} (h : ∀ x ∈ q, x.ok) (hj : j.ok) : ∀ x ∈ (qstep q j).1, x.ok := by
  rcases qstep_cases q j with ⟨hp, i, x, _, _, _, e⟩ | ⟨hp, _, ⟨_, e⟩ | ⟨_, e⟩⟩ | ⟨_, _, e⟩ | ⟨_, _, e⟩ <;> rw [e] <;> intro x hx
  · rcases List.mem_or_eq_of_mem_set hx with hx | rfl
    · exact h x hx
    · rcases hj with ⟨_, hj, _⟩ | ⟨hn, _⟩
      · exact hj
      · rw [hp] at hn; cases hn
  · exact h x hx
  · rcases List.mem_append.1 hx with hx | hx
    · exact h x hx
    · simp at hx; subst hx
      rcases hj with ⟨_, hj, _⟩ | ⟨hn, _⟩
      · exact hj
      · rw [hp] at hn; cases hn
  · exact h x hx
  · exact h x (List.mem_of_mem_drop hx)
theorem qend_ok : ∀ {q : List ActD} {l : List JobD}, (∀ x ∈ q, x.ok) → (∀ j ∈ l, JobD.ok j) → ∀ x ∈ qend q l, x.ok
  | _, [], h, _ => h
  | q, j :: l, h, hl => qend_ok (q := (qstep q j).1) (l := l) (qstep_ok h (hl j (by simp))) (fun x hx => hl x (by simp [hx]))
end Go.Proofs.Ytoecmoicaklbaaa

/- Plain laws on queues: what the statements say. -/
set_option linter.unusedVariables false
namespace Go.Proofs.Ytoecmoicaklbaaa
open Go Go.RowKit Wc

/-- The prefix of an act as a pair. -/
def ActD.pre (x : ActD) : Nat × Nat := (x.n, x.k)
theorem same_pre (x y : ActD) : x.same y = true ↔ x.pre = y.pre := by
  rw [same_iff]; unfold ActD.pre; simp
theorem pull_step {q : List ActD} {j : JobD} (hp : j.push = false) (hn : 1 ≤ j.num) :
    ((qstep q j).2.code = 7 ↔ q.length = 0) ∧ (qstep q j).2.acts = q.take j.num ∧ (qstep q j).1 = q.drop (qstep q j).2.acts.length ∧ (qstep q j).2.merged = false := by
  rcases qstep_cases q j with ⟨h, _⟩ | ⟨h, _⟩ | ⟨_, h0, e⟩ | ⟨_, h0, e⟩
  · rw [hp] at h; cases h
  · rw [hp] at h; cases h
  · rw [e]
    have : q = [] := List.length_eq_zero_iff.1 h0
    subst this
    simp
  · rw [e]
    refine ⟨⟨fun h => by simp at h, fun h => by omega⟩, rfl, ?_, rfl⟩
    simp only [List.length_take]
    by_cases h : j.num ≤ q.length
    · rw [Nat.min_eq_left h]
    · rw [Nat.min_eq_right (by omega), List.drop_of_length_le (by omega), List.drop_of_length_le (Nat.le_refl _)]
theorem push_step {q : List ActD} {j : JobD} (hp : j.push = true) :
    (qstep q j).2.merged = q.any (fun x => decide (x.pre = j.act.pre)) ∧ ((qstep q j).2.code = 9 ↔ (qstep q j).2.merged = false ∧ q.length = 8) ∧ ((qstep q j).2.code = 0 ∨ (qstep q j).2.code = 9) ∧ (qstep q j).2.acts = [] ∧
      (qstep q j).1.map ActD.pre = if (qstep q j).2.code = 0 ∧ (qstep q j).2.merged = false then q.map ActD.pre ++ [j.act.pre] else q.map ActD.pre := by
  rcases qstep_cases q j with ⟨_, i, x, hx, hs, hno, e⟩ | ⟨_, hno, h⟩ | ⟨h, _⟩ | ⟨h, _⟩
  · rw [e]
    have hi := (List.getElem?_eq_some_iff.1 hx).1
    refine ⟨?_, by simp, .inl rfl, rfl, ?_⟩
    · symm
      show _ = true
      rw [List.any_eq_true]
      exact ⟨x, List.mem_of_getElem? hx, by rw [decide_eq_true_iff]; exact (same_pre _ _).1 hs⟩
    · simp only [Bool.true_eq_false, and_false, if_false]
      apply List.ext_getElem?
      intro k
      rw [List.getElem?_map, List.getElem?_map, List.getElem?_set]
      by_cases hk : i = k
      · subst hk
        rw [if_pos rfl, if_pos hi, hx]
        simp only [Option.map_some, Option.some.injEq]
        exact ((same_pre _ _).1 hs).symm
      · rw [if_neg hk]
  · have ha : q.any (fun x => decide (x.pre = j.act.pre)) = false := by
      rw [List.any_eq_false]
      intro x hx
      obtain ⟨m, hm⟩ := List.getElem?_of_mem hx
      have := hno m x hm
      intro h
      rw [decide_eq_true_iff] at h
      rw [(same_pre _ _).2 h] at this
      cases this
    rcases h with ⟨h8, e⟩ | ⟨h8, e⟩
    · rw [e, ha]; exact ⟨rfl, by simp [h8], .inr rfl, rfl, by simp⟩
    · rw [e, ha]; exact ⟨rfl, by simp [h8], .inl rfl, rfl, by simp [ActD.pre]⟩
  · rw [hp] at h; cases h
  · rw [hp] at h; cases h

/-- All is pulled: the queue is empty. -/
theorem pull_all {q : List ActD} (h : q.length ≤ 8) : (qstep q ⟨false, actZ, 8⟩).1 = [] := by
  rcases qstep_cases q ⟨false, actZ, 8⟩ with ⟨h, _⟩ | ⟨h, _⟩ | ⟨_, h0, e⟩ | ⟨_, h0, e⟩
  · cases h
  · cases h
  · rw [e]; exact List.length_eq_zero_iff.1 h0
  · rw [e]; exact List.drop_of_length_le h
theorem parts_at (a b : List JobD) (i : Nat) (hi : i < b.length) :
    (qrun [] ((a ++ [⟨false, actZ, 8⟩]) ++ b))[a.length + 1 + i]? = (qrun [] b)[i]? := by
  rw [qrun_app, qend_app]
  have h1 : qend (qend [] a) [⟨false, actZ, 8⟩] = [] := pull_all (qend_len a (by decide))
  rw [h1, List.getElem?_append_right (by rw [qrun_len]; simp), qrun_len]
  congr 1
  simp

/-- The jobs, each Push twice. -/
def dup : List JobD → List JobD
  | [] => []
  | j :: l => if j.push then j :: j :: dup l else j :: dup l
theorem dup_app : ∀ (a b : List JobD), dup (a ++ b) = dup a ++ dup b
  | [], b => rfl
  | j :: a, b => by
    show (if j.push then j :: j :: dup (a ++ b) else j :: dup (a ++ b)) = (if j.push then j :: j :: dup a else j :: dup a) ++ dup b
    rw [dup_app a b]
    split <;> rfl
theorem dup_one (j : JobD) : dup [j] = if j.push then [j, j] else [j] := by unfold dup; split <;> rfl
theorem dup_snoc (l : List JobD) {j : JobD} {m : Nat} (h : l[m]? = some j) : dup (l.take (m + 1)) = dup (l.take m) ++ (if j.push then [j, j] else [j]) := by
  rw [List.take_add_one, h, dup_app]
  show _ ++ dup [j] = _
  rw [dup_one]
theorem dup_len : ∀ l : List JobD, (dup l).length ≤ 2 * l.length
  | [] => Nat.le_refl _
  | j :: l => by
    have := dup_len l
    unfold dup
    split <;> simp <;> omega
theorem dup_ok {l : List JobD} (h : ∀ j ∈ l, JobD.ok j) : ∀ j ∈ dup l, JobD.ok j := by
  induction l with
  | nil => intro j hj; cases hj
  | cons x l ih =>
    have ih := ih (fun j hj => h j (by simp [hj]))
    have hx := h x (by simp)
    intro j hj
    unfold dup at hj
    split at hj
    · simp at hj
      rcases hj with rfl | hj
      · exact hx
      · exact ih j hj
    · simp at hj
      rcases hj with rfl | hj
      · exact hx
      · exact ih j hj
theorem findIdx_at {q : List ActD} {p : ActD → Bool} {i : Nat} {x : ActD} (h1 : q[i]? = some x) (h2 : p x = true) (h3 : ∀ (m : Nat) (y : ActD), m < i → q[m]? = some y → p y = false) : q.findIdx? p = some i := by
  rw [List.findIdx?_eq_some_iff_getElem]
  obtain ⟨hi, rfl⟩ := List.getElem?_eq_some_iff.1 h1
  exact ⟨hi, h2, fun j hj => by simp [h3 j _ hj (List.getElem?_eq_getElem (by omega))]⟩
/-- A Push once more. -/
theorem push_twice {q : List ActD} {j : JobD} (hp : j.push = true) : (qstep (qstep q j).1 j).1 = (qstep q j).1 ∧ ((qstep q j).2.code = 0 → (qstep (qstep q j).1 j).2.merged = true) := by
  rcases qstep_cases q j with ⟨_, i, x, hx, hs, hno, e⟩ | ⟨_, hno, h⟩ | ⟨h, _⟩ | ⟨h, _⟩
  · rw [e]
    have hi := (List.getElem?_eq_some_iff.1 hx).1
    have hf : (q.set i j.act).findIdx? (fun x => x.same j.act) = some i := findIdx_at (x := j.act) (by rw [List.getElem?_set, if_pos rfl, if_pos hi]) ((same_iff _ _).2 ⟨rfl, rfl⟩) (fun m y hm hy => by
      rw [List.getElem?_set, if_neg (by omega)] at hy
      exact hno m y hm hy)
    unfold qstep
    rw [if_pos hp]
    simp only [hf]
    exact ⟨by rw [List.set_set], fun _ => trivial⟩
  · rcases h with ⟨h8, e⟩ | ⟨h8, e⟩
    · rw [e]
      exact ⟨by rw [e], fun h => by simp at h⟩
    · rw [e]
      have hf : (q ++ [j.act]).findIdx? (fun x => x.same j.act) = some q.length := findIdx_at (x := j.act) (by simp) ((same_iff _ _).2 ⟨rfl, rfl⟩) (fun m y hm hy => by
        rw [List.getElem?_append_left hm] at hy
        exact hno m y hy)
      unfold qstep
      rw [if_pos hp]
      simp only [hf]
      refine ⟨?_, fun _ => trivial⟩
      simp
  · rw [hp] at h; cases h
  · rw [hp] at h; cases h
theorem qend_dup : ∀ (q : List ActD) (l : List JobD), qend q (dup l) = qend q l
  | _, [] => rfl
  | q, j :: l => by
    unfold dup
    split
    · rename_i hp
      show qend (qstep (qstep q j).1 j).1 (dup l) = qend (qstep q j).1 l
      rw [(push_twice hp).1, qend_dup]
    · show qend (qstep q j).1 (dup l) = _
      rw [qend_dup]; rfl
/-- Where a job of the list comes to lie in the doubled list, what both come to. -/
theorem once_at {l : List JobD} {m : Nat} {j : JobD} (h : l[m]? = some j) :
    (qrun [] (dup l))[(dup (l.take m)).length]? = (qrun [] l)[m]? ∧
    (j.push = true → ∃ d, (qrun [] (dup l))[(dup (l.take m)).length + 1]? = some d ∧ ∀ a, (qrun [] l)[m]? = some a → a.code = 0 → d.merged = true) := by
  have hm := (List.getElem?_eq_some_iff.1 h).1
  have e : l = l.take m ++ j :: l.drop (m + 1) := by
    obtain ⟨_, h2⟩ := List.getElem?_eq_some_iff.1 h
    rw [← h2, ← List.drop_eq_getElem_cons hm, List.take_append_drop]
  have hx : (qrun [] l)[m]? = some (qstep (qend [] (l.take m)) j).2 := (qrun_at h).1
  have e2 : qrun [] (dup l) = qrun [] (dup (l.take m)) ++ qrun (qend [] (l.take m)) (dup (j :: l.drop (m + 1))) := by
    conv => lhs; rw [e]
    rw [dup_app, qrun_app, qend_dup]
  have hl : (qrun [] (dup (l.take m))).length = (dup (l.take m)).length := qrun_len _ _
  rw [hx]
  constructor
  · rw [e2, List.getElem?_append_right (by omega), hl, Nat.sub_self]
    unfold dup
    split <;> rfl
  · intro hp
    refine ⟨(qstep (qstep (qend [] (l.take m)) j).1 j).2, ?_, fun a ha hc => ?_⟩
    · rw [e2, List.getElem?_append_right (by omega), hl, show (dup (l.take m)).length + 1 - (dup (l.take m)).length = 1 by omega]
      unfold dup
      rw [if_pos hp]
      rfl
    · cases ha
      exact (push_twice hp).2 hc
end Go.Proofs.Ytoecmoicaklbaaa
