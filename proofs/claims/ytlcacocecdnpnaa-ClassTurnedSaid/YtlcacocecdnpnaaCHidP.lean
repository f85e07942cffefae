
/- Hidden matches: plain. -/
import Derived.Test.YtlcacocecdnpnaaCWhole2
set_option linter.unusedVariables false
namespace Go.Proofs.Ytlcacocecdnpnaa
open Go.RowKit Go.Sort Wc Wk

def natC (x : Nat) : List Value := [.int .i64 x]
theorem natC_one (x : Nat) : ∀ u ∈ natC x, u.oneCell' = true := by
  intro u hu
  simp [natC] at hu
  subst hu; rfl
theorem eiIntH : EI Try.prog 22 3 1 8 (.int .i64 0) := ⟨by kernel_rfl, by kernel_rfl, rfl, by decide⟩
theorem Sl.natC {w w' : World} {a : Option Addr} {cap : Nat} {l : List Nat} (hs : Sl w 1 (.slice a l.length cap) (l.map natC)) (hb : Below w.heap.size w w') {i x : Nat} (hx : l[i]? = some x) :
    ∃ b off, a = some ⟨b, off, none⟩ ∧ b < w.heap.size ∧ w'.cell? ⟨b, off + i, none⟩ = some (.int .i64 x) := by
  obtain ⟨_, a', cap', he, _, _, hcc⟩ := hs
  have he' : a = a' := by
    simp only [Value.slice.injEq] at he
    exact he.1
  subst he'
  obtain ⟨b, off, rfl, hlt, hcell⟩ := hcc (by intro h; rw [List.map_eq_nil_iff] at h; rw [h] at hx; simp at hx)
  have hm := hcell i (Go.Proofs.Ytlcacocecdnpnaa.natC x) (by rw [List.getElem?_map, hx]; rfl) 0 _ rfl
  rw [Nat.mul_one, Nat.add_zero] at hm
  exact ⟨b, off, rfl, hlt, (hb.cell (p := ⟨b, off + i, none⟩) hlt).trans hm⟩
def isHid (l : List MatchD) (i : Nat) : Bool := match l[i]? with | some r => wholeF 65 (l.take i) r.n r.k r.m r.l | none => false
def hids (l : List MatchD) (j : Nat) : List Nat := (List.range j).filter (isHid l)
theorem hids_succ (l : List MatchD) (j : Nat) : hids l (j + 1) = hids l j ++ (if isHid l j then [j] else []) := by
  unfold hids
  rw [List.range_succ, List.filter_append]
  congr 1
  simp only [List.filter_cons, List.filter_nil]
theorem hids_len (l : List MatchD) (j : Nat) : (hids l j).length ≤ j := by
  unfold hids
  exact Nat.le_trans (List.length_filter_le _ _) (by simp)
theorem isHid_iff {l : List MatchD} (hl : ∀ q ∈ l, MatchD.ok q) {i : Nat} {r : MatchD} (hr : l[i]? = some r) : isHid l i = true ↔ Whole (l.take i) r.n r.k r.m r.l := by
  unfold isHid
  rw [hr]
  have ho := hl r (List.mem_of_getElem? hr)
  exact wholeF_iff 65 _ _ _ _ _ (fun q hq => hl q (List.mem_of_mem_take hq)) ho.1 ho.2.1 (by omega)
/-- What is left of the first j without the idle ones. -/
def leftM (l : List MatchD) : Nat → List MatchD
  | 0 => []
  | j + 1 => match l[j]? with | some r => if isHid l j then leftM l j else leftM l j ++ [r] | none => leftM l j
theorem leftM_some {l : List MatchD} {j : Nat} {r : MatchD} (hr : l[j]? = some r) : leftM l (j + 1) = if isHid l j then leftM l j else leftM l j ++ [r] := by
  show (match l[j]? with | some r => if isHid l j then leftM l j else leftM l j ++ [r] | none => leftM l j) = _
  rw [hr]
theorem leftM_mem {l : List MatchD} : ∀ (j : Nat) (q : MatchD), q ∈ leftM l j → q ∈ l.take j
  | 0, q, h => by simp [leftM] at h
  | j + 1, q, h => by
    have ih := leftM_mem (l := l) j q
    have hsub : ∀ q, q ∈ l.take j → q ∈ l.take (j + 1) := fun q hq => (List.take_subset_take_left l (Nat.le_succ j)) hq
    cases hr : l[j]? with
    | none =>
      have : leftM l (j + 1) = leftM l j := by show (match l[j]? with | some r => if isHid l j then leftM l j else leftM l j ++ [r] | none => leftM l j) = _; rw [hr]
      rw [this] at h
      exact hsub q (ih h)
    | some r =>
      rw [leftM_some hr] at h
      split at h
      · exact hsub q (ih h)
      · rcases List.mem_append.1 h with h | h
        · exact hsub q (ih h)
        · simp only [List.mem_singleton] at h
          subst h
          rw [List.take_add_one, hr]; simp
theorem leftM_len {l : List MatchD} : ∀ j, j ≤ l.length → (leftM l j).length ≤ j
  | 0, _ => by simp [leftM]
  | j + 1, h => by
    have ih := leftM_len (l := l) j (by omega)
    rw [leftM_some (List.getElem?_eq_getElem (show j < l.length by omega))]
    split
    · omega
    · rw [List.length_append, List.length_singleton]; omega

/-- Which one stands where among the idle ones. -/
theorem hids_split (l : List MatchD) (i : Nat) : ∀ n, i ≤ n → hids l n = hids l i ++ (List.range' i (n - i)).filter (isHid l) := by
  intro n hn
  unfold hids
  rw [← List.filter_append]
  congr 1
  rw [List.range_eq_range', List.range_eq_range']
  have := List.range'_append (s := 0) (m := i) (n := n - i) (step := 1)
  simp only [Nat.zero_add, Nat.one_mul] at this
  rw [this]
  congr 1
  omega
theorem hids_here {l : List MatchD} {i n : Nat} (hi : i < n) (h : isHid l i = true) : (hids l i).length < (hids l n).length ∧ (hids l n)[(hids l i).length]? = some i := by
  have e := hids_split l i n (by omega)
  obtain ⟨d, hd⟩ : ∃ d, n - i = d + 1 := ⟨n - i - 1, by omega⟩
  rw [hd, List.range'_succ, List.filter_cons, if_pos h] at e
  rw [e]
  simp
theorem hids_other {l : List MatchD} {i n : Nat} (hi : i < n) (h : isHid l i = false) : (hids l n).length = (hids l i).length ∨ ∃ j, (hids l i).length < (hids l n).length ∧ (hids l n)[(hids l i).length]? = some j ∧ j ≠ i ∧ j < n := by
  have e := hids_split l i n (by omega)
  obtain ⟨d, hd⟩ : ∃ d, n - i = d + 1 := ⟨n - i - 1, by omega⟩
  rw [hd, List.range'_succ, List.filter_cons, if_neg (by rw [h]; simp)] at e
  cases hx : (List.range' (i + 1) d).filter (isHid l) with
  | nil => rw [hx] at e; rw [e]; simp
  | cons j xs =>
    rw [hx] at e
    have hj : j ∈ (List.range' (i + 1) d).filter (isHid l) := by rw [hx]; simp
    rw [List.mem_filter, List.mem_range'_1] at hj
    refine .inr ⟨j, ?_, ?_, by omega, by omega⟩
    · rw [e]; simp
    · rw [e]; simp

def Fits1 (P : List MatchD) (a b : Nat) : Prop := ∃ q ∈ P, q.fits a b
theorem fits1_snoc (P : List MatchD) (r : MatchD) (a b : Nat) : Fits1 (P ++ [r]) a b ↔ Fits1 P a b ∨ r.fits a b := by
  unfold Fits1
  simp only [List.mem_append, List.mem_singleton]
  constructor
  · rintro ⟨q, (hq | rfl), hf⟩
    · exact .inl ⟨q, hq, hf⟩
    · exact .inr hf
  · rintro (⟨q, hq, hf⟩ | hf)
    · exact ⟨q, .inl hq, hf⟩
    · exact ⟨r, .inr rfl, hf⟩
theorem classC_cons (x : MatchD) (xs : List MatchD) (a b : Nat) : classC (x :: xs) a b = if x.fits a b then x.cls else classC xs a b := by
  unfold classC
  rw [List.findIdx?_cons]
  by_cases h : x.fits a b
  · simp [h]
  · simp only [h, decide_false, if_false]
    cases xs.findIdx? (fun q => decide (q.fits a b)) with
    | none => simp
    | some i => simp
theorem classC_snoc (xs : List MatchD) (r : MatchD) (a b : Nat) : (Fits1 xs a b → classC (xs ++ [r]) a b = classC xs a b) ∧ (¬ Fits1 xs a b → classC (xs ++ [r]) a b = if r.fits a b then r.cls else 0) := by
  induction xs with
  | nil =>
    refine ⟨fun h => ?_, fun _ => ?_⟩
    · obtain ⟨q, hq, _⟩ := h; cases hq
    · rw [List.nil_append, classC_cons]; rfl
  | cons x xs ih =>
    rw [List.cons_append, classC_cons, classC_cons]
    by_cases hx : x.fits a b
    · simp only [hx, if_true]
      exact ⟨fun _ => trivial, fun h => absurd ⟨x, List.mem_cons_self, hx⟩ h⟩
    · simp only [hx, if_false]
      refine ⟨fun h => ih.1 ?_, fun h => ih.2 ?_⟩
      · obtain ⟨q, hq, hf⟩ := h
        rcases List.mem_cons.1 hq with rfl | hq
        · exact absurd hf hx
        · exact ⟨q, hq, hf⟩
      · rintro ⟨q, hq, hf⟩
        exact h ⟨q, List.mem_cons_of_mem _ hq, hf⟩
theorem classC_no {xs : List MatchD} {a b : Nat} (h : ¬ Fits1 xs a b) : classC xs a b = 0 := by
  rcases class_cases xs a b with ⟨_, h2, _⟩ | ⟨i, q, hq, _, _, hf, _⟩
  · exact h2
  · exact absurd ⟨q, List.mem_of_getElem? hq, hf⟩ h
theorem leftM_same {l : List MatchD} (hl : ∀ q ∈ l, MatchD.ok q) {a b : Nat} : ∀ j, j ≤ l.length → (Fits1 (l.take j) a b ↔ Fits1 (leftM l j) a b) ∧ classC (leftM l j) a b = classC (l.take j) a b
  | 0, _ => by simp [leftM]
  | j + 1, h => by
    obtain ⟨ih, ihc⟩ := leftM_same hl (a := a) (b := b) j (by omega)
    have hr := List.getElem?_eq_getElem (show j < l.length by omega)
    generalize l[j] = r at hr
    rw [leftM_some hr, List.take_add_one, hr, Option.toList_some, fits1_snoc]
    obtain ⟨s1, s2⟩ := classC_snoc (l.take j) r a b
    by_cases hi : isHid l j = true
    · rw [if_pos hi, ← ih]
      have hw := (isHid_iff hl hr).1 hi
      have hf : r.fits a b → Fits1 (l.take j) a b := fun hf => hw a b hf.1 hf.2
      refine ⟨⟨fun h => h.elim id hf, .inl⟩, ?_⟩
      by_cases hx : Fits1 (l.take j) a b
      · rw [s1 hx, ihc]
      · rw [s2 hx, if_neg (fun h => hx (hf h)), ihc, classC_no hx]
    · rw [if_neg hi, fits1_snoc, ih]
      obtain ⟨t1, t2⟩ := classC_snoc (leftM l j) r a b
      refine ⟨Iff.rfl, ?_⟩
      by_cases hx : Fits1 (l.take j) a b
      · rw [s1 hx, t1 (ih.1 hx), ihc]
      · rw [s2 hx, t2 (fun h => hx (ih.2 h))]
/-- A match that stands there again is hidden. -/
theorem hids_again {l : List MatchD} {q : MatchD} (hl : ∀ r ∈ l, MatchD.ok r) (hq : q ∈ l) : ∃ x, hids (l ++ [q]) (l ++ [q]).length = x ++ [l.length] := by
  refine ⟨hids (l ++ [q]) l.length, ?_⟩
  rw [show (l ++ [q]).length = l.length + 1 by simp, hids_succ, if_pos]
  have hr : (l ++ [q])[l.length]? = some q := by simp
  rw [isHid_iff (l := l ++ [q]) (fun r hr => (List.mem_append.1 hr).elim (hl r) (fun h => by simp at h; subst h; exact hl r hq)) hr]
  rw [List.take_left]
  exact fun a b ha hb => ⟨q, hq, ha, hb⟩
end Go.Proofs.Ytlcacocecdnpnaa
