
/- What is idle: plain. -/
import Derived.Test.YtlcacocecdnpnaaIdle
set_option linter.unusedVariables false
namespace Go.Proofs.Ytlcacocecdnpnaa
open Go.RowKit Go.Sort Wc Wk

def Fit1 (P : List RuleD) (m wide : Nat) : Prop := ∃ q ∈ P, q.fits m wide
def IdleP (P : List RuleD) (r : RuleD) : Prop := ∀ m wide, VP false m wide → r.fits m wide → Fit1 P m wide
theorem idleB_iff {P : List RuleD} {r : RuleD} (hP : ∀ q ∈ P, RuleD.ok q) (hr : r.ok) : idleB P r (r.most + 1 - r.least) = true ↔ IdleP P r := by
  obtain ⟨k1, k2, k3, k4⟩ := hr
  unfold idleB
  rw [List.all_eq_true]
  constructor
  · intro h m wide hm hf
    have h1 := h wide (by rw [List.mem_range'_1]; have := hf.1; have := hf.2.1; omega)
    have hw : wide ≤ 32 := hm.2.1
    have hn : ¬ freeF 33 P r.n r.k wide = true := by simpa using h1
    rw [free_iff 33 P r.n r.k wide hP k1 (by have := hf.1; omega) hw (by omega)] at hn
    apply Classical.byContradiction
    intro hno
    exact hn ⟨m, hm, hf.2.2, fun q hq hfq => hno ⟨q, hq, hfq⟩⟩
  · intro h wide hw
    rw [List.mem_range'_1] at hw
    have : ¬ freeF 33 P r.n r.k wide = true := by
      rw [free_iff 33 P r.n r.k wide hP k1 (by omega) (by omega) (by omega)]
      rintro ⟨m, hm, hc, hno⟩
      obtain ⟨q, hq, hf⟩ := h m wide hm ⟨by omega, by omega, hc⟩
      exact hno q hq hf
    simpa using this
theorem isIdle_iff {l : List RuleD} (hl : ∀ q ∈ l, RuleD.ok q) {i : Nat} {r : RuleD} (hr : l[i]? = some r) : isIdle l i = true ↔ IdleP (l.take i) r := by
  unfold isIdle
  rw [hr]
  exact idleB_iff (fun q hq => hl q (List.mem_of_mem_take hq)) (hl r (List.mem_of_getElem? hr))

theorem passY_snoc (xs : List RuleD) (r : RuleD) (m wide : Nat) : passY (xs ++ [r]) m wide = if xs.any (fun q => decide (q.fits m wide)) then passY xs m wide else (decide (r.fits m wide) && r.yes) := by
  induction xs with
  | nil => simp [passY_one]
  | cons x xs ih =>
    rw [List.cons_append, passY_cons, passY_cons, ih]
    by_cases h : x.fits m wide <;> simp [h]
theorem any_fit {xs : List RuleD} {m wide : Nat} : xs.any (fun q => decide (q.fits m wide)) = true ↔ Fit1 xs m wide := by
  rw [List.any_eq_true]
  simp [Fit1]

/-- What is left of the first j without the idle ones. -/
def leftL (l : List RuleD) : Nat → List RuleD
  | 0 => []
  | j + 1 => match l[j]? with | some r => if isIdle l j then leftL l j else leftL l j ++ [r] | none => leftL l j
theorem leftL_some {l : List RuleD} {j : Nat} {r : RuleD} (hr : l[j]? = some r) : leftL l (j + 1) = if isIdle l j then leftL l j else leftL l j ++ [r] := by
  show (match l[j]? with | some r => if isIdle l j then leftL l j else leftL l j ++ [r] | none => leftL l j) = _
  rw [hr]
theorem leftL_mem {l : List RuleD} : ∀ (j : Nat) (q : RuleD), q ∈ leftL l j → q ∈ l.take j
  | 0, q, h => by simp [leftL] at h
  | j + 1, q, h => by
    have ih := leftL_mem (l := l) j q
    have hsub : ∀ q, q ∈ l.take j → q ∈ l.take (j + 1) := fun q hq => (List.take_subset_take_left l (Nat.le_succ j)) hq
    cases hr : l[j]? with
    | none =>
      have : leftL l (j + 1) = leftL l j := by show (match l[j]? with | some r => if isIdle l j then leftL l j else leftL l j ++ [r] | none => leftL l j) = _; rw [hr]
      rw [this] at h
      exact hsub q (ih h)
    | some r =>
      rw [leftL_some hr] at h
      split at h
      · exact hsub q (ih h)
      · rcases List.mem_append.1 h with h | h
        · exact hsub q (ih h)
        · simp only [List.mem_singleton] at h
          subst h
          rw [List.take_add_one, hr]; simp
theorem leftL_len {l : List RuleD} : ∀ j, j ≤ l.length → (leftL l j).length ≤ j
  | 0, _ => by simp [leftL]
  | j + 1, h => by
    have ih := leftL_len (l := l) j (by omega)
    rw [leftL_some (List.getElem?_eq_getElem (show j < l.length by omega))]
    split
    · omega
    · rw [List.length_append, List.length_singleton]; omega

theorem left_fit {l : List RuleD} (hl : ∀ q ∈ l, RuleD.ok q) {m wide : Nat} (hm : VP false m wide) : ∀ j, j ≤ l.length → (Fit1 (l.take j) m wide ↔ Fit1 (leftL l j) m wide)
  | 0, _ => by simp [leftL]
  | j + 1, h => by
    have ih := left_fit hl hm j (by omega)
    have hr := List.getElem?_eq_getElem (show j < l.length by omega)
    generalize l[j] = r at hr
    rw [leftL_some hr, List.take_add_one, hr]
    have e : Fit1 (l.take j ++ (some r).toList) m wide ↔ Fit1 (l.take j) m wide ∨ r.fits m wide := by
      unfold Fit1
      simp only [Option.toList_some, List.mem_append, List.mem_singleton]
      constructor
      · rintro ⟨q, (hq | rfl), hf⟩
        · exact .inl ⟨q, hq, hf⟩
        · exact .inr hf
      · rintro (⟨q, hq, hf⟩ | hf)
        · exact ⟨q, .inl hq, hf⟩
        · exact ⟨r, .inr rfl, hf⟩
    have e2 : Fit1 (leftL l j ++ [r]) m wide ↔ Fit1 (leftL l j) m wide ∨ r.fits m wide := by
      unfold Fit1
      simp only [List.mem_append, List.mem_singleton]
      constructor
      · rintro ⟨q, (hq | rfl), hf⟩
        · exact .inl ⟨q, hq, hf⟩
        · exact .inr hf
      · rintro (⟨q, hq, hf⟩ | hf)
        · exact ⟨q, .inl hq, hf⟩
        · exact ⟨r, .inr rfl, hf⟩
    rw [e]
    by_cases hi : isIdle l j = true
    · rw [if_pos hi, ← ih]
      constructor
      · rintro (h | h)
        · exact h
        · exact (isIdle_iff hl hr).1 hi m wide hm h
      · exact .inl
    · rw [if_neg hi, e2, ih]
theorem left_pass {l : List RuleD} (hl : ∀ q ∈ l, RuleD.ok q) {m wide : Nat} (hm : VP false m wide) : ∀ j, j ≤ l.length → passY (leftL l j) m wide = passY (l.take j) m wide
  | 0, _ => by simp [leftL]
  | j + 1, h => by
    have ih := left_pass hl hm j (by omega)
    have hf := left_fit hl hm j (by omega)
    have hr := List.getElem?_eq_getElem (show j < l.length by omega)
    generalize l[j] = r at hr
    rw [leftL_some hr, List.take_add_one, hr, Option.toList_some, passY_snoc]
    by_cases hi : isIdle l j = true
    · rw [if_pos hi, ih]
      by_cases hx : Fit1 (l.take j) m wide
      · rw [if_pos (any_fit.2 hx)]
      · have hnf : ¬ r.fits m wide := fun h => hx ((isIdle_iff hl hr).1 hi m wide hm h)
        rw [if_neg (fun h => hx (any_fit.1 h))]
        have : passY (l.take j) m wide = false := by
          rcases pass_cases (l.take j) m wide with ⟨_, h, _⟩ | ⟨i, q, hq, _, _, hfq, _⟩
          · exact h
          · exact absurd ⟨q, List.mem_of_getElem? hq, hfq⟩ hx
        rw [this]
        simp [hnf]
    · rw [if_neg hi, passY_snoc, ih]
      by_cases hx : Fit1 (l.take j) m wide
      · rw [if_pos (any_fit.2 hx), if_pos (any_fit.2 (hf.1 hx))]
      · rw [if_neg (fun h => hx (any_fit.1 h)), if_neg (fun h => hx (hf.2 (any_fit.1 h)))]
theorem left_at {l : List RuleD} : ∀ (n : Nat), n ≤ l.length → ∀ i r, (leftL l n)[i]? = some r → ∃ j, j < n ∧ l[j]? = some r ∧ isIdle l j = false ∧ (leftL l n).take i = leftL l j
  | 0, _, i, r, h => by simp [leftL] at h
  | n + 1, hn, i, r, h => by
    have hr := List.getElem?_eq_getElem (show n < l.length by omega)
    generalize l[n] = q at hr
    rw [leftL_some hr] at h ⊢
    by_cases hi : isIdle l n = true
    · rw [if_pos hi] at h ⊢
      obtain ⟨j, h1, h2⟩ := left_at n (by omega) i r h
      exact ⟨j, by omega, h2⟩
    · rw [if_neg hi] at h ⊢
      rcases Nat.lt_or_ge i (leftL l n).length with hlt | hge
      · rw [List.getElem?_append_left hlt] at h
        obtain ⟨j, h1, h2, h3, h4⟩ := left_at n (by omega) i r h
        exact ⟨j, by omega, h2, h3, by rw [List.take_append_of_le_length (by omega)]; exact h4⟩
      · rw [List.getElem?_append_right hge] at h
        have : i - (leftL l n).length = 0 := by
          have := (List.getElem?_eq_some_iff.1 h).1
          simp at this; omega
        rw [this] at h
        simp at h
        subst h
        obtain rfl : i = (leftL l n).length := by omega
        exact ⟨n, by omega, hr, by simpa using hi, by simp⟩
theorem left_idles {l : List RuleD} (hl : ∀ q ∈ l, RuleD.ok q) : idles (leftL l l.length) (leftL l l.length).length = [] := by
  unfold idles
  rw [List.filter_eq_nil_iff]
  intro i hi hid
  rw [List.mem_range] at hi
  have hlo : ∀ q ∈ leftL l l.length, RuleD.ok q := fun q hq => hl q (List.mem_of_mem_take (leftL_mem _ q hq))
  have hr := List.getElem?_eq_getElem hi
  generalize (leftL l l.length)[i] = r at hr
  obtain ⟨j, h1, h2, h3, h4⟩ := left_at l.length (Nat.le_refl _) i r hr
  have h5 := (isIdle_iff hlo hr).1 hid
  rw [h4] at h5
  have h6 : isIdle l j = true := (isIdle_iff hl h2).2 (fun m wide hm hf => (left_fit hl hm j (by omega)).2 (h5 m wide hm hf))
  rw [h6] at h3
  cases h3

/-- Which one stands where among the idle ones. -/
theorem idles_split (l : List RuleD) (i : Nat) : ∀ n, i ≤ n → idles l n = idles l i ++ (List.range' i (n - i)).filter (isIdle l) := by
  intro n hn
  unfold idles
  rw [← List.filter_append]
  congr 1
  rw [List.range_eq_range', List.range_eq_range']
  have := List.range'_append (s := 0) (m := i) (n := n - i) (step := 1)
  simp only [Nat.zero_add, Nat.one_mul] at this
  rw [this]
  congr 1
  omega
theorem idles_here {l : List RuleD} {i n : Nat} (hi : i < n) (h : isIdle l i = true) : (idles l i).length < (idles l n).length ∧ (idles l n)[(idles l i).length]? = some i := by
  have e := idles_split l i n (by omega)
  obtain ⟨d, hd⟩ : ∃ d, n - i = d + 1 := ⟨n - i - 1, by omega⟩
  rw [hd, List.range'_succ, List.filter_cons, if_pos h] at e
  rw [e]
  simp
theorem idles_other {l : List RuleD} {i n : Nat} (hi : i < n) (h : isIdle l i = false) : (idles l n).length = (idles l i).length ∨ ∃ j, (idles l i).length < (idles l n).length ∧ (idles l n)[(idles l i).length]? = some j ∧ j ≠ i ∧ j < n := by
  have e := idles_split l i n (by omega)
  obtain ⟨d, hd⟩ : ∃ d, n - i = d + 1 := ⟨n - i - 1, by omega⟩
  rw [hd, List.range'_succ, List.filter_cons, if_neg (by rw [h]; simp)] at e
  cases hx : (List.range' (i + 1) d).filter (isIdle l) with
  | nil => rw [hx] at e; rw [e]; simp
  | cons j xs =>
    rw [hx] at e
    have hj : j ∈ (List.range' (i + 1) d).filter (isIdle l) := by rw [hx]; simp
    rw [List.mem_filter, List.mem_range'_1] at hj
    refine .inr ⟨j, ?_, ?_, by omega, by omega⟩
    · rw [e]; simp
    · rw [e]; simp
end Go.Proofs.Ytlcacocecdnpnaa
