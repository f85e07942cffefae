
/- Plain laws on matches: the first that fits. -/
import Derived.Test.YtlcacocecdnpnaaCls3
set_option linter.unusedVariables false
namespace Go.Proofs.Ytlcacocecdnpnaa
open Go.RowKit Go.Sort Wc Wk

/-- The first place of a set of 30; -1: there is none. -/
def firstB (s : Nat) : Int := match (List.range 30).find? (fun i => s.testBit i) with | none => -1 | some i => (i : Int)
theorem firstB_at {s i : Nat} (hi : i < 30) (hb : s.testBit i = true) (hno : ∀ j, j < i → s.testBit j = false) : firstB s = i := by
  unfold firstB
  have : (List.range 30).find? (fun i => s.testBit i) = some i := by
    rw [List.find?_range_eq_some]
    exact ⟨hb, List.mem_range.2 hi, fun j hj => by rw [hno j hj]; rfl⟩
  rw [this]
theorem firstB_none {s : Nat} (hno : ∀ j, j < 30 → s.testBit j = false) : firstB s = -1 := by
  unfold firstB
  have : (List.range 30).find? (fun i => s.testBit i) = none := by
    rw [List.find?_range_eq_none]
    intro j hj
    rw [hno j hj]; rfl
  rw [this]
theorem div_bit (s i : Nat) : s / 2 ^ i % 2 = if s.testBit i then 1 else 0 := by
  have h := Nat.testBit_eq_decide_div_mod_eq (x := s) (i := i)
  have h2 : s / 2 ^ i % 2 < 2 := Nat.mod_lt _ (by decide)
  by_cases hb : s / 2 ^ i % 2 = 1
  · rw [h, hb]; simp
  · rw [h, if_neg (by simpa using hb)]; omega

theorem plantH_bit (f : Nat → Nat × Nat) : ∀ (j i v p : Nat), (plantH f j i v).testBit p = true ↔ p < j ∧ (f p).2 = i ∧ hd (f p).1 i = v
  | 0, i, v, p => by simp [plantH]
  | j + 1, i, v, p => by
    have ih := plantH_bit f j i v p
    unfold plantH putH
    split
    · rename_i h
      obtain ⟨h1, h2⟩ := h
      rw [Nat.testBit_or, Bool.or_eq_true, ih, Nat.testBit_two_pow]
      constructor
      · rintro (⟨a, b, c⟩ | h)
        · exact ⟨by omega, b, c⟩
        · have : j = p := by simpa using h
          subst this
          exact ⟨by omega, h1.symm, by rw [h1, h2]⟩
      · rintro ⟨a, b, c⟩
        by_cases hp : p = j
        · right; simp [hp]
        · left; exact ⟨by omega, b, c⟩
    · rename_i h
      rw [ih]
      constructor
      · rintro ⟨a, b, c⟩; exact ⟨by omega, b, c⟩
      · rintro ⟨a, b, c⟩
        by_cases hp : p = j
        · subst hp
          exact absurd ⟨b.symm, by rw [b, c]⟩ h
        · exact ⟨by omega, b, c⟩
theorem orTo_bit (H : Nat → Nat → Nat) (n p : Nat) : ∀ i, (orTo H n i).testBit p = true ↔ ∃ d, d ≤ i ∧ (H d (hd n d)).testBit p = true
  | 0 => by
    show (H 0 (hd n 0)).testBit p = true ↔ _
    constructor
    · intro h; exact ⟨0, Nat.le_refl _, h⟩
    · rintro ⟨d, hd, h⟩
      obtain rfl : d = 0 := by omega
      exact h
  | i + 1 => by
    show (orTo H n i ||| H (i + 1) (hd n (i + 1))).testBit p = true ↔ _
    rw [Nat.testBit_or, Bool.or_eq_true, orTo_bit H n p i]
    constructor
    · rintro (⟨d, h1, h2⟩ | h)
      · exact ⟨d, by omega, h2⟩
      · exact ⟨i + 1, Nat.le_refl _, h⟩
    · rintro ⟨d, h1, h2⟩
      by_cases hx : d = i + 1
      · subst hx; exact .inr h2
      · exact .inl ⟨d, by omega, h2⟩
theorem planted (f : Nat → Nat × Nat) (j n p : Nat) (hv : p < j → VP false (f p).1 (f p).2) : (orTo (plantH f j) n 32).testBit p = true ↔ p < j ∧ cutN 32 n (f p).2 = (f p).1 := by
  rw [orTo_bit]
  constructor
  · rintro ⟨d, h1, h2⟩
    obtain ⟨h3, rfl, h5⟩ := (plantH_bit f j _ _ p).1 h2
    exact ⟨h3, (has_iff (six := false) (hv h3)).2 h5.symm⟩
  · rintro ⟨h1, h2⟩
    have hvp := hv h1
    exact ⟨(f p).2, hvp.2.1, (plantH_bit f j _ _ p).2 ⟨h1, rfl, ((has_iff (six := false) hvp).1 h2).symm⟩⟩

/-- Does a match fit a flow? -/
def MatchD.fits (q : MatchD) (a b : Nat) : Prop := cutN 32 a q.k = q.n ∧ cutN 32 b q.l = q.m
instance (q : MatchD) (a b : Nat) : Decidable (q.fits a b) := by unfold MatchD.fits; infer_instance
def classI (l : List MatchD) (a b : Nat) : Int := match l.findIdx? (fun q => decide (q.fits a b)) with | none => -1 | some i => (i : Int)
def classC (l : List MatchD) (a b : Nat) : Nat := match l.findIdx? (fun q => decide (q.fits a b)) with | none => 0 | some i => (l[i]?.map MatchD.cls).getD 0
theorem class_cases (l : List MatchD) (a b : Nat) : (classI l a b = -1 ∧ classC l a b = 0 ∧ ∀ q ∈ l, ¬ q.fits a b) ∨ ∃ (i : Nat) (q : MatchD), l[i]? = some q ∧ classI l a b = (i : Int) ∧ classC l a b = q.cls ∧ q.fits a b ∧ ∀ j, j < i → ∀ r, l[j]? = some r → ¬ r.fits a b := by
  cases h : l.findIdx? (fun q => decide (q.fits a b)) with
  | none =>
    refine .inl ⟨by unfold classI; rw [h], by unfold classC; rw [h], fun q hq => ?_⟩
    have := (List.findIdx?_eq_none_iff.1 h) q hq
    simpa using this
  | some i =>
    obtain ⟨hi, h1, h2⟩ := List.findIdx?_eq_some_iff_getElem.1 h
    refine .inr ⟨i, l[i], List.getElem?_eq_getElem hi, by unfold classI; rw [h], by unfold classC; rw [h]; simp [List.getElem?_eq_getElem hi], by simpa using h1, fun j hj q hq => ?_⟩
    obtain ⟨hj2, he⟩ := List.getElem?_eq_some_iff.1 hq
    have := h2 j hj
    rw [he] at this
    simpa using this
theorem mat_bit {l : List MatchD} (hok : ∀ q ∈ l, q.ok) (a b p : Nat) : (orTo (plantH (matF l) l.length) a 32 &&& orTo (plantH (matT l) l.length) b 32).testBit p = true ↔ ∃ q, l[p]? = some q ∧ q.fits a b := by
  have hF : p < l.length → VP false (matF l p).1 (matF l p).2 := fun h => by
    have := hok l[p] (List.getElem_mem h)
    unfold matF; rw [List.getElem?_eq_getElem h]; exact this.1
  have hT : p < l.length → VP false (matT l p).1 (matT l p).2 := fun h => by
    have := hok l[p] (List.getElem_mem h)
    unfold matT; rw [List.getElem?_eq_getElem h]; exact this.2.1
  rw [Nat.testBit_and, Bool.and_eq_true, planted _ _ _ _ hF, planted _ _ _ _ hT]
  constructor
  · rintro ⟨⟨h1, h2⟩, _, h3⟩
    refine ⟨l[p], List.getElem?_eq_getElem h1, ?_⟩
    unfold matF at h2; unfold matT at h3
    rw [List.getElem?_eq_getElem h1] at h2 h3
    exact ⟨h2, h3⟩
  · rintro ⟨q, hq, h1, h2⟩
    have hp := (List.getElem?_eq_some_iff.1 hq).1
    refine ⟨⟨hp, ?_⟩, hp, ?_⟩
    · unfold matF; rw [hq]; exact h1
    · unfold matT; rw [hq]; exact h2
theorem first_class {l : List MatchD} (hlen : l.length ≤ 30) (hok : ∀ q ∈ l, q.ok) (a b : Nat) : firstB (orTo (plantH (matF l) l.length) a 32 &&& orTo (plantH (matT l) l.length) b 32) = classI l a b := by
  rcases class_cases l a b with ⟨h1, _, h2⟩ | ⟨i, q, hq, h1, _, h2, h3⟩
  · rw [h1]
    refine firstB_none fun j _ => ?_
    rw [Bool.eq_false_iff]
    intro h
    obtain ⟨q, hq, hf⟩ := (mat_bit hok a b j).1 h
    exact h2 q (List.mem_of_getElem? hq) hf
  · rw [h1]
    have hi := (List.getElem?_eq_some_iff.1 hq).1
    refine firstB_at (by omega) ((mat_bit hok a b i).2 ⟨q, hq, h2⟩) fun j hj => ?_
    rw [Bool.eq_false_iff]
    intro h
    obtain ⟨r, hr, hf⟩ := (mat_bit hok a b j).1 h
    exact h3 j hj r hr hf
end Go.Proofs.Ytlcacocecdnpnaa
