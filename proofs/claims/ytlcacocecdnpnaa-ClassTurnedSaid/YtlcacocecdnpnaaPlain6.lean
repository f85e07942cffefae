
/- Plain laws of prefixes: one covers the other, or they part at a half. -/
import Derived.Test.YtlcacocecdnpnaaPlain5
set_option linter.unusedVariables false
namespace Wc
open Go Go.RowKit

theorem half_vp {six : Bool} {n k : Nat} (h : VP six n k) (hk : k < wd six) : VP six n (k + 1) ∧ VP six (halfN (wd six) n k 1) (k + 1) := by
  have hf := (half_fits h hk).1
  have hd := dvd_of_cut h.2.2
  have e : 2 ^ (wd six - k) = 2 ^ (wd six - (k + 1)) * 2 := by rw [← Nat.pow_succ]; congr 1; omega
  rw [e] at hd
  have hd2 : n % 2 ^ (wd six - (k + 1)) = 0 := by
    have : n % (2 ^ (wd six - (k + 1)) * 2) % 2 ^ (wd six - (k + 1)) = n % 2 ^ (wd six - (k + 1)) := Nat.mod_mul_right_mod _ _ _
    rw [hd] at this; rw [← this]; exact Nat.zero_mod _
  refine ⟨⟨h.1, by omega, ?_⟩, ⟨hf, by omega, ?_⟩⟩
  · unfold cutN
    have := Nat.div_add_mod n (2 ^ (wd six - (k + 1)))
    rw [hd2, Nat.mul_comm] at this; omega
  · unfold cutN halfN
    have h1 := pow_pos' (wd six - (k + 1))
    rw [Nat.one_mul, Nat.add_div_right _ h1, Nat.succ_mul]
    have := Nat.div_add_mod n (2 ^ (wd six - (k + 1)))
    rw [hd2, Nat.mul_comm] at this; omega
/-- The heads of the halves. -/
theorem half_heads {six : Bool} {n k : Nat} (h : VP six n k) (hk : k < wd six) :
    n / 2 ^ (wd six - (k + 1)) = 2 * (n / 2 ^ (wd six - k)) ∧ halfN (wd six) n k 1 / 2 ^ (wd six - (k + 1)) = 2 * (n / 2 ^ (wd six - k)) + 1 := by
  have h1 := pow_pos' (wd six - (k + 1))
  have e : 2 ^ (wd six - k) = 2 ^ (wd six - (k + 1)) * 2 := by rw [← Nat.pow_succ]; congr 1; omega
  have hd := dvd_of_cut h.2.2
  have hd3 : n / 2 ^ (wd six - (k + 1)) % 2 = 0 := by
    have := Nat.mod_mul_right_div_self n (2 ^ (wd six - (k + 1))) 2
    rw [← e, hd] at this
    rw [← this]; exact Nat.zero_div _
  have e2 : n / 2 ^ (wd six - k) = n / 2 ^ (wd six - (k + 1)) / 2 := by rw [e, Nat.div_div_eq_div_mul]
  have e3 : halfN (wd six) n k 1 / 2 ^ (wd six - (k + 1)) = n / 2 ^ (wd six - (k + 1)) + 1 := by
    unfold halfN; rw [Nat.one_mul, Nat.add_div_right _ h1]
  omega
/-- What is in a prefix is in just one of its halves. -/
theorem in_halves {six : Bool} {n k a : Nat} (h : VP six n k) (hk : k < wd six) :
    (cutN (wd six) a k = n ↔ (cutN (wd six) a (k + 1) = n ∨ cutN (wd six) a (k + 1) = halfN (wd six) n k 1)) ∧ ¬ (cutN (wd six) a (k + 1) = n ∧ cutN (wd six) a (k + 1) = halfN (wd six) n k 1) := by
  obtain ⟨v1, v2⟩ := half_vp h hk
  obtain ⟨q1, q2⟩ := half_heads h hk
  rw [has_iff h, has_iff v1, has_iff v2, q1, q2]
  have e : 2 ^ (wd six - k) = 2 ^ (wd six - (k + 1)) * 2 := by rw [← Nat.pow_succ]; congr 1; omega
  have e2 : a / 2 ^ (wd six - k) = a / 2 ^ (wd six - (k + 1)) / 2 := by rw [e, Nat.div_div_eq_div_mul]
  rw [e2]
  omega
theorem cov_or {six : Bool} {n k m l : Nat} (hp : VP six n k) (hq : VP six m l) : (cov six n k m l ∨ cov six m l n k) ↔ (cutN (wd six) m k = n ∨ cutN (wd six) n l = m) := by
  rw [cov_iff hp, cov_iff hq, has_iff hp, has_iff hq]
  constructor
  · rintro (h | h)
    · exact Or.inl h.2
    · exact Or.inr h.2
  · rintro (h | h)
    · rcases Nat.le_total k l with h' | h'
      · exact Or.inl ⟨h', h⟩
      · exact Or.inr ⟨h', (head_mono h h' hp.2.1).symm⟩
    · rcases Nat.le_total k l with h' | h'
      · exact Or.inl ⟨h', (head_mono h h' hq.2.1).symm⟩
      · exact Or.inr ⟨h', h⟩
theorem cov_com {six : Bool} {n k m l : Nat} (hp : VP six n k) (hq : VP six m l) (h : cov six n k m l) : comLen six n k m l = k ∧ cutN (wd six) n (comLen six n k m l) = n := by
  rw [cov_iff hp] at h
  have e : comLen six n k m l = k := Nat.le_antisymm (comLen_le _ _ _ _ _) ((comLen_iff hp.1 hq.1 hp.2.1).2 ⟨Nat.le_refl _, h.1, h.2.symm⟩)
  rw [e]; exact ⟨rfl, hp.2.2⟩
theorem com_cov {six : Bool} {n k m l : Nat} (hp : VP six n k) (hq : VP six m l) : cov six (cutN (wd six) n (comLen six n k m l)) (comLen six n k m l) n k ∧ cov six (cutN (wd six) n (comLen six n k m l)) (comLen six n k m l) m l := by
  refine ⟨⟨comLen_le _ _ _ _ _, rfl⟩, ⟨comLen_le' _ _ _ _ _, ?_⟩⟩
  rw [cut_eq_iff]; exact (com_alike hp.1 hq.1 hp.2.1).symm
theorem cov_self {six : Bool} {n k : Nat} (hp : VP six n k) : cov six n k n k := ⟨Nat.le_refl _, hp.2.2⟩
theorem cov_anti {six : Bool} {n k m l : Nat} (hp : VP six n k) (hq : VP six m l) (h : cov six n k m l) (h' : cov six m l n k) : n = m ∧ k = l := by
  obtain ⟨a1, a2⟩ := h
  obtain ⟨b1, b2⟩ := h'
  obtain rfl : k = l := by omega
  exact ⟨by rw [← a2, hq.2.2], rfl⟩
/-- Two that have nothing together part at a half of what they have in common. -/
theorem cov_part {six : Bool} {n k m l : Nat} (hp : VP six n k) (hq : VP six m l) (h : ¬ cov six n k m l) (h' : ¬ cov six m l n k) :
    comLen six n k m l < k ∧ comLen six n k m l < l ∧
    (cov six (cutN (wd six) n (comLen six n k m l)) (comLen six n k m l + 1) n k ↔ cov six (halfN (wd six) (cutN (wd six) n (comLen six n k m l)) (comLen six n k m l) 1) (comLen six n k m l + 1) m l) := by
  have hc : n / 2 ^ (wd six - comLen six n k m l) = m / 2 ^ (wd six - comLen six n k m l) := com_alike hp.1 hq.1 hp.2.1
  have c1 := comLen_le six n k m l
  have c2 := comLen_le' six n k m l
  have hkk : comLen six n k m l < k := by
    rcases Nat.lt_or_ge (comLen six n k m l) k with h1 | h1
    · exact h1
    · exfalso; apply h
      have e : comLen six n k m l = k := by omega
      rw [e] at hc
      rw [cov_iff hp]; exact ⟨by omega, hc.symm⟩
  have hll : comLen six n k m l < l := by
    rcases Nat.lt_or_ge (comLen six n k m l) l with h1 | h1
    · exact h1
    · exfalso; apply h'
      have e : comLen six n k m l = l := by omega
      rw [e] at hc
      rw [cov_iff hq]; exact ⟨by omega, hc⟩
  refine ⟨hkk, hll, ?_⟩
  have hw : comLen six n k m l < wd six := Nat.lt_of_lt_of_le hkk hp.2.1
  have vc := vp_cut hp.1 (Nat.le_of_lt hw)
  have hne : ¬ n / 2 ^ (wd six - (comLen six n k m l + 1)) = m / 2 ^ (wd six - (comLen six n k m l + 1)) := fun hh => by
    have := (comLen_iff (j := comLen six n k m l + 1) hp.1 hq.1 hp.2.1).2 ⟨hkk, hll, hh⟩
    omega
  generalize comLen six n k m l = c at *
  obtain ⟨v1, v2⟩ := half_vp vc hw
  obtain ⟨q1, q2⟩ := half_heads vc hw
  rw [cov_iff v1, cov_iff v2, q1, q2, cut_head _ _ _ _ (Nat.le_refl _) (Nat.le_of_lt hw)]
  have e : 2 ^ (wd six - c) = 2 ^ (wd six - (c + 1)) * 2 := by rw [← Nat.pow_succ]; congr 1; omega
  have e1 : n / 2 ^ (wd six - c) = n / 2 ^ (wd six - (c + 1)) / 2 := by rw [e, Nat.div_div_eq_div_mul]
  have e2 : m / 2 ^ (wd six - c) = m / 2 ^ (wd six - (c + 1)) / 2 := by rw [e, Nat.div_div_eq_div_mul]
  rw [e1, e2] at hc
  rw [e1]
  omega
end Wc
