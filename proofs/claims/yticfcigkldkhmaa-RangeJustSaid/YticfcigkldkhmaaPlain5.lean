
/- Plain laws of prefixes. -/
import Derived.Test.YticfcigkldkhmaaPlain4
set_option linter.unusedVariables false
namespace Wc
open Go Go.RowKit

theorem cut_idem (w n k : Nat) : cutN w (cutN w n k) k = cutN w n k := by
  unfold cutN
  rw [Nat.mul_div_cancel _ (pow_pos' _)]
theorem vp_cut {six : Bool} {n k : Nat} (h : Fits six n) (hk : k ≤ wd six) : VP six (cutN (wd six) n k) k := ⟨fits_cut h k, hk, cut_idem _ _ _⟩
theorem div_pow_split (n a b : Nat) : n / 2 ^ (a + b) = n / 2 ^ a / 2 ^ b := by rw [Nat.pow_add, Nat.div_div_eq_div_mul]
/-- The head of a cut. -/
theorem cut_head (w n k k' : Nat) (h : k ≤ k') (hw : k' ≤ w) : cutN w n k' / 2 ^ (w - k) = n / 2 ^ (w - k) := by
  unfold cutN
  rw [show w - k = (w - k') + (k' - k) by omega, div_pow_split, div_pow_split, Nat.mul_div_cancel _ (pow_pos' _)]
theorem cut_cut (w n k k' : Nat) (h : k ≤ k') (hw : k' ≤ w) : cutN w (cutN w n k') k = cutN w n k := by
  have := cut_head w n k k' h hw
  unfold cutN at *
  rw [this]
theorem cut_eq_iff (w a b k : Nat) : cutN w a k = cutN w b k ↔ a / 2 ^ (w - k) = b / 2 ^ (w - k) := by
  unfold cutN
  constructor
  · intro h; exact Nat.eq_of_mul_eq_mul_right (pow_pos' _) h
  · intro h; rw [h]
theorem cut_full (w n : Nat) : cutN w n w = n := by unfold cutN; simp
theorem cov_iff {six : Bool} {n k m k' : Nat} (hp : VP six n k) : cov six n k m k' ↔ k ≤ k' ∧ m / 2 ^ (wd six - k) = n / 2 ^ (wd six - k) := by
  have : cutN (wd six) m k = n ↔ m / 2 ^ (wd six - k) = n / 2 ^ (wd six - k) := by
    rw [← cut_eq_iff, hp.2.2]
  unfold cov; rw [this]
theorem has_iff {six : Bool} {n k a : Nat} (hp : VP six n k) : cutN (wd six) a k = n ↔ a / 2 ^ (wd six - k) = n / 2 ^ (wd six - k) := by
  rw [← cut_eq_iff, hp.2.2]
theorem head_mono {w a b j k : Nat} (h : a / 2 ^ (w - k) = b / 2 ^ (w - k)) (hj : j ≤ k) (hk : k ≤ w) : a / 2 ^ (w - j) = b / 2 ^ (w - j) := by
  rw [show w - j = (w - k) + (k - j) by omega, div_pow_split, div_pow_split, h]
theorem vp_eq {six : Bool} {n m k : Nat} (hp : VP six n k) (hq : VP six m k) (h : n / 2 ^ (wd six - k) = m / 2 ^ (wd six - k)) : n = m := by
  rw [← hp.2.2, ← hq.2.2, cut_eq_iff]; exact h

def comLen (six : Bool) (n k m k' : Nat) : Nat := min (min k k') (alikeN six n m)
theorem comLen_le (six : Bool) (n k m k' : Nat) : comLen six n k m k' ≤ k := by unfold comLen; omega
theorem comLen_le' (six : Bool) (n k m k' : Nat) : comLen six n k m k' ≤ k' := by unfold comLen; omega
theorem comLen_iff {six : Bool} {n k m k' j : Nat} (hn : Fits six n) (hm : Fits six m) (hk : k ≤ wd six) : j ≤ comLen six n k m k' ↔ j ≤ k ∧ j ≤ k' ∧ n / 2 ^ (wd six - j) = m / 2 ^ (wd six - j) := by
  unfold comLen
  by_cases hj : j ≤ wd six
  · have := alike_iff six n m j hn hm hj
    rw [← this]; omega
  · constructor <;> intro h <;> omega
theorem com_alike {six : Bool} {n k m k' : Nat} (hn : Fits six n) (hm : Fits six m) (hk : k ≤ wd six) : n / 2 ^ (wd six - comLen six n k m k') = m / 2 ^ (wd six - comLen six n k m k') :=
  ((comLen_iff hn hm hk).1 (Nat.le_refl _)).2.2
theorem eq_of_le_iff {a b : Nat} (h : ∀ j, j ≤ a ↔ j ≤ b) : a = b := Nat.le_antisymm ((h a).1 (Nat.le_refl _)) ((h b).2 (Nat.le_refl _))
theorem com_comm {six : Bool} {n k m k' : Nat} (hn : Fits six n) (hm : Fits six m) (hk : k ≤ wd six) (hk' : k' ≤ wd six) : comLen six n k m k' = comLen six m k' n k ∧ cutN (wd six) n (comLen six n k m k') = cutN (wd six) m (comLen six n k m k') := by
  refine ⟨eq_of_le_iff fun j => ?_, (cut_eq_iff _ _ _ _).2 (com_alike hn hm hk)⟩
  rw [comLen_iff hn hm hk, comLen_iff hm hn hk']
  exact ⟨fun h => ⟨h.2.1, h.1, h.2.2.symm⟩, fun h => ⟨h.2.1, h.1, h.2.2.symm⟩⟩
theorem com_self {six : Bool} {n k : Nat} (hp : VP six n k) : comLen six n k n k = k ∧ cutN (wd six) n (comLen six n k n k) = n := by
  have e : comLen six n k n k = k := Nat.le_antisymm (comLen_le _ _ _ _ _) ((comLen_iff hp.1 hp.1 hp.2.1).2 ⟨Nat.le_refl _, Nat.le_refl _, rfl⟩)
  rw [e]; exact ⟨rfl, hp.2.2⟩
/-- Common is associative. -/
theorem com_assoc {six : Bool} {n k m l s t : Nat} (hn : Fits six n) (hm : Fits six m) (hs : Fits six s) (hk : k ≤ wd six) (hl : l ≤ wd six) (ht : t ≤ wd six) :
    comLen six (cutN (wd six) n (comLen six n k m l)) (comLen six n k m l) s t = comLen six n k (cutN (wd six) m (comLen six m l s t)) (comLen six m l s t) ∧
    cutN (wd six) (cutN (wd six) n (comLen six n k m l)) (comLen six (cutN (wd six) n (comLen six n k m l)) (comLen six n k m l) s t) = cutN (wd six) n (comLen six n k (cutN (wd six) m (comLen six m l s t)) (comLen six m l s t)) := by
  have c1 : comLen six n k m l ≤ wd six := Nat.le_trans (comLen_le _ _ _ _ _) hk
  have c2 : comLen six m l s t ≤ wd six := Nat.le_trans (comLen_le _ _ _ _ _) hl
  have e : comLen six (cutN (wd six) n (comLen six n k m l)) (comLen six n k m l) s t = comLen six n k (cutN (wd six) m (comLen six m l s t)) (comLen six m l s t) := by
    apply eq_of_le_iff
    intro j
    rw [comLen_iff (fits_cut hn _) hs c1, comLen_iff hn (fits_cut hm _) hk]
    constructor
    · intro ⟨h1, h2, h3⟩
      rw [cut_head _ _ _ _ h1 c1] at h3
      obtain ⟨g1, g2, g3⟩ := (comLen_iff hn hm hk).1 h1
      have hj : j ≤ comLen six m l s t := (comLen_iff hm hs hl).2 ⟨g2, h2, g3.symm.trans h3⟩
      exact ⟨g1, hj, by rw [cut_head _ _ _ _ hj c2]; exact g3⟩
    · intro ⟨h1, h2, h3⟩
      rw [cut_head _ _ _ _ h2 c2] at h3
      obtain ⟨g1, g2, g3⟩ := (comLen_iff hm hs hl).1 h2
      have hj : j ≤ comLen six n k m l := (comLen_iff hn hm hk).2 ⟨h1, g1, h3⟩
      exact ⟨hj, g2, by rw [cut_head _ _ _ _ hj c1]; exact h3.trans g3⟩
  refine ⟨e, ?_⟩
  rw [e]
  refine cut_cut _ _ _ _ ?_ c1
  rw [← e]; exact comLen_le _ _ _ _ _
end Wc
