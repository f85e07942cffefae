
/- Plain arithmetic: bits spell the number. -/
import Derived.Test.YticfcigkldkhmaaPlain
namespace Wc
open Go Go.RowKit

theorem div_step (n e : Nat) : n / 2 ^ e = 2 * (n / 2 ^ (e + 1)) + n / 2 ^ e % 2 := by
  rw [Nat.pow_succ, ← Nat.div_div_eq_div_mul]; omega
theorem same_head (six : Bool) (a b : Nat) (ha : Fits six a) (hb : Fits six b) : ∀ k, k ≤ wd six → (∀ j, j < k → bitAt six a j = bitAt six b j) → a / 2 ^ (wd six - k) = b / 2 ^ (wd six - k)
  | 0, _, _ => by rw [Nat.sub_zero, Nat.div_eq_of_lt ha, Nat.div_eq_of_lt hb]
  | k + 1, hk, h => by
    have ih := same_head six a b ha hb k (by omega) (fun j hj => h j (by omega))
    have e1 : wd six - k = wd six - 1 - k + 1 := by omega
    have e2 : wd six - (k + 1) = wd six - 1 - k := by omega
    have hk' := h k (by omega)
    unfold bitAt at hk'
    rw [e1] at ih
    rw [e2, div_step a, div_step b, ih, hk']
theorem bits_same (six : Bool) (a b : Nat) (ha : Fits six a) (hb : Fits six b) (h : ∀ j, j < wd six → bitAt six a j = bitAt six b j) : a = b := by
  have := same_head six a b ha hb (wd six) (Nat.le_refl _) h
  simpa using this
theorem bits_less (six : Bool) (a b k : Nat) (ha : Fits six a) (hb : Fits six b) (hk : k < wd six) (h : ∀ j, j < k → bitAt six a j = bitAt six b j) (hne : bitAt six a k ≠ bitAt six b k) :
    decide (a < b) = decide (((bitAt six a k : Nat) : Int) < ((bitAt six b k : Nat) : Int)) := by
  have h1 := same_head six a b ha hb k (by omega) h
  have e1 : wd six - k = wd six - 1 - k + 1 := by omega
  rw [e1] at h1
  have h2 := div_step a (wd six - 1 - k)
  have h3 := div_step b (wd six - 1 - k)
  unfold bitAt at *
  generalize wd six - 1 - k = e at *
  have hx : a / 2 ^ e % 2 < 2 := Nat.mod_lt _ (by decide)
  have hy : b / 2 ^ e % 2 < 2 := Nat.mod_lt _ (by decide)
  rw [h1] at h2
  rw [decide_eq_decide]
  have hab : a / 2 ^ e < b / 2 ^ e ↔ a < b := by
    constructor
    · intro h; exact Nat.lt_of_not_le fun hle => by have := Nat.div_le_div_right (c := 2 ^ e) hle; omega
    · intro h
      have := Nat.div_le_div_right (c := 2 ^ e) (Nat.le_of_lt h)
      omega
  omega
theorem lastBit (six : Bool) (n : Nat) : bitAt six n (wd six - 1) = n % 2 := by
  unfold bitAt; cases six <;> simp [wd]
end Wc
