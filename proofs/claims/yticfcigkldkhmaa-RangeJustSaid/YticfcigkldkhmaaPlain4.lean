
/- Plain arithmetic of prefixes: what two addresses have in common. -/
import Derived.Test.YticfcigkldkhmaaPlain3
import Derived.Lib.BitFns
set_option linter.unusedVariables false
namespace Wc
open Go Go.RowKit

theorem lt_bitLenAux : ∀ (f x : Nat), x < 2 ^ f → x < 2 ^ Lib.bitLenAux f x
  | 0, x, h => by have : x = 0 := by simpa using h
                  subst this; exact Nat.one_le_two_pow
  | f + 1, x, h => by
    unfold Lib.bitLenAux
    split
    · rename_i h0; subst h0; exact Nat.one_le_two_pow
    · have := lt_bitLenAux f (x / 2) (by rw [Nat.pow_succ] at h; omega)
      rw [Nat.add_comm 1, Nat.pow_succ]
      omega
theorem bitLen_iff (x j : Nat) (hx : x < 2 ^ 64) (hj : j ≤ 64) : Lib.bitLen x ≤ j ↔ x < 2 ^ j := by
  constructor
  · intro h
    exact Nat.lt_of_lt_of_le (lt_bitLenAux 64 x hx) (Nat.pow_le_pow_right (by decide) h)
  · exact Lib.bitLen_le x j hj
theorem xor_lt (x y j : Nat) : x ^^^ y < 2 ^ j ↔ x / 2 ^ j = y / 2 ^ j := by
  have h1 : x ^^^ y < 2 ^ j ↔ (x ^^^ y) / 2 ^ j = 0 := by
    rw [Nat.div_eq_zero_iff]
    have := pow_pos' j
    omega
  rw [h1, Nat.xor_div_two_pow]
  constructor
  · intro h
    have h2 : (x / 2 ^ j ^^^ y / 2 ^ j) ^^^ y / 2 ^ j = 0 ^^^ y / 2 ^ j := by rw [h]
    rw [Nat.xor_assoc, Nat.xor_self, Nat.xor_zero, Nat.zero_xor] at h2
    exact h2
  · intro h; rw [h, Nat.xor_self]
theorem lz_iff (s x y k : Nat) (hs : s ≤ 64) (hx : x < 2 ^ s) (hy : y < 2 ^ s) (hk : k ≤ s) : k ≤ s - Lib.bitLen (x ^^^ y) ↔ x / 2 ^ (s - k) = y / 2 ^ (s - k) := by
  have hxy : x ^^^ y < 2 ^ s := Nat.xor_lt_two_pow hx hy
  have h64 : x ^^^ y < 2 ^ 64 := Nat.lt_of_lt_of_le hxy (Nat.pow_le_pow_right (by decide) hs)
  have hl := (bitLen_iff (x ^^^ y) s h64 hs).2 hxy
  rw [← xor_lt, ← bitLen_iff _ _ h64 (by omega)]
  omega

def alikeN (six : Bool) (a b : Nat) : Nat :=
  if six then (if a / 18446744073709551616 = b / 18446744073709551616 then 64 + (64 - Lib.bitLen (a % 18446744073709551616 ^^^ b % 18446744073709551616)) else 64 - Lib.bitLen (a / 18446744073709551616 ^^^ b / 18446744073709551616))
  else 32 - Lib.bitLen (a ^^^ b)

theorem alike_le (six : Bool) (a b : Nat) : alikeN six a b ≤ wd six := by
  unfold alikeN wd; cases six <;> simp <;> (try split) <;> omega

theorem alike_iff (six : Bool) (a b k : Nat) (ha : Fits six a) (hb : Fits six b) (hk : k ≤ wd six) : k ≤ alikeN six a b ↔ a / 2 ^ (wd six - k) = b / 2 ^ (wd six - k) := by
  cases six
  · exact lz_iff 32 a b k (by decide) ha hb hk
  · have hk' : k ≤ 128 := hk
    have ha' : a < 2 ^ 128 := ha
    have hb' : b < 2 ^ 128 := hb
    unfold alikeN
    simp only [if_true, wd]
    have hA : a / 18446744073709551616 < 2 ^ 64 := by omega
    have hB : b / 18446744073709551616 < 2 ^ 64 := by omega
    have hC : a % 18446744073709551616 < 2 ^ 64 := by omega
    have hD : b % 18446744073709551616 < 2 ^ 64 := by omega
    have hi : ∀ j, j ≤ 64 → (a / 2 ^ (128 - j) = a / 18446744073709551616 / 2 ^ (64 - j) ∧ b / 2 ^ (128 - j) = b / 18446744073709551616 / 2 ^ (64 - j)) := fun j hj => by
      rw [show 128 - j = 64 + (64 - j) by omega, Nat.pow_add, ← Nat.div_div_eq_div_mul, ← Nat.div_div_eq_div_mul]
      exact ⟨rfl, rfl⟩
    by_cases he : a / 18446744073709551616 = b / 18446744073709551616
    · rw [if_pos he]
      by_cases hk2 : k ≤ 64
      · rw [(hi k hk2).1, (hi k hk2).2, he]
        exact ⟨fun _ => rfl, fun _ => by omega⟩
      · have := lz_iff 64 _ _ (k - 64) (by decide) hC hD (by omega)
        have e : 64 - (k - 64) = 128 - k := by omega
        rw [e] at this
        obtain ⟨j, hj⟩ : ∃ j, (128 - k) + j = 64 := ⟨64 - (128 - k), by omega⟩
        have e3 : (18446744073709551616 : Nat) = 2 ^ (128 - k) * 2 ^ j := by rw [← Nat.pow_add, hj]
        have m1 := Nat.mod_mul_right_div_self a (2 ^ (128 - k)) (2 ^ j)
        have m2 := Nat.mod_mul_right_div_self b (2 ^ (128 - k)) (2 ^ j)
        have d1 : a / 2 ^ (128 - k) / 2 ^ j = a / 18446744073709551616 := by rw [Nat.div_div_eq_div_mul, ← e3]
        have d2 : b / 2 ^ (128 - k) / 2 ^ j = b / 18446744073709551616 := by rw [Nat.div_div_eq_div_mul, ← e3]
        rw [← e3] at m1 m2
        rw [m1, m2] at this
        have q1 := Nat.div_add_mod (a / 2 ^ (128 - k)) (2 ^ j)
        have q2 := Nat.div_add_mod (b / 2 ^ (128 - k)) (2 ^ j)
        rw [d1] at q1
        rw [d2, ← he] at q2
        have step : (k ≤ 64 + (64 - Lib.bitLen (a % 18446744073709551616 ^^^ b % 18446744073709551616))) ↔ (k - 64 ≤ 64 - Lib.bitLen (a % 18446744073709551616 ^^^ b % 18446744073709551616)) := by omega
        rw [step, this]
        constructor
        · intro h; rw [← q1, ← q2, h]
        · intro h; rw [h]
    · rw [if_neg he]
      by_cases hk2 : k ≤ 64
      · rw [(hi k hk2).1, (hi k hk2).2]
        exact lz_iff 64 _ _ k (by decide) hA hB hk2
      · constructor
        · intro h; omega
        · intro h
          exfalso
          apply he
          have h2 : a / 2 ^ (128 - k) / 2 ^ (k - 64) = b / 2 ^ (128 - k) / 2 ^ (k - 64) := by rw [h]
          rw [Nat.div_div_eq_div_mul, Nat.div_div_eq_div_mul, ← Nat.pow_add, show 128 - k + (k - 64) = 64 by omega] at h2
          exact h2
end Wc
