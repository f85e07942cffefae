
/- Plain arithmetic of addresses and prefixes: an address is a family and a number; a prefix is a number and a length. No program in sight. -/
import Derived.WalkKit
import Derived.Laws.BitsAllLaws
namespace Wc
open Go Go.RowKit

def wd (six : Bool) : Nat := if six then 128 else 32
def wdI (six : Bool) : Int := if six then 128 else 32
def hiOf (six : Bool) (n : Nat) : Int := if six then ((n / 18446744073709551616 : Nat) : Int) else 0
def loOf (n : Nat) : Int := ((n % 18446744073709551616 : Nat) : Int)
/-- The number fits its family. -/
def Fits (six : Bool) (n : Nat) : Prop := n < 2 ^ wd six
def bitAt (six : Bool) (n i : Nat) : Nat := n / 2 ^ (wd six - 1 - i) % 2
def cutN (w n k : Nat) : Nat := n / 2 ^ (w - k) * 2 ^ (w - k)

theorem hiOf_false (n : Nat) : hiOf false n = 0 := rfl
theorem hiOf_true (n : Nat) : hiOf true n = ((n / 18446744073709551616 : Nat) : Int) := rfl
theorem loOf_range (n : Nat) : 0 ≤ loOf n ∧ loOf n < 18446744073709551616 := by unfold loOf; omega
theorem loOf_false {n : Nat} (h : Fits false n) : loOf n = (n : Int) := by unfold loOf; unfold Fits wd at h; simp at h; omega
theorem loOf_small {n : Nat} (h : Fits false n) : 0 ≤ loOf n ∧ loOf n < 4294967296 := by rw [loOf_false h]; unfold Fits wd at h; simp at h; omega
theorem hiOf_range {six : Bool} {n : Nat} (h : Fits six n) : 0 ≤ hiOf six n ∧ hiOf six n < 18446744073709551616 := by
  unfold Fits wd at h
  cases six
  · exact ⟨by simp [hiOf], by simp [hiOf]⟩
  · simp at h; rw [hiOf_true]; omega
theorem six_split {n : Nat} (_h : Fits true n) : (n : Int) = hiOf true n * 18446744073709551616 + loOf n := by
  rw [hiOf_true]; unfold loOf; omega
theorem addr_eq {six : Bool} {a b : Nat} (ha : Fits six a) (hb : Fits six b) : (hiOf six a = hiOf six b ∧ loOf a = loOf b) ↔ a = b := by
  constructor
  · intro ⟨h1, h2⟩
    cases six
    · rw [loOf_false ha, loOf_false hb] at h2; omega
    · have := six_split ha; have := six_split hb; omega
  · rintro rfl; exact ⟨rfl, rfl⟩

theorem fits_lt {six : Bool} {a b : Nat} (h : Fits six b) (hab : a ≤ b) : Fits six a := Nat.lt_of_le_of_lt hab h

/-! ### masks -/
theorem wrap64_in {x : Int} (h : -9223372036854775808 ≤ x) (h' : x ≤ 9223372036854775807) : wrap64 x = x := IntWalk.wrap64_in x ⟨h, h'⟩
theorem and_one (x : Int) (h : 0 ≤ x) (h' : x < 18446744073709551616) (k : Nat) : wrap64 (bits .and .u64 (x / 2 ^ k) 1) = x / 2 ^ k % 2 := by
  obtain ⟨n, rfl⟩ := Int.eq_ofNat_of_zero_le h
  have e : ((n : Int) / 2 ^ k) = ((n / 2 ^ k : Nat) : Int) := by simp
  have hl : n / 2 ^ k ≤ n := Nat.div_le_self _ _
  rw [e, show (1 : Int) = ((1 : Nat) : Int) from rfl, u64_and_nat _ _ (by omega) (by omega), nat_mask1]
  rw [wrap64_in (by omega) (by omega)]
  omega
theorem mod_div (n a b : Nat) : n % 2 ^ (a + b) / 2 ^ a = n / 2 ^ a % 2 ^ b := by
  rw [Nat.pow_add]; exact Nat.mod_mul_right_div_self n (2 ^ a) (2 ^ b)
theorem bit_four {n : Nat} (h : Fits false n) (i : Int) (h0 : 0 ≤ i) (h1 : i < 32) : loOf n / 2 ^ (31 - i).toNat % 2 = ((bitAt false n i.toNat : Nat) : Int) := by
  rw [loOf_false h]
  unfold bitAt wd
  have e : (31 - i).toNat = 32 - 1 - i.toNat := by omega
  simp [e]
theorem bit_hi (n : Nat) (i : Int) (h0 : 0 ≤ i) (h1 : i < 64) : hiOf true n / 2 ^ (63 - i).toNat % 2 = ((bitAt true n i.toNat : Nat) : Int) := by
  rw [hiOf_true]
  unfold bitAt wd
  have e : 128 - 1 - i.toNat = 64 + (63 - i).toNat := by omega
  simp only [if_true, e, Nat.pow_add, ← Nat.div_div_eq_div_mul]
  simp
theorem bit_lo (n : Nat) (i : Int) (h0 : 64 ≤ i) (h1 : i < 128) : loOf n / 2 ^ (127 - i).toNat % 2 = ((bitAt true n i.toNat : Nat) : Int) := by
  unfold loOf bitAt wd
  have e : 128 - 1 - i.toNat = (127 - i).toNat := by omega
  obtain ⟨k, hk⟩ : ∃ k, (127 - i).toNat + (k + 1) = 64 := ⟨63 - (127 - i).toNat, by omega⟩
  have e2 : (18446744073709551616 : Nat) = 2 ^ ((127 - i).toNat + (k + 1)) := by rw [hk]
  simp only [if_true, e, e2]
  have := mod_div n (127 - i).toNat (k + 1)
  have e3 : n / 2 ^ (127 - i).toNat % 2 ^ (k + 1) % 2 = n / 2 ^ (127 - i).toNat % 2 := Nat.mod_mod_of_dvd _ ⟨2 ^ k, by rw [Nat.pow_succ, Nat.mul_comm]⟩
  rw [← this] at e3
  have e4 : ((n % 2 ^ ((127 - i).toNat + (k + 1)) : Nat) : Int) / 2 ^ (127 - i).toNat % 2 = ((n % 2 ^ ((127 - i).toNat + (k + 1)) / 2 ^ (127 - i).toNat % 2 : Nat) : Int) := by simp
  rw [e4, e3]
theorem bitAt_le (six : Bool) (n i : Nat) : bitAt six n i ≤ 1 := by unfold bitAt; omega

/-- The first k bits alone. -/
theorem and_high (x k m : Nat) (hx : x < 2 ^ m) (hk : k ≤ m) : x &&& (2 ^ m - 2 ^ k) = x / 2 ^ k * 2 ^ k := by
  have e1 : 2 ^ m - 2 ^ k = (2 ^ (m - k) - 1) <<< k := by
    rw [Nat.shiftLeft_eq, Nat.sub_mul, Nat.one_mul, ← Nat.pow_add, Nat.sub_add_cancel hk]
  have e2 : x / 2 ^ k * 2 ^ k = (x >>> k) <<< k := by rw [Nat.shiftLeft_eq, Nat.shiftRight_eq_div_pow]
  rw [e1, e2]
  apply Nat.eq_of_testBit_eq
  intro i
  rw [Nat.testBit_and, Nat.testBit_shiftLeft, Nat.testBit_shiftLeft, Nat.testBit_shiftRight, Nat.testBit_two_pow_sub_one]
  by_cases h : k ≤ i
  · simp only [ge_iff_le, h, decide_true, Bool.true_and]
    rw [show k + (i - k) = i by omega]
    by_cases h2 : i < m
    · simp [show i - k < m - k by omega]
    · have : x.testBit i = false := Nat.testBit_lt_two_pow (Nat.lt_of_lt_of_le hx (Nat.pow_le_pow_right (by omega) (by omega)))
      simp [this]
  · simp [h]
end Wc
