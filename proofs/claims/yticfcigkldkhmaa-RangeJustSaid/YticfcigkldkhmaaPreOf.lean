
/- The laws' own makers of prefixes. -/
import Derived.Test.YticfcigkldkhmaaPre6
set_option linter.unusedVariables false
namespace Go.Proofs.Yticfcigkldkhmaa
open Go.RowKit Go.Sort Wc Wk

theorem kwide_any (six : Bool) (w : World) : Calls Try.prog 26 #[.bool six] w fun e w' => e = .returned (.int .i64 (wdI six)) ∧ w = w' := by
  cases six
  all_goals
    go_enter Try.func26, Try.ntmps26
    go_wp2
    go_returns
    exact ⟨rfl, rfl⟩


theorem preSure_any (w : World) : Calls Try.prog 49 #[] w fun e w' => e = .returned (.bool true) ∧ Below w.heap.size w w' := by
  have hv : VP false 16 28 := ⟨by unfold Fits wd; decide, by decide, by decide⟩
  have hf : Fits false 17 := by unfold Fits wd; decide
  have P : Hid (∀ w, Calls Try.prog 43 #[.agg #[.bool false, .int .u64 0, .int .u64 16, .int .i64 28], .agg #[.bool false, .int .u64 0, .int .u64 17]] w fun e w' => e = .returned (.tuple #[.bool true, .int .i64 0]) ∧ Below w.heap.size w w') := fun w => by
    have h := has_ok false 16 28 17 w hv hf
    rw [show decide (cutN (wd false) 17 28 = 16) = true from by decide] at h
    exact h
  clear hv hf
  go_enter Try.func49, Try.ntmps49
  go_wp2_with (first | ((with_reducible refine (P.out _).mono ?_); rintro e w1 ⟨rfl, hb1⟩; (repeat (with_reducible (replace hb1 := Below.undrew hb1))); obtain ⟨hc1, hf1⟩ := bcell hb1; have hz1 := hb1.size; (repeat (first | rw [World.size_alloc] at hz1 | rw [World.size_drew] at hz1 | rw [World.size_setCell] at hz1)); (try have : w.heap.size < w1.heap.size := by omega); (try have : w.heap.size < w1.heap.size + 1 := by omega); (try have : w.heap.size < w1.heap.size + 1 + 1 := by omega); (try have : w.heap.size < w1.heap.size + 1 + 1 + 1 := by omega); (try have : w.heap.size + 1 < w1.heap.size := by omega); (try have : w.heap.size + 1 < w1.heap.size + 1 := by omega); (try have : w.heap.size + 1 < w1.heap.size + 1 + 1 := by omega); (try have : w.heap.size + 1 < w1.heap.size + 1 + 1 + 1 := by omega); (try have : w.heap.size + 2 < w1.heap.size := by omega); (try have : w.heap.size + 2 < w1.heap.size + 1 := by omega); (try have : w.heap.size + 2 < w1.heap.size + 1 + 1 := by omega); (try have : w.heap.size + 2 < w1.heap.size + 1 + 1 + 1 := by omega)))
  go_returns
  exact ⟨rfl, by (repeat' (first | (with_reducible exact Below.refl _ _) | (with_reducible assumption) | (with_reducible refine Below.al ?_ _) | (with_reducible refine Below.dr ?_) | (with_reducible refine Below.step ?_ (by assumption)) | (with_reducible refine Below.set ?_ ?_ _) | omega | (dsimp only; omega) | (simp; done) | (simp; omega)))⟩
theorem shl_back (x : Int) (j : Nat) (h0 : 0 ≤ x) (h1 : x < 18446744073709551616) (hj : j ≤ 64) : IntKind.u64.wrap (x / 2 ^ j * 2 ^ j) = bits .and .u64 x ((18446744073709551616 - 2 ^ j : Nat) : Int) := by
  obtain ⟨n, rfl⟩ := Int.eq_ofNat_of_zero_le h0
  have h2 := pow_pos' j
  rw [u64_and_nat _ _ (by omega) (by omega)]
  have := and_high n j 64 (by omega) hj
  rw [show (2 : Nat) ^ 64 = 18446744073709551616 from rfl] at this
  rw [this]
  have e : ((n : Int) / 2 ^ j * 2 ^ j) = ((n / 2 ^ j * 2 ^ j : Nat) : Int) := by simp
  have hle : n / 2 ^ j * 2 ^ j ≤ n := Nat.div_mul_le_self _ _
  rw [e, IntKind.wrap_u64]
  exact Int.emod_eq_of_lt (Int.natCast_nonneg _) (by omega)
theorem shl_back32 (x : Int) (j : Nat) (h0 : 0 ≤ x) (h1 : x < 4294967296) (hj : j ≤ 32) : IntKind.u64.wrap (x / 2 ^ j * 2 ^ j) = bits .and .u64 x ((4294967296 - 2 ^ j : Nat) : Int) := by
  obtain ⟨n, rfl⟩ := Int.eq_ofNat_of_zero_le h0
  have h2 := pow_pos' j
  rw [u64_and_nat _ _ (by omega) (by omega)]
  have := and_high n j 32 (by omega) hj
  rw [show (2 : Nat) ^ 32 = 4294967296 from rfl] at this
  rw [this]
  have e : ((n : Int) / 2 ^ j * 2 ^ j) = ((n / 2 ^ j * 2 ^ j : Nat) : Int) := by simp
  have hle : n / 2 ^ j * 2 ^ j ≤ n := Nat.div_mul_le_self _ _
  rw [e, IntKind.wrap_u64]
  exact Int.emod_eq_of_lt (Int.natCast_nonneg _) (by omega)
theorem shl_four {n k : Nat} (h : Fits false n) (hk : k ≤ 32) : IntKind.u64.wrap (loOf n / 2 ^ (32 - k) * 2 ^ (32 - k)) = loOf (cutN 32 n k) := by
  rw [shl_back32 _ _ (loOf_small h).1 (loOf_small h).2 (by omega)]
  exact (cut_four h hk).2
theorem shl_hi {n k : Nat} (h : Fits true n) (hk : k ≤ 64) : IntKind.u64.wrap (hiOf true n / 2 ^ (64 - k) * 2 ^ (64 - k)) = hiOf true (cutN 128 n k) ∧ (0 : Int) = loOf (cutN 128 n k) := by
  rw [shl_back _ _ (hiOf_range h).1 (hiOf_range h).2 (by omega)]
  have c := cut_six h (show k ≤ 128 by omega)
  unfold maskHi maskLo at c
  simp only [if_true] at c
  rw [show min k 64 = k by omega, show k - 64 = 0 by omega] at c
  refine ⟨c.1, ?_⟩
  rw [← c.2]
  obtain ⟨m, hm⟩ := Int.eq_ofNat_of_zero_le (loOf_range n).1
  have hm2 := (loOf_range n).2
  have e : ((18446744073709551616 - 2 ^ (64 - 0) : Nat) : Int) = ((0 : Nat) : Int) := by decide
  rw [hm, e, u64_and_nat _ _ (by omega) (by omega)]
  simp
theorem shl_lo {n k : Nat} (h : Fits true n) (h0 : 64 < k) (hk : k ≤ 128) : IntKind.u64.wrap (loOf n / 2 ^ (128 - k) * 2 ^ (128 - k)) = loOf (cutN 128 n k) ∧ hiOf true n = hiOf true (cutN 128 n k) := by
  rw [shl_back _ _ (loOf_range n).1 (loOf_range n).2 (by omega)]
  have c := cut_six h (show k ≤ 128 by omega)
  unfold maskHi maskLo at c
  simp only [if_true] at c
  rw [show min k 64 = 64 by omega, show 64 - (k - 64) = 128 - k by omega] at c
  refine ⟨c.2, ?_⟩
  rw [← c.1]
  obtain ⟨m, hm⟩ := Int.eq_ofNat_of_zero_le (hiOf_range h).1
  have hm2 := (hiOf_range h).2
  have e : ((18446744073709551616 - 2 ^ (64 - 64) : Nat) : Int) = ((18446744073709551615 : Nat) : Int) := by decide
  rw [hm] at hm2 ⊢
  rw [e, u64_and_nat _ _ (by omega) (by omega)]
  have := Nat.and_two_pow_sub_one_eq_mod m 64
  rw [show (2 : Nat) ^ 64 - 1 = 18446744073709551615 from rfl] at this
  rw [this]
  omega

/-- The length that a number picks. -/
def pickLen (six : Bool) (n : Int) : Nat := (n % (wdI six + 1)).toNat
theorem pickLen_le (six : Bool) (n : Int) : pickLen six n ≤ wd six := by
  unfold pickLen
  have e : wdI six = (wd six : Int) := (pwide_range six).2.2
  have := Int.emod_lt_of_pos n (show 0 < wdI six + 1 by rw [e]; omega)
  omega
end Go.Proofs.Yticfcigkldkhmaa
