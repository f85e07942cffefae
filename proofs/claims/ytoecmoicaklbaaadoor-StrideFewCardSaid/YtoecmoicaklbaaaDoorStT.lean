
/- Trees of strides: plain laws: numbers of bits, one by one. -/
import Derived.Test.YtoecmoicaklbaaaDoorStR
import Derived.Laws.Bits64b
set_option linter.unusedVariables false
set_option linter.unusedSimpArgs false
namespace Go.Proofs.YtoecmoicaklbaaaDoor
open Go Go.RowKit Go.Sort Wc Wk

def pkB (P : Nat → Bool) (k : Nat) : List Nat := (List.range k).filter P
theorem pk_yes {P : Nat → Bool} {k : Nat} (h : P k = true) : pkB P (k + 1) = pkB P k ++ [k] := by
  unfold pkB
  rw [List.range_succ, List.filter_append]
  simp [h]
theorem pk_no {P : Nat → Bool} {k : Nat} (h : P k = false) : pkB P (k + 1) = pkB P k := by
  unfold pkB
  rw [List.range_succ, List.filter_append]
  simp [h]
theorem pk_len (P : Nat → Bool) (k : Nat) : (pkB P k).length ≤ k := by
  unfold pkB
  exact Nat.le_trans (List.length_filter_le _ _) (by simp)
theorem sumB_snoc (l : List Nat) (k : Nat) : sumB (l ++ [k]) = sumB l + 2 ^ k := by simp [sumB]
theorem sum_pk_lt (P : Nat → Bool) : ∀ k, sumB (pkB P k) < 2 ^ k
  | 0 => by simp [pkB, sumB]
  | k + 1 => by
    have ih := sum_pk_lt P k
    rw [Nat.pow_succ]
    cases h : P k with
    | true => rw [pk_yes h, sumB_snoc]; omega
    | false => rw [pk_no h]; omega
theorem sum_pk_or {P : Nat → Bool} {k : Nat} (h : P k = true) (hk : k < 16) : bits .or .u64 (sumB (pkB P k) : Nat) (IntKind.u64.wrap (2 ^ k)) = (sumB (pkB P (k + 1)) : Nat) := by
  have h1 := sum_pk_lt P k
  have h2 : 2 ^ k ≤ 32768 := Nat.le_trans (Nat.pow_le_pow_right (by decide) (show k ≤ 15 by omega)) (by decide)
  have e1 : IntKind.u64.wrap (2 ^ k) = ((2 ^ k : Nat) : Int) := by
    have : ((2 : Int) ^ k) = ((2 ^ k : Nat) : Int) := by simp
    rw [this, IntKind.wrap_u64]
    omega
  rw [e1, bits_or_u64_nat _ _ (by omega) (by omega), pk_yes h, sumB_snoc]
  have := Nat.two_pow_add_eq_or_of_lt h1 1
  rw [Nat.mul_one, Nat.or_comm] at this
  rw [← this]
  omega
theorem sum_pk_small (P : Nat → Bool) {k : Nat} (hk : k ≤ 16) : sumB (pkB P k) < 65536 :=
  Nat.lt_of_lt_of_le (sum_pk_lt P k) (Nat.le_trans (Nat.pow_le_pow_right (by decide) hk) (by decide))
end Go.Proofs.YtoecmoicaklbaaaDoor
