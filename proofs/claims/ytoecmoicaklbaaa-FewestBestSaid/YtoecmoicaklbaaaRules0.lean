
/- A small law on quotients. -/
import Derived.Test.YtoecmoicaklbaaaPres
set_option linter.unusedVariables false
namespace Go.Proofs.Ytoecmoicaklbaaa
open Go.RowKit Go.Sort Wc Wk
theorem wrap_tdiv (x c : Int) (h : -9223372036854775808 ≤ x ∧ x ≤ 9223372036854775807) (hc : c ≠ -1 := by decide) : IntKind.i64.wrap (x.tdiv c) = x.tdiv c := by
  have h1 : (x.tdiv c).natAbs ≤ x.natAbs := by rw [Int.natAbs_tdiv]; exact Nat.div_le_self _ _
  by_cases hx : x.tdiv c = 9223372036854775808
  · exfalso
    have h2 : x = -9223372036854775808 := by omega
    subst h2
    have h3 : ((-9223372036854775808 : Int).tdiv c).natAbs = (9223372036854775808 : Nat) / c.natAbs := by rw [Int.natAbs_tdiv]; rfl
    rw [hx] at h3
    have h4 : c.natAbs = 1 := by
      rcases Nat.lt_or_ge c.natAbs 2 with h | h
      · rcases Nat.lt_or_ge c.natAbs 1 with h' | h'
        · have : c.natAbs = 0 := by omega
          rw [this] at h3; simp at h3
        · omega
      · have : (9223372036854775808 : Nat) / c.natAbs ≤ 9223372036854775808 / 2 := Nat.div_le_div_left h (by decide)
        have h5 : (9223372036854775808 : Int).natAbs = 9223372036854775808 := rfl
        omega
    have h6 : c = 1 := by omega
    subst h6
    rw [Int.tdiv_one] at hx
    omega
  · exact IntWalk.i64_in _ (by omega)

end Go.Proofs.Ytoecmoicaklbaaa
