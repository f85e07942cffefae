
/- The laws' maker of rules. -/
import Derived.Test.YtllemhknmleklaaRules0
set_option linter.unusedVariables false
namespace Go.Proofs.Ytllemhknmleklaa
open Go.RowKit Go.Sort Wc Wk

/-- A rule as plain data (of the family of 32 bits). -/
structure RuleD where
  yes : Bool
  n : Nat
  k : Nat
  least : Nat
  most : Nat
def RuleD.ok (r : RuleD) : Prop := VP false r.n r.k ∧ r.k ≤ r.least ∧ r.least ≤ r.most ∧ r.most ≤ 32
def ruleCells (r : RuleD) : List Value := [.bool r.yes, .bool false, .int .u64 (hiOf false r.n), .int .u64 (loOf r.n), .int .i64 r.k, .int .i64 r.least, .int .i64 r.most]
theorem ruleCells_one (r : RuleD) : ∀ u ∈ ruleCells r, u.oneCell' = true := by
  intro u hu
  simp [ruleCells] at hu
  rcases hu with rfl | rfl | rfl | rfl | rfl | rfl | rfl <;> rfl
theorem vp_zero : VP false 0 0 := ⟨by unfold Fits wd; decide, by decide, by decide⟩

end Go.Proofs.Ytllemhknmleklaa
