
/- Shares: the library's small functions. -/
import Derived.Test.YticfcigkldkhmaaShP2
import Derived.Test.YticfcigkldkhmaaPres
set_option linter.unusedVariables false
set_option linter.unusedSimpArgs false
namespace Go.Proofs.Yticfcigkldkhmaa
open Go Go.RowKit Go.Sort Wc Wk

theorem isNaN_int (x : Int) (w : World) : Calls Try.prog 104 #[.int .i64 x] w fun e w' => e = .returned (.bool false) ∧ w = w' := by
  go_enter Try.func104, Try.ntmps104
  go_wp2_with fail
  go_returns
  exact ⟨by simp, rfl⟩
def cmpI (x y : Int) : Int := if x < y then -1 else if y < x then 1 else 0
theorem compare_int (x y : Int) (w : World) : Calls Try.prog 87 #[.int .i64 x, .int .i64 y] w fun e w' => e = .returned (.int .i64 (cmpI x y)) ∧ w = w' := by
  have N := Lib.hid (fun x w => isNaN_int x w)
  unfold cmpI
  by_cases h1 : x < y
  · rw [if_pos h1]
    go_enter Try.func87, Try.ntmps87
    go_wp2_with (refine (N.out _ _).mono ?_; rintro e w' ⟨rfl, rfl⟩)
    all_goals (go_returns; exact ⟨rfl, rfl⟩)
  · rw [if_neg h1]
    by_cases h2 : y < x
    · rw [if_pos h2]
      go_enter Try.func87, Try.ntmps87
      go_wp2_with (refine (N.out _ _).mono ?_; rintro e w' ⟨rfl, rfl⟩)
      all_goals (go_returns; exact ⟨rfl, rfl⟩)
    · rw [if_neg h2]
      go_enter Try.func87, Try.ntmps87
      go_wp2_with (refine (N.out _ _).mono ?_; rintro e w' ⟨rfl, rfl⟩)
      all_goals (go_returns; exact ⟨rfl, rfl⟩)
end Go.Proofs.Yticfcigkldkhmaa
