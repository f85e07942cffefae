
/- Contracts of addr.Plus, addr.Next over numbers; ahead. -/
import Derived.Test.YtlcacocecdnpnaaAddr
set_option linter.unusedVariables false
namespace Go.Proofs.Ytlcacocecdnpnaa
open Go.RowKit Go.Sort Wc Wk

theorem may_four_bad (lo : Int) (w : World) (h : 4294967296 ≤ lo) :
    Calls Try.prog 44 #[.agg #[.bool false, .int .u64 0, .int .u64 lo]] w fun e w' => e = .returned (.bool false) ∧ Below w.heap.size w w' := by
  have h2 : (lo / 4294967296 == 0) = false := by rw [beq_eq_false_iff_ne]; omega
  go_enter Try.func44, Try.ntmps44
  go_wp2
  go_returns
  exact ⟨rfl, by (repeat' (first | (with_reducible exact Below.refl _ _) | (with_reducible assumption) | (with_reducible refine Below.al ?_ _) | (with_reducible refine Below.dr ?_) | (with_reducible refine Below.step ?_ (by assumption)) | (with_reducible refine Below.set ?_ ?_ _) | omega | (dsimp only; omega) | (simp; done) | (simp; omega)))⟩

theorem may_words (six : Bool) (n : Nat) (hi lo : Int) (h : Fits six n) (h1 : hi = hiOf six n) (h2 : lo = loOf n) :
    Hid (∀ w, Calls Try.prog 44 #[.agg #[.bool six, .int .u64 hi, .int .u64 lo]] w fun e w' => e = .returned (.bool true) ∧ Below w.heap.size w w') := by
  subst h1 h2
  exact fun w => may_any six n w h

theorem words_six (n : Nat) (hi lo : Int) (h : (n : Int) = hi * 18446744073709551616 + lo) (h' : 0 ≤ lo ∧ lo < 18446744073709551616) : hi = hiOf true n ∧ lo = loOf n := by
  unfold hiOf loOf; simp; omega
theorem words_four (n : Nat) (lo : Int) (h : (n : Int) = lo) (h' : 0 ≤ lo ∧ lo < 4294967296) : (0 : Int) = hiOf false n ∧ lo = loOf n := by
  unfold hiOf loOf; simp; omega
theorem fits_six (n : Nat) (hi lo : Int) (h : (n : Int) = hi * 18446744073709551616 + lo) (h0 : hi < 18446744073709551616) (h' : 0 ≤ lo ∧ lo < 18446744073709551616) : Fits true n := by
  unfold Fits wd; simp; omega

theorem lt_words {six : Bool} {a b : Nat} (ha : Fits six a) (hb : Fits six b) : (hiOf six a < hiOf six b ∨ hiOf six a = hiOf six b ∧ loOf a < loOf b) ↔ a < b := by
  cases six
  · rw [loOf_false ha, loOf_false hb, hiOf_false, hiOf_false]; omega
  · have := six_split ha; have := six_split hb; have := loOf_range a; have := loOf_range b; omega

end Go.Proofs.Ytlcacocecdnpnaa
