
/- Contracts of package addr's number functions and of the laws' small helpers. -/
import Derived.Test.YtoecmoicaklbaaaDoorRows
import Derived.Test.YtoecmoicaklbaaaDoorPlain
import Derived.Test.YtoecmoicaklbaaaDoorKit
import Derived.WalkKit
import Derived.WalkSpells
import Derived.WalkLawsBesides
import Derived.BigQuiet
import Derived.Handy
import Derived.Lib.QuietBelow
import Derived.BigRegion
import Derived.Deep.RegionHeld3
import Derived.Shelf.Spec.BitsCarry
set_option linter.unusedVariables false
namespace Go.Proofs.YtoecmoicaklbaaaDoor
open Go.RowKit Go.Sort Wc Wk

theorem picked_plain (a n : Int) (h0 : 1 ≤ n) (h1 : n < 1152921504606846976) : (a.tmod n < 0 → wrap64 (a.tmod n + n) = a % n) ∧ (0 ≤ a.tmod n → a.tmod n = a % n) := by
  have e := @Int.tmod_eq_emod a n
  have h2 := Int.emod_nonneg a (show n ≠ 0 by omega)
  have h3 := Int.emod_lt_of_pos a (show 0 < n by omega)
  split at e
  · exact ⟨fun h => by omega, fun h => by omega⟩
  · exact ⟨fun h => by rw [wrap64_in (by omega) (by omega)]; omega, fun h => by omega⟩

set_option maxHeartbeats 400000 in
theorem picked_any (a n : Int) (w : World) (h0 : 1 ≤ n) (h1 : n < 1152921504606846976) :
    Calls Tryd.prog 10 #[.int .i64 a, .int .i64 n] w fun e w' => e = .returned (.int .i64 (a % n)) ∧ w = w' := by
  have hp := picked_plain a n h0 h1
  have H := Lib.hid hp
  clear hp
  go_enter Tryd.func10, Tryd.ntmps10
  go_wp2
  all_goals go_returns
  · rename_i h; exact ⟨ret_int (H.out.1 h), rfl⟩
  · rename_i h; exact ⟨ret_int (H.out.2 h), rfl⟩

/-- The number that raw words make. -/
def rawN (six : Bool) (hi lo : Int) : Nat := if six then (hi * 18446744073709551616 + lo).toNat else (lo % 4294967296).toNat
theorem rawN_fits (six : Bool) (hi lo : Int) (h : 0 ≤ hi ∧ hi < 18446744073709551616) (h' : 0 ≤ lo ∧ lo < 18446744073709551616) : Fits six (rawN six hi lo) := by
  cases six <;> simp only [rawN, Fits, wd] <;> simp <;> omega
theorem rawN_true (hi lo : Int) (h : 0 ≤ hi ∧ hi < 18446744073709551616) (h' : 0 ≤ lo ∧ lo < 18446744073709551616) : hiOf true (rawN true hi lo) = hi ∧ loOf (rawN true hi lo) = lo := by
  simp only [rawN, hiOf, loOf]; simp; omega
theorem rawN_false (hi lo : Int) (h' : 0 ≤ lo ∧ lo < 18446744073709551616) : hiOf false (rawN false hi lo) = 0 ∧ loOf (rawN false hi lo) = lo % 4294967296 := by
  simp only [rawN, hiOf, loOf]; simp; omega

theorem may_any (six : Bool) (n : Nat) (w : World) (h : Fits six n) :
    Calls Tryd.prog 23 #[Value.agg #[.bool six, .int .u64 (hiOf six n), .int .u64 (loOf n)]] w fun e w' => e = .returned (.bool true) ∧ Below w.heap.size w w' := by
  cases six
  · obtain ⟨h0, h1⟩ := loOf_small h
    clear h
    rw [hiOf_false]
    have h2 : (loOf n / 4294967296 == 0) = true := by rw [beq_iff_eq]; omega
    go_enter Tryd.func23, Tryd.ntmps23
    go_wp2
    go_returns
    exact ⟨rfl, by (repeat' (first | (with_reducible exact Below.refl _ _) | (with_reducible assumption) | (with_reducible refine Below.al ?_ _) | (with_reducible refine Below.dr ?_) | (with_reducible refine Below.step ?_ (by assumption)) | (with_reducible refine Below.set ?_ ?_ _) | omega | (dsimp only; omega) | (simp; done) | (simp; omega)))⟩
  · go_enter Tryd.func23, Tryd.ntmps23
    go_wp2
    go_returns
    exact ⟨rfl, by (repeat' (first | (with_reducible exact Below.refl _ _) | (with_reducible assumption) | (with_reducible refine Below.al ?_ _) | (with_reducible refine Below.dr ?_) | (with_reducible refine Below.step ?_ (by assumption)) | (with_reducible refine Below.set ?_ ?_ _) | omega | (dsimp only; omega) | (simp; done) | (simp; omega)))⟩

theorem wide_any (six : Bool) (w : World) : Calls Tryd.prog 66 #[.bool six] w fun e w' => e = .returned (.int .i64 (wdI six)) ∧ w = w' := by
  cases six
  all_goals
    go_enter Tryd.func66, Tryd.ntmps66
    go_wp2
    go_returns
    exact ⟨rfl, rfl⟩

theorem at_any (six : Bool) (n : Nat) (i : Int) (w : World) (h : Fits six n) (h0 : 0 ≤ i) (h1 : i < wdI six) :
    Calls Tryd.prog 81 #[Value.agg #[.bool six, .int .u64 (hiOf six n), .int .u64 (loOf n)], .int .i64 i] w fun e w' => e = .returned (.int .i64 (bitAt six n i.toNat : Nat)) ∧ Below w.heap.size w w' := by
  obtain ⟨r0, r1⟩ := loOf_range n
  obtain ⟨s0, s1⟩ := hiOf_range h
  cases six
  · have h1' : i < 32 := h1
    clear h1
    have H := Lib.hid (bit_four h i h0 h1')
    have H2 := Lib.hid (and_one _ r0 r1 (31 - i).toNat)
    clear h
    go_enter Tryd.func81, Tryd.ntmps81
    go_wp2
    go_returns
    exact ⟨ret_int (H2.out.trans H.out), by (repeat' (first | (with_reducible exact Below.refl _ _) | (with_reducible assumption) | (with_reducible refine Below.al ?_ _) | (with_reducible refine Below.dr ?_) | (with_reducible refine Below.step ?_ (by assumption)) | (with_reducible refine Below.set ?_ ?_ _) | omega | (dsimp only; omega) | (simp; done) | (simp; omega)))⟩
  · have h1' : i < 128 := h1
    clear h1
    by_cases h2 : i < 64
    · have H := Lib.hid (bit_hi n i h0 h2)
      have H2 := Lib.hid (and_one _ s0 s1 (63 - i).toNat)
      clear h
      go_enter Tryd.func81, Tryd.ntmps81
      go_wp2
      go_returns
      exact ⟨ret_int (H2.out.trans H.out), by (repeat' (first | (with_reducible exact Below.refl _ _) | (with_reducible assumption) | (with_reducible refine Below.al ?_ _) | (with_reducible refine Below.dr ?_) | (with_reducible refine Below.step ?_ (by assumption)) | (with_reducible refine Below.set ?_ ?_ _) | omega | (dsimp only; omega) | (simp; done) | (simp; omega)))⟩
    · have H := Lib.hid (bit_lo n i (by omega) h1')
      have H2 := Lib.hid (and_one _ r0 r1 (127 - i).toNat)
      clear h
      go_enter Tryd.func81, Tryd.ntmps81
      go_wp2
      go_returns
      exact ⟨ret_int (H2.out.trans H.out), by (repeat' (first | (with_reducible exact Below.refl _ _) | (with_reducible assumption) | (with_reducible refine Below.al ?_ _) | (with_reducible refine Below.dr ?_) | (with_reducible refine Below.step ?_ (by assumption)) | (with_reducible refine Below.set ?_ ?_ _) | omega | (dsimp only; omega) | (simp; done) | (simp; omega)))⟩

end Go.Proofs.YtoecmoicaklbaaaDoor

/- Contracts of addr.Plus, addr.Next over numbers; ahead. -/
set_option linter.unusedVariables false
namespace Go.Proofs.YtoecmoicaklbaaaDoor
open Go.RowKit Go.Sort Wc Wk

theorem may_four_bad (lo : Int) (w : World) (h : 4294967296 ≤ lo) :
    Calls Tryd.prog 23 #[.agg #[.bool false, .int .u64 0, .int .u64 lo]] w fun e w' => e = .returned (.bool false) ∧ Below w.heap.size w w' := by
  have h2 : (lo / 4294967296 == 0) = false := by rw [beq_eq_false_iff_ne]; omega
  go_enter Tryd.func23, Tryd.ntmps23
  go_wp2
  go_returns
  exact ⟨rfl, by (repeat' (first | (with_reducible exact Below.refl _ _) | (with_reducible assumption) | (with_reducible refine Below.al ?_ _) | (with_reducible refine Below.dr ?_) | (with_reducible refine Below.step ?_ (by assumption)) | (with_reducible refine Below.set ?_ ?_ _) | omega | (dsimp only; omega) | (simp; done) | (simp; omega)))⟩

theorem may_words (six : Bool) (n : Nat) (hi lo : Int) (h : Fits six n) (h1 : hi = hiOf six n) (h2 : lo = loOf n) :
    Hid (∀ w, Calls Tryd.prog 23 #[.agg #[.bool six, .int .u64 hi, .int .u64 lo]] w fun e w' => e = .returned (.bool true) ∧ Below w.heap.size w w') := by
  subst h1 h2
  exact fun w => may_any six n w h

theorem words_six (n : Nat) (hi lo : Int) (h : (n : Int) = hi * 18446744073709551616 + lo) (h' : 0 ≤ lo ∧ lo < 18446744073709551616) : hi = hiOf true n ∧ lo = loOf n := by
  unfold hiOf loOf; simp; omega
theorem words_four (n : Nat) (lo : Int) (h : (n : Int) = lo) (h' : 0 ≤ lo ∧ lo < 4294967296) : (0 : Int) = hiOf false n ∧ lo = loOf n := by
  unfold hiOf loOf; simp; omega
theorem fits_six (n : Nat) (hi lo : Int) (h : (n : Int) = hi * 18446744073709551616 + lo) (h0 : hi < 18446744073709551616) (h' : 0 ≤ lo ∧ lo < 18446744073709551616) : Fits true n := by
  unfold Fits wd; simp; omega

theorem lt_words {six : Bool} {a b : Nat} (ha : Fits six a) (hb : Fits six b) : (hiOf six a < hiOf six b ∨ hiOf six a = hiOf six b ∧ loOf a < loOf b) ↔ a < b := by
  cases six
  · rw [loOf_false ha, loOf_false hb, hiOf_false, hiOf_false]; omega
  · have := six_split ha; have := six_split hb; have := loOf_range a; have := loOf_range b; omega

end Go.Proofs.YtoecmoicaklbaaaDoor
