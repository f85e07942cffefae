
/- Contracts of package addr's number functions and of the laws' small helpers. -/
import Derived.Test.YtoecmoicaklbaaaRows
import Derived.Test.YtoecmoicaklbaaaPlain
import Derived.Test.YtoecmoicaklbaaaKit
import Derived.WalkKit
import Derived.WalkSpells
import Derived.WalkLawsBesides
import Derived.BigQuiet
import Derived.Handy
import Derived.Lib.QuietBelow
import Derived.BigRegion
import Derived.Deep.RegionHeld3
import Derived.Shelf.Spec.BitsCarry
set_option linter.unusedVariables false
namespace Go.Proofs.Ytoecmoicaklbaaa
open Go.RowKit Go.Sort Wc Wk

theorem picked_plain (a n : Int) (h0 : 1 ≤ n) (h1 : n < 1152921504606846976) : (a.tmod n < 0 → wrap64 (a.tmod n + n) = a % n) ∧ (0 ≤ a.tmod n → a.tmod n = a % n) := by
  have e := @Int.tmod_eq_emod a n
  have h2 := Int.emod_nonneg a (show n ≠ 0 by omega)
  have h3 := Int.emod_lt_of_pos a (show 0 < n by omega)
  split at e
  · exact ⟨fun h => by omega, fun h => by omega⟩
  · exact ⟨fun h => by rw [wrap64_in (by omega) (by omega)]; omega, fun h => by omega⟩

set_option maxHeartbeats 400000 in
theorem picked_any (a n : Int) (w : World) (h0 : 1 ≤ n) (h1 : n < 1152921504606846976) :
    Calls Try.prog 21 #[.int .i64 a, .int .i64 n] w fun e w' => e = .returned (.int .i64 (a % n)) ∧ w = w' := by
  have hp := picked_plain a n h0 h1
  have H := Lib.hid hp
  clear hp
  go_enter Try.func21, Try.ntmps21
  go_wp2
  all_goals go_returns
  · rename_i h; exact ⟨ret_int (H.out.1 h), rfl⟩
  · rename_i h; exact ⟨ret_int (H.out.2 h), rfl⟩

/-- The number that raw words make. -/
def rawN (six : Bool) (hi lo : Int) : Nat := if six then (hi * 18446744073709551616 + lo).toNat else (lo % 4294967296).toNat
theorem rawN_fits (six : Bool) (hi lo : Int) (h : 0 ≤ hi ∧ hi < 18446744073709551616) (h' : 0 ≤ lo ∧ lo < 18446744073709551616) : Fits six (rawN six hi lo) := by
  cases six <;> simp only [rawN, Fits, wd] <;> simp <;> omega
theorem rawN_true (hi lo : Int) (h : 0 ≤ hi ∧ hi < 18446744073709551616) (h' : 0 ≤ lo ∧ lo < 18446744073709551616) : hiOf true (rawN true hi lo) = hi ∧ loOf (rawN true hi lo) = lo := by
  simp only [rawN, hiOf, loOf]; simp; omega
theorem rawN_false (hi lo : Int) (h' : 0 ≤ lo ∧ lo < 18446744073709551616) : hiOf false (rawN false hi lo) = 0 ∧ loOf (rawN false hi lo) = lo % 4294967296 := by
  simp only [rawN, hiOf, loOf]; simp; omega

theorem may_any (six : Bool) (n : Nat) (w : World) (h : Fits six n) :
    Calls Try.prog 46 #[Value.agg #[.bool six, .int .u64 (hiOf six n), .int .u64 (loOf n)]] w fun e w' => e = .returned (.bool true) ∧ Below w.heap.size w w' := by
  cases six
  · obtain ⟨h0, h1⟩ := loOf_small h
    clear h
    rw [hiOf_false]
    have h2 : (loOf n / 4294967296 == 0) = true := by rw [beq_iff_eq]; omega
    go_enter Try.func46, Try.ntmps46
    go_wp2
    go_returns
    exact ⟨rfl, by (repeat' (first | (with_reducible exact Below.refl _ _) | (with_reducible assumption) | (with_reducible refine Below.al ?_ _) | (with_reducible refine Below.dr ?_) | (with_reducible refine Below.step ?_ (by assumption)) | (with_reducible refine Below.set ?_ ?_ _) | omega | (dsimp only; omega) | (simp; done) | (simp; omega)))⟩
  · go_enter Try.func46, Try.ntmps46
    go_wp2
    go_returns
    exact ⟨rfl, by (repeat' (first | (with_reducible exact Below.refl _ _) | (with_reducible assumption) | (with_reducible refine Below.al ?_ _) | (with_reducible refine Below.dr ?_) | (with_reducible refine Below.step ?_ (by assumption)) | (with_reducible refine Below.set ?_ ?_ _) | omega | (dsimp only; omega) | (simp; done) | (simp; omega)))⟩

theorem wide_any (six : Bool) (w : World) : Calls Try.prog 71 #[.bool six] w fun e w' => e = .returned (.int .i64 (wdI six)) ∧ w = w' := by
  cases six
  all_goals
    go_enter Try.func71, Try.ntmps71
    go_wp2
    go_returns
    exact ⟨rfl, rfl⟩

theorem at_any (six : Bool) (n : Nat) (i : Int) (w : World) (h : Fits six n) (h0 : 0 ≤ i) (h1 : i < wdI six) :
    Calls Try.prog 94 #[Value.agg #[.bool six, .int .u64 (hiOf six n), .int .u64 (loOf n)], .int .i64 i] w fun e w' => e = .returned (.int .i64 (bitAt six n i.toNat : Nat)) ∧ Below w.heap.size w w' := by
  obtain ⟨r0, r1⟩ := loOf_range n
  obtain ⟨s0, s1⟩ := hiOf_range h
  cases six
  · have h1' : i < 32 := h1
    clear h1
    have H := Lib.hid (bit_four h i h0 h1')
    have H2 := Lib.hid (and_one _ r0 r1 (31 - i).toNat)
    clear h
    go_enter Try.func94, Try.ntmps94
    go_wp2
    go_returns
    exact ⟨ret_int (H2.out.trans H.out), by (repeat' (first | (with_reducible exact Below.refl _ _) | (with_reducible assumption) | (with_reducible refine Below.al ?_ _) | (with_reducible refine Below.dr ?_) | (with_reducible refine Below.step ?_ (by assumption)) | (with_reducible refine Below.set ?_ ?_ _) | omega | (dsimp only; omega) | (simp; done) | (simp; omega)))⟩
  · have h1' : i < 128 := h1
    clear h1
    by_cases h2 : i < 64
    · have H := Lib.hid (bit_hi n i h0 h2)
      have H2 := Lib.hid (and_one _ s0 s1 (63 - i).toNat)
      clear h
      go_enter Try.func94, Try.ntmps94
      go_wp2
      go_returns
      exact ⟨ret_int (H2.out.trans H.out), by (repeat' (first | (with_reducible exact Below.refl _ _) | (with_reducible assumption) | (with_reducible refine Below.al ?_ _) | (with_reducible refine Below.dr ?_) | (with_reducible refine Below.step ?_ (by assumption)) | (with_reducible refine Below.set ?_ ?_ _) | omega | (dsimp only; omega) | (simp; done) | (simp; omega)))⟩
    · have H := Lib.hid (bit_lo n i (by omega) h1')
      have H2 := Lib.hid (and_one _ r0 r1 (127 - i).toNat)
      clear h
      go_enter Try.func94, Try.ntmps94
      go_wp2
      go_returns
      exact ⟨ret_int (H2.out.trans H.out), by (repeat' (first | (with_reducible exact Below.refl _ _) | (with_reducible assumption) | (with_reducible refine Below.al ?_ _) | (with_reducible refine Below.dr ?_) | (with_reducible refine Below.step ?_ (by assumption)) | (with_reducible refine Below.set ?_ ?_ _) | omega | (dsimp only; omega) | (simp; done) | (simp; omega)))⟩

theorem add64 (x y c : Int) (hx : 0 ≤ x ∧ x < 18446744073709551616) (hy : 0 ≤ y ∧ y < 18446744073709551616) (hc : 0 ≤ c ∧ c ≤ 1) (w : World) : (callFunc 104 #[.int .u64 x, .int .u64 y, .int .u64 c]).run Try.prog w =
    .ok (.value (.tuple #[.int .u64 ((x + y + c) % 18446744073709551616), .int .u64 ((x + y + c) / 18446744073709551616)])) w := by
  obtain ⟨x, rfl⟩ := Int.eq_ofNat_of_zero_le hx.1
  obtain ⟨y, rfl⟩ := Int.eq_ofNat_of_zero_le hy.1
  obtain ⟨c, rfl⟩ := Int.eq_ofNat_of_zero_le hc.1
  rw [run_callFunc_extern Try.func104 (by kernel_rfl) (by kernel_rfl) (by kernel_rfl) (e := add64Entry) (by kernel_rfl), run_add64 x y c (by omega) (by omega) (by omega) (by omega)]
  simp only [Result.andThen]
  try (congr 5 <;> omega)
theorem sub64 (x y c : Int) (hx : 0 ≤ x ∧ x < 18446744073709551616) (hy : 0 ≤ y ∧ y < 18446744073709551616) (hc : 0 ≤ c ∧ c ≤ 1) (w : World) : (callFunc 105 #[.int .u64 x, .int .u64 y, .int .u64 c]).run Try.prog w =
    .ok (.value (.tuple #[.int .u64 ((x - y - c) % 18446744073709551616), .int .u64 (-((x - y - c) / 18446744073709551616))])) w := by
  obtain ⟨x, rfl⟩ := Int.eq_ofNat_of_zero_le hx.1
  obtain ⟨y, rfl⟩ := Int.eq_ofNat_of_zero_le hy.1
  obtain ⟨c, rfl⟩ := Int.eq_ofNat_of_zero_le hc.1
  rw [run_callFunc_extern Try.func105 (by kernel_rfl) (by kernel_rfl) (by kernel_rfl) (e := sub64Entry) (by kernel_rfl), run_sub64 x y c (by omega)]
  simp only [Result.andThen]
  have e2 : ((if x < y + c then 1 else 0 : Nat) : Int) = -(((x : Int) - y - c) / 18446744073709551616) := by split <;> omega
  have e1 : (((x + 18446744073709551616 - y - c) % 18446744073709551616 : Nat) : Int) = ((x : Int) - y - c) % 18446744073709551616 := by omega
  rw [e1, e2]

set_option maxHeartbeats 800000 in
theorem plus_up_ok (six : Bool) (hi lo by' L c1 H : Int) (b : Bool) (w : World) (h0 : 0 ≤ by') (h1 : by' ≤ 1099511627776)
    (A1 : Hid (∀ w, (callFunc 104 #[.int .u64 lo, .int .u64 by', .int .u64 0]).run Try.prog w = .ok (.value (.tuple #[.int .u64 L, .int .u64 c1])) w))
    (A2 : Hid (∀ w, (callFunc 104 #[.int .u64 hi, .int .u64 0, .int .u64 c1]).run Try.prog w = .ok (.value (.tuple #[.int .u64 H, .int .u64 0])) w))
    (hm : Hid (∀ w, Calls Try.prog 46 #[.agg #[.bool six, .int .u64 H, .int .u64 L]] w fun e w_ => e = .returned (.bool b) ∧ Below w.heap.size w w_)) :
    Calls Try.prog 61 #[.agg #[.bool six, .int .u64 hi, .int .u64 lo], .int .i64 by'] w fun e w' => e = .returned (.tuple #[.agg #[.bool six, .int .u64 H, .int .u64 L], .bool b]) ∧ Below w.heap.size w w' := by
  go_enter Try.func61, Try.ntmps61
  go_wp2_with (first | simp only [A1.out] | simp only [A2.out])
  go_region_held3 (fun w' => w'.cell? ⟨w.heap.size, 0, none⟩ = some (.bool six) ∧ w'.cell? ⟨w.heap.size, 1, none⟩ = some (.int .u64 H) ∧ w'.cell? ⟨w.heap.size, 2, none⟩ = some (.int .u64 L)) (first | (simp [*, go_sem, World.cell?_alloc_past]; done))
    (first | (go_at_call 46; refine (hm.out _).mono ?_; rintro e w1 ⟨rfl, hb1⟩; obtain ⟨hc1, hf1⟩ := bcell hb1; have hz1 := hb1.size; (repeat (first | rw [World.size_alloc] at hz1 | rw [World.size_drew] at hz1))))
  go_wp2
  refine bodyPost_ret (v := .tuple #[.agg #[.bool six, .int .u64 H, .int .u64 L], .bool b]) (by simp [results, Try.results61, go_sem, hc1]) rfl ⟨rfl, by (repeat' (first | (with_reducible exact Below.refl _ _) | (with_reducible assumption) | (with_reducible refine Below.al ?_ _) | (with_reducible refine Below.dr ?_) | (with_reducible refine Below.step ?_ (by assumption)) | (with_reducible refine Below.set ?_ ?_ _) | omega | (dsimp only; omega) | (simp; done) | (simp; omega)))⟩

set_option maxHeartbeats 800000 in
theorem plus_up_over (six : Bool) (hi lo by' L c1 H : Int) (w : World) (h0 : 0 ≤ by') (h1 : by' ≤ 1099511627776)
    (A1 : Hid (∀ w, (callFunc 104 #[.int .u64 lo, .int .u64 by', .int .u64 0]).run Try.prog w = .ok (.value (.tuple #[.int .u64 L, .int .u64 c1])) w))
    (A2 : Hid (∀ w, (callFunc 104 #[.int .u64 hi, .int .u64 0, .int .u64 c1]).run Try.prog w = .ok (.value (.tuple #[.int .u64 H, .int .u64 1])) w))
     :
    Calls Try.prog 61 #[.agg #[.bool six, .int .u64 hi, .int .u64 lo], .int .i64 by'] w fun e w' => e = .returned (.tuple #[.agg #[.bool six, .int .u64 H, .int .u64 L], .bool false]) ∧ Below w.heap.size w w' := by
  go_enter Try.func61, Try.ntmps61
  go_wp2_with (first | simp only [A1.out] | simp only [A2.out])
  go_region_with (fail)
  all_goals go_wp2
  all_goals refine bodyPost_ret (v := .tuple #[.agg #[.bool six, .int .u64 H, .int .u64 L], .bool false]) (by simp [results, Try.results61, go_sem]) rfl ⟨rfl, by (repeat' (first | (with_reducible exact Below.refl _ _) | (with_reducible assumption) | (with_reducible refine Below.al ?_ _) | (with_reducible refine Below.dr ?_) | (with_reducible refine Below.step ?_ (by assumption)) | (with_reducible refine Below.set ?_ ?_ _) | omega | (dsimp only; omega) | (simp; done) | (simp; omega)))⟩

set_option maxHeartbeats 800000 in
theorem plus_down_ok (six : Bool) (hi lo by' L c1 H : Int) (b : Bool) (w : World) (h0 : by' < 0) (h1 : -1099511627776 ≤ by')
    (A1 : Hid (∀ w, (callFunc 105 #[.int .u64 lo, .int .u64 (-by'), .int .u64 0]).run Try.prog w = .ok (.value (.tuple #[.int .u64 L, .int .u64 c1])) w))
    (A2 : Hid (∀ w, (callFunc 105 #[.int .u64 hi, .int .u64 0, .int .u64 c1]).run Try.prog w = .ok (.value (.tuple #[.int .u64 H, .int .u64 0])) w))
    (hm : Hid (∀ w, Calls Try.prog 46 #[.agg #[.bool six, .int .u64 H, .int .u64 L]] w fun e w_ => e = .returned (.bool b) ∧ Below w.heap.size w w_)) :
    Calls Try.prog 61 #[.agg #[.bool six, .int .u64 hi, .int .u64 lo], .int .i64 by'] w fun e w' => e = .returned (.tuple #[.agg #[.bool six, .int .u64 H, .int .u64 L], .bool b]) ∧ Below w.heap.size w w' := by
  go_enter Try.func61, Try.ntmps61
  go_wp2_with (first | simp only [A1.out] | simp only [A2.out])
  go_region_held3 (fun w' => w'.cell? ⟨w.heap.size, 0, none⟩ = some (.bool six) ∧ w'.cell? ⟨w.heap.size, 1, none⟩ = some (.int .u64 H) ∧ w'.cell? ⟨w.heap.size, 2, none⟩ = some (.int .u64 L)) (first | (simp [*, go_sem, World.cell?_alloc_past]; done))
    (first | (go_at_call 46; refine (hm.out _).mono ?_; rintro e w1 ⟨rfl, hb1⟩; obtain ⟨hc1, hf1⟩ := bcell hb1; have hz1 := hb1.size; (repeat (first | rw [World.size_alloc] at hz1 | rw [World.size_drew] at hz1))))
  go_wp2
  refine bodyPost_ret (v := .tuple #[.agg #[.bool six, .int .u64 H, .int .u64 L], .bool b]) (by simp [results, Try.results61, go_sem, hc1]) rfl ⟨rfl, by (repeat' (first | (with_reducible exact Below.refl _ _) | (with_reducible assumption) | (with_reducible refine Below.al ?_ _) | (with_reducible refine Below.dr ?_) | (with_reducible refine Below.step ?_ (by assumption)) | (with_reducible refine Below.set ?_ ?_ _) | omega | (dsimp only; omega) | (simp; done) | (simp; omega)))⟩

set_option maxHeartbeats 800000 in
theorem plus_down_over (six : Bool) (hi lo by' L c1 H : Int) (w : World) (h0 : by' < 0) (h1 : -1099511627776 ≤ by')
    (A1 : Hid (∀ w, (callFunc 105 #[.int .u64 lo, .int .u64 (-by'), .int .u64 0]).run Try.prog w = .ok (.value (.tuple #[.int .u64 L, .int .u64 c1])) w))
    (A2 : Hid (∀ w, (callFunc 105 #[.int .u64 hi, .int .u64 0, .int .u64 c1]).run Try.prog w = .ok (.value (.tuple #[.int .u64 H, .int .u64 1])) w))
     :
    Calls Try.prog 61 #[.agg #[.bool six, .int .u64 hi, .int .u64 lo], .int .i64 by'] w fun e w' => e = .returned (.tuple #[.agg #[.bool six, .int .u64 H, .int .u64 L], .bool false]) ∧ Below w.heap.size w w' := by
  go_enter Try.func61, Try.ntmps61
  go_wp2_with (first | simp only [A1.out] | simp only [A2.out])
  go_region_with (fail)
  all_goals go_wp2
  all_goals refine bodyPost_ret (v := .tuple #[.agg #[.bool six, .int .u64 H, .int .u64 L], .bool false]) (by simp [results, Try.results61, go_sem]) rfl ⟨rfl, by (repeat' (first | (with_reducible exact Below.refl _ _) | (with_reducible assumption) | (with_reducible refine Below.al ?_ _) | (with_reducible refine Below.dr ?_) | (with_reducible refine Below.step ?_ (by assumption)) | (with_reducible refine Below.set ?_ ?_ _) | omega | (dsimp only; omega) | (simp; done) | (simp; omega)))⟩

end Go.Proofs.Ytoecmoicaklbaaa

/- Contracts of addr.Plus, addr.Next over numbers; ahead. -/
set_option linter.unusedVariables false
namespace Go.Proofs.Ytoecmoicaklbaaa
open Go.RowKit Go.Sort Wc Wk

theorem may_four_bad (lo : Int) (w : World) (h : 4294967296 ≤ lo) :
    Calls Try.prog 46 #[.agg #[.bool false, .int .u64 0, .int .u64 lo]] w fun e w' => e = .returned (.bool false) ∧ Below w.heap.size w w' := by
  have h2 : (lo / 4294967296 == 0) = false := by rw [beq_eq_false_iff_ne]; omega
  go_enter Try.func46, Try.ntmps46
  go_wp2
  go_returns
  exact ⟨rfl, by (repeat' (first | (with_reducible exact Below.refl _ _) | (with_reducible assumption) | (with_reducible refine Below.al ?_ _) | (with_reducible refine Below.dr ?_) | (with_reducible refine Below.step ?_ (by assumption)) | (with_reducible refine Below.set ?_ ?_ _) | omega | (dsimp only; omega) | (simp; done) | (simp; omega)))⟩

theorem may_words (six : Bool) (n : Nat) (hi lo : Int) (h : Fits six n) (h1 : hi = hiOf six n) (h2 : lo = loOf n) :
    Hid (∀ w, Calls Try.prog 46 #[.agg #[.bool six, .int .u64 hi, .int .u64 lo]] w fun e w' => e = .returned (.bool true) ∧ Below w.heap.size w w') := by
  subst h1 h2
  exact fun w => may_any six n w h

theorem words_six (n : Nat) (hi lo : Int) (h : (n : Int) = hi * 18446744073709551616 + lo) (h' : 0 ≤ lo ∧ lo < 18446744073709551616) : hi = hiOf true n ∧ lo = loOf n := by
  unfold hiOf loOf; simp; omega
theorem words_four (n : Nat) (lo : Int) (h : (n : Int) = lo) (h' : 0 ≤ lo ∧ lo < 4294967296) : (0 : Int) = hiOf false n ∧ lo = loOf n := by
  unfold hiOf loOf; simp; omega
theorem fits_six (n : Nat) (hi lo : Int) (h : (n : Int) = hi * 18446744073709551616 + lo) (h0 : hi < 18446744073709551616) (h' : 0 ≤ lo ∧ lo < 18446744073709551616) : Fits true n := by
  unfold Fits wd; simp; omega

theorem plus_ok (six : Bool) (n : Nat) (d : Int) (w : World) (h : Fits six n) (h1 : -1099511627776 ≤ d) (h2 : d ≤ 1099511627776) (m : Nat) (hm : (m : Int) = n + d) (hf : Fits six m) :
    Calls Try.prog 61 #[Value.agg #[.bool six, .int .u64 (hiOf six n), .int .u64 (loOf n)], .int .i64 d] w fun e w' => e = .returned (.tuple #[Value.agg #[.bool six, .int .u64 (hiOf six m), .int .u64 (loOf m)], .bool true]) ∧ Below w.heap.size w w' := by
  have hh := hiOf_range h
  have hl := loOf_range n
  have gh := hiOf_range hf
  have gl := loOf_range m
  cases six
  · have e1 := loOf_false h
    have e2 := loOf_false hf
    have s1 := loOf_small h
    have s2 := loOf_small hf
    by_cases hd : 0 ≤ d
    · refine plus_up_ok false (hiOf false n) (loOf n) d (loOf m) 0 (hiOf false m) true w hd h2 ?_ ?_ (may_words false m _ _ hf rfl rfl)
      · intro w; rw [add64 _ _ _ hl ⟨hd, by omega⟩ (by omega) w]; congr 4 <;> simp <;> omega
      · intro w; rw [add64 _ _ _ hh (by omega) (by omega) w]; rfl
    · refine plus_down_ok false (hiOf false n) (loOf n) d (loOf m) 0 (hiOf false m) true w (by omega) h1 ?_ ?_ (may_words false m _ _ hf rfl rfl)
      · intro w; rw [sub64 _ _ _ hl (by omega) (by omega) w]; congr 4 <;> simp <;> omega
      · intro w; rw [sub64 _ _ _ hh (by omega) (by omega) w]; rfl
  · have e1 := six_split h
    have e2 := six_split hf
    by_cases hd : 0 ≤ d
    · refine plus_up_ok true (hiOf true n) (loOf n) d (loOf m) ((loOf n + d) / 18446744073709551616) (hiOf true m) true w hd h2 ?_ ?_ (may_words true m _ _ hf rfl rfl)
      · intro w; rw [add64 _ _ _ hl ⟨hd, by omega⟩ (by omega) w]; congr 4 <;> simp <;> omega
      · intro w; rw [add64 _ _ _ hh (by omega) (by omega) w]; congr 4 <;> simp <;> omega
    · refine plus_down_ok true (hiOf true n) (loOf n) d (loOf m) (-((loOf n + d) / 18446744073709551616)) (hiOf true m) true w (by omega) h1 ?_ ?_ (may_words true m _ _ hf rfl rfl)
      · intro w; rw [sub64 _ _ _ hl (by omega) (by omega) w]; congr 4 <;> simp <;> omega
      · intro w; rw [sub64 _ _ _ hh (by omega) (by omega) w]; congr 4 <;> simp <;> omega

theorem plus_bad (six : Bool) (n : Nat) (d : Int) (h : Fits six n) (h1 : -1099511627776 ≤ d) (h2 : d ≤ 1099511627776) (hx : n + d < 0 ∨ (2 : Int) ^ wd six ≤ n + d) :
    ∃ H L : Int, Hid (∀ w, Calls Try.prog 61 #[Value.agg #[.bool six, .int .u64 (hiOf six n), .int .u64 (loOf n)], .int .i64 d] w fun e w' => e = .returned (.tuple #[.agg #[.bool six, .int .u64 H, .int .u64 L], .bool false]) ∧ Below w.heap.size w w') := by
  have hh := hiOf_range h
  have hl := loOf_range n
  cases six
  · have e1 := loOf_false h
    have s1 := loOf_small h
    have hx' : n + d < 0 ∨ 4294967296 ≤ n + d := hx
    by_cases hd : 0 ≤ d
    · refine ⟨0, loOf n + d, fun w => plus_up_ok false (hiOf false n) (loOf n) d (loOf n + d) 0 0 false w hd h2 ?_ ?_ (fun w => may_four_bad _ w (by omega))⟩
      · intro w; rw [add64 _ _ _ hl ⟨hd, by omega⟩ (by omega) w]; congr 4 <;> simp <;> omega
      · intro w; rw [add64 _ _ _ hh (by omega) (by omega) w]; rfl
    · refine ⟨18446744073709551615, (loOf n + d) % 18446744073709551616, fun w => plus_down_over false (hiOf false n) (loOf n) d ((loOf n + d) % 18446744073709551616) 1 18446744073709551615 w (by omega) h1 ?_ ?_⟩
      · intro w; rw [sub64 _ _ _ hl (by omega) (by omega) w]; congr 4 <;> simp <;> omega
      · intro w; rw [sub64 _ _ _ hh (by omega) (by omega) w]; rfl
  · have e1 := six_split h
    have hx' : n + d < 0 ∨ 340282366920938463463374607431768211456 ≤ n + d := hx
    by_cases hd : 0 ≤ d
    · refine ⟨0, (loOf n + d) % 18446744073709551616, fun w => plus_up_over true (hiOf true n) (loOf n) d ((loOf n + d) % 18446744073709551616) ((loOf n + d) / 18446744073709551616) 0 w hd h2 ?_ ?_⟩
      · intro w; rw [add64 _ _ _ hl ⟨hd, by omega⟩ (by omega) w]; congr 4 <;> simp <;> omega
      · intro w; rw [add64 _ _ _ hh (by omega) (by omega) w]; congr 4 <;> simp <;> omega
    · refine ⟨18446744073709551615, (loOf n + d) % 18446744073709551616, fun w => plus_down_over true (hiOf true n) (loOf n) d ((loOf n + d) % 18446744073709551616) (-((loOf n + d) / 18446744073709551616)) 18446744073709551615 w (by omega) h1 ?_ ?_⟩
      · intro w; rw [sub64 _ _ _ hl (by omega) (by omega) w]; congr 4 <;> simp <;> omega
      · intro w; rw [sub64 _ _ _ hh (by omega) (by omega) w]; congr 4 <;> simp <;> omega

theorem lt_words {six : Bool} {a b : Nat} (ha : Fits six a) (hb : Fits six b) : (hiOf six a < hiOf six b ∨ hiOf six a = hiOf six b ∧ loOf a < loOf b) ↔ a < b := by
  cases six
  · rw [loOf_false ha, loOf_false hb, hiOf_false, hiOf_false]; omega
  · have := six_split ha; have := six_split hb; have := loOf_range a; have := loOf_range b; omega

theorem ahead_any (six : Bool) (a b : Nat) (w : World) (ha : Fits six a) (hb : Fits six b) :
    Calls Try.prog 70 #[Value.agg #[.bool six, .int .u64 (hiOf six a), .int .u64 (loOf a)], Value.agg #[.bool six, .int .u64 (hiOf six b), .int .u64 (loOf b)]] w fun e w' => e = .returned (.bool (decide (a < b))) ∧ Below w.heap.size w w' := by
  have H := Lib.hid (lt_words ha hb)
  clear ha hb
  generalize hiOf six a = x at *
  generalize hiOf six b = y at *
  generalize loOf a = p at *
  generalize loOf b = q at *
  by_cases h1 : x < y
  · have h3 : decide (a < b) = true := by rw [decide_eq_true_iff, ← H.out]; exact Or.inl h1
    rw [h3]
    go_enter Try.func70, Try.ntmps70
    go_wp2
    go_returns
    exact ⟨rfl, by (repeat' (first | (with_reducible exact Below.refl _ _) | (with_reducible assumption) | (with_reducible refine Below.al ?_ _) | (with_reducible refine Below.dr ?_) | (with_reducible refine Below.step ?_ (by assumption)) | (with_reducible refine Below.set ?_ ?_ _) | omega | (dsimp only; omega) | (simp; done) | (simp; omega)))⟩
  · by_cases h2 : x = y
    · subst h2
      have h3 : decide (a < b) = decide (p < q) := by rw [decide_eq_decide, ← H.out]; simp
      rw [h3]
      go_enter Try.func70, Try.ntmps70
      go_wp2
      go_returns
      exact ⟨rfl, by (repeat' (first | (with_reducible exact Below.refl _ _) | (with_reducible assumption) | (with_reducible refine Below.al ?_ _) | (with_reducible refine Below.dr ?_) | (with_reducible refine Below.step ?_ (by assumption)) | (with_reducible refine Below.set ?_ ?_ _) | omega | (dsimp only; omega) | (simp; done) | (simp; omega)))⟩
    · have h3 : decide (a < b) = false := by rw [decide_eq_false_iff_not, ← H.out]; omega
      have h4 : (x == y) = false := by simpa using h2
      have h5 : decide (x < y) = false := by simpa using h1
      rw [h3]
      go_enter Try.func70, Try.ntmps70
      go_wp2
      go_returns
      exact ⟨ret_bool (by first | rfl | exact h5), by (repeat' (first | (with_reducible exact Below.refl _ _) | (with_reducible assumption) | (with_reducible refine Below.al ?_ _) | (with_reducible refine Below.dr ?_) | (with_reducible refine Below.step ?_ (by assumption)) | (with_reducible refine Below.set ?_ ?_ _) | omega | (dsimp only; omega) | (simp; done) | (simp; omega)))⟩
end Go.Proofs.Ytoecmoicaklbaaa
