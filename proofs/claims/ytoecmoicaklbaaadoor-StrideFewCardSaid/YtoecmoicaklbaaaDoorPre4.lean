
/- Contracts of package pre: spans, halves, what is common. -/
import Derived.Test.YtoecmoicaklbaaaDoorPre
import Derived.Test.YtoecmoicaklbaaaDoorPlain
import Derived.Test.YtoecmoicaklbaaaDoorShelf
set_option linter.unusedVariables false
namespace Go.Proofs.YtoecmoicaklbaaaDoor
open Go.RowKit Go.Sort Wc Wk


end Go.Proofs.YtoecmoicaklbaaaDoor

/- Contracts of package pre: halves, what is common. -/
set_option linter.unusedVariables false
namespace Go.Proofs.YtoecmoicaklbaaaDoor
open Go.RowKit Go.Sort Wc Wk


end Go.Proofs.YtoecmoicaklbaaaDoor

/- Contracts of package pre: what is common. -/
set_option linter.unusedVariables false
namespace Go.Proofs.YtoecmoicaklbaaaDoor
open Go.RowKit Go.Sort Wc Wk

theorem xor_words (x y : Nat) (hx : x < 18446744073709551616) (hy : y < 18446744073709551616) : bits .xor .u64 (x : Int) (y : Int) = ((x ^^^ y : Nat) : Int) ∧ x ^^^ y < 18446744073709551616 :=
  ⟨u64_xor_nat _ _ hx hy, Nat.xor_lt_two_pow (n := 64) hx hy⟩

theorem lz64 (x y : Nat) (hx : x < 18446744073709551616) (hy : y < 18446744073709551616) (w : World) :
    Calls Tryd.prog 92 #[.int .u64 (bits .xor .u64 (x : Int) (y : Int))] w fun e w' => e = .returned (.int .i64 ((64 - Lib.bitLen (x ^^^ y) : Nat) : Int)) ∧ w = w' := by
  obtain ⟨h1, h2⟩ := xor_words x y hx hy
  rw [h1]
  refine (Tryd.bits_LeadingZeros64 _ w (by omega) (by omega)).mono fun e w' ⟨he, hw⟩ => ⟨?_, hw.symm⟩
  rw [he]
  have h3 := Lib.bitLen_le (x ^^^ y) 64 (by decide) h2
  refine ret_int ?_
  rw [Int.toNat_natCast]; omega
theorem lz32 (x y : Nat) (hx : x < 4294967296) (hy : y < 4294967296) (w : World) :
    Calls Tryd.prog 91 #[.int .u32 ((bits .xor .u64 (x : Int) (y : Int)) % 4294967296)] w fun e w' => e = .returned (.int .i64 ((32 - Lib.bitLen (x ^^^ y) : Nat) : Int)) ∧ w = w' := by
  obtain ⟨h1, _⟩ := xor_words x y (by omega) (by omega)
  have h2 : x ^^^ y < 4294967296 := Nat.xor_lt_two_pow (n := 32) hx hy
  have h0 : ((x ^^^ y : Nat) : Int) % 4294967296 = ((x ^^^ y : Nat) : Int) := by omega
  rw [h1, h0]
  refine (Tryd.bits_LeadingZeros32 _ w (by omega) (by omega)).mono fun e w' ⟨he, hw⟩ => ⟨?_, hw.symm⟩
  rw [he]
  have h3 := Lib.bitLen_le (x ^^^ y) 32 (by decide) h2
  refine ret_int ?_
  rw [Int.toNat_natCast]; omega

theorem alike_any (six : Bool) (a b : Nat) (w : World) (ha : Fits six a) (hb : Fits six b) :
    Calls Tryd.prog 88 #[Value.agg #[.bool six, .int .u64 (hiOf six a), .int .u64 (loOf a)], Value.agg #[.bool six, .int .u64 (hiOf six b), .int .u64 (loOf b)]] w fun e w' => e = .returned (.int .i64 (alikeN six a b : Nat)) ∧ Below w.heap.size w w' := by
  cases six
  · have ha' : a < 4294967296 := ha
    have hb' : b < 4294967296 := hb
    have L := Lib.hid (fun w => lz32 a b ha' hb' w)
    have e1 := loOf_false ha
    have e2 := loOf_false hb
    rw [← e1, ← e2] at L
    have e3 : alikeN false a b = 32 - Lib.bitLen (a ^^^ b) := rfl
    rw [e3]
    generalize 32 - Lib.bitLen (a ^^^ b) = r at *
    clear ha hb e1 e2 e3 ha' hb'
    go_enter Tryd.func88, Tryd.ntmps88
    go_wp2_with (first | ((with_reducible refine (L.out _).mono ?_); rintro e w' ⟨rfl, rfl⟩))
    go_returns
    exact ⟨rfl, by (repeat' (first | (with_reducible exact Below.refl _ _) | (with_reducible assumption) | (with_reducible refine Below.al ?_ _) | (with_reducible refine Below.dr ?_) | (with_reducible refine Below.step ?_ (by assumption)) | (with_reducible refine Below.set ?_ ?_ _) | omega | (dsimp only; omega) | (simp; done) | (simp; omega)))⟩
  · have ha' : a < 2 ^ 128 := ha
    have hb' : b < 2 ^ 128 := hb
    by_cases he : a / 18446744073709551616 = b / 18446744073709551616
    · have L := Lib.hid (fun w => lz64 (a % 18446744073709551616) (b % 18446744073709551616) (by omega) (by omega) w)
      have hl := Nat.sub_le 64 (Lib.bitLen (a % 18446744073709551616 ^^^ b % 18446744073709551616))
      have e3 : alikeN true a b = 64 + (64 - Lib.bitLen (a % 18446744073709551616 ^^^ b % 18446744073709551616)) := by unfold alikeN; rw [if_pos rfl, if_pos he]
      rw [e3]
      generalize 64 - Lib.bitLen (a % 18446744073709551616 ^^^ b % 18446744073709551616) = r at *
      have e4 : ((a % 18446744073709551616 : Nat) : Int) = loOf a := rfl
      have e5 : ((b % 18446744073709551616 : Nat) : Int) = loOf b := rfl
      rw [e4, e5] at L
      have e6 : hiOf true a = hiOf true b := by rw [hiOf_true, hiOf_true, he]
      rw [e6]
      have e7 : (((64 + r : Nat)) : Int) = 64 + (r : Int) := by omega
      rw [e7]
      clear ha hb e3 e4 e5 e6 e7 he ha' hb'
      go_enter Tryd.func88, Tryd.ntmps88
      go_wp2_with (first | ((with_reducible refine (L.out _).mono ?_); rintro e w' ⟨rfl, rfl⟩))
      go_returns
      exact ⟨rfl, by (repeat' (first | (with_reducible exact Below.refl _ _) | (with_reducible assumption) | (with_reducible refine Below.al ?_ _) | (with_reducible refine Below.dr ?_) | (with_reducible refine Below.step ?_ (by assumption)) | (with_reducible refine Below.set ?_ ?_ _) | omega | (dsimp only; omega) | (simp; done) | (simp; omega)))⟩
    · have L := Lib.hid (fun w => lz64 (a / 18446744073709551616) (b / 18446744073709551616) (by omega) (by omega) w)
      have e3 : alikeN true a b = 64 - Lib.bitLen (a / 18446744073709551616 ^^^ b / 18446744073709551616) := by unfold alikeN; rw [if_pos rfl, if_neg he]
      rw [e3]
      generalize 64 - Lib.bitLen (a / 18446744073709551616 ^^^ b / 18446744073709551616) = r at *
      rw [← hiOf_true, ← hiOf_true] at L
      have e6 : (hiOf true a == hiOf true b) = false := by rw [beq_eq_false_iff_ne, hiOf_true, hiOf_true]; omega
      have e7 : (hiOf true a != hiOf true b) = true := by rw [bne_iff_ne, hiOf_true, hiOf_true]; omega
      clear ha hb e3 he ha' hb'
      go_enter Tryd.func88, Tryd.ntmps88
      go_wp2_with (first | ((with_reducible refine (L.out _).mono ?_); rintro e w' ⟨rfl, rfl⟩))
      go_returns
      exact ⟨rfl, by (repeat' (first | (with_reducible exact Below.refl _ _) | (with_reducible assumption) | (with_reducible refine Below.al ?_ _) | (with_reducible refine Below.dr ?_) | (with_reducible refine Below.step ?_ (by assumption)) | (with_reducible refine Below.set ?_ ?_ _) | omega | (dsimp only; omega) | (simp; done) | (simp; omega)))⟩





theorem common_ok (six : Bool) (n k m k' : Nat) (w : World) (hp : VP six n k) (hq : VP six m k') :
    Calls Tryd.prog 80 #[Value.agg #[.bool six, .int .u64 (hiOf six n), .int .u64 (loOf n), .int .i64 k], Value.agg #[.bool six, .int .u64 (hiOf six m), .int .u64 (loOf m), .int .i64 k']] w fun e w' => e = .returned (.tuple #[Value.agg #[.bool six, .int .u64 (hiOf six (cutN (wd six) n (comLen six n k m k'))), .int .u64 (loOf (cutN (wd six) n (comLen six n k m k'))), .int .i64 (comLen six n k m k' : Nat)], .int .i64 0]) ∧ Below w.heap.size w w' := by
  have B := Lib.hid (fun w => both_ok six n k m k' w hp hq)
  have A := Lib.hid (fun w => alike_any six n m w hp.1 hq.1)
  have C := Lib.hid (fun w => cut_any six n (comLen six n k m k') w hp.1 (Nat.le_trans (comLen_le _ _ _ _ _) hp.2.1))
  have hr : (if (alikeN six n m : Int) < (if k' < k then (k' : Int) else (k : Int)) then (alikeN six n m : Int) else if k' < k then (k' : Int) else (k : Int)) = (comLen six n k m k' : Int) := by unfold comLen; split <;> split <;> omega
  have H := Lib.hid hr
  clear hr hp hq
  generalize comLen six n k m k' = c at *
  generalize alikeN six n m = l at *
  go_enter Tryd.func80, Tryd.ntmps80
  go_wp2_with (first | ((with_reducible refine (B.out _).mono ?_); rintro e w1 ⟨rfl, hb1⟩; (repeat (with_reducible (replace hb1 := Below.undrew hb1))); obtain ⟨hc1, hf1⟩ := bcell hb1; have hz1 := hb1.size; (repeat (first | rw [World.size_alloc] at hz1 | rw [World.size_drew] at hz1 | rw [World.size_setCell] at hz1)); (try have : w.heap.size < w1.heap.size := by omega); (try have : w.heap.size < w1.heap.size + 1 := by omega); (try have : w.heap.size < w1.heap.size + 1 + 1 := by omega); (try have : w.heap.size < w1.heap.size + 1 + 1 + 1 := by omega); (try have : w.heap.size + 1 < w1.heap.size := by omega); (try have : w.heap.size + 1 < w1.heap.size + 1 := by omega); (try have : w.heap.size + 1 < w1.heap.size + 1 + 1 := by omega); (try have : w.heap.size + 1 < w1.heap.size + 1 + 1 + 1 := by omega); (try have : w.heap.size + 2 < w1.heap.size := by omega); (try have : w.heap.size + 2 < w1.heap.size + 1 := by omega); (try have : w.heap.size + 2 < w1.heap.size + 1 + 1 := by omega); (try have : w.heap.size + 2 < w1.heap.size + 1 + 1 + 1 := by omega)))
  refine wp_region_qb (by kernel_rfl) (by kernel_rfl) (fun kq => ?_)
  repeat (quiet_step (first | (with_reducible exact Calls.regrown_of (A.out _))))
  clear kq
  refine wpQuiet_nil ?_; intro w2 hb2; (repeat (with_reducible (replace hb2 := Below.undrew hb2))); obtain ⟨hc2, hf2⟩ := bcell hb2; have hz2 := hb2.size; (repeat (first | rw [World.size_alloc] at hz2 | rw [World.size_drew] at hz2 | rw [World.size_setCell] at hz2)); (try have : w.heap.size < w2.heap.size := by omega); (try have : w.heap.size < w2.heap.size + 1 := by omega); (try have : w.heap.size < w2.heap.size + 1 + 1 := by omega); (try have : w.heap.size < w2.heap.size + 1 + 1 + 1 := by omega); (try have : w.heap.size + 1 < w2.heap.size := by omega); (try have : w.heap.size + 1 < w2.heap.size + 1 := by omega); (try have : w.heap.size + 1 < w2.heap.size + 1 + 1 := by omega); (try have : w.heap.size + 1 < w2.heap.size + 1 + 1 + 1 := by omega); (try have : w.heap.size + 2 < w2.heap.size := by omega); (try have : w.heap.size + 2 < w2.heap.size + 1 := by omega); (try have : w.heap.size + 2 < w2.heap.size + 1 + 1 := by omega); (try have : w.heap.size + 2 < w2.heap.size + 1 + 1 + 1 := by omega); (try have : w1.heap.size < w2.heap.size := by omega); (try have : w1.heap.size < w2.heap.size + 1 := by omega); (try have : w1.heap.size < w2.heap.size + 1 + 1 := by omega); (try have : w1.heap.size < w2.heap.size + 1 + 1 + 1 := by omega); (try have : w1.heap.size + 1 < w2.heap.size := by omega); (try have : w1.heap.size + 1 < w2.heap.size + 1 := by omega); (try have : w1.heap.size + 1 < w2.heap.size + 1 + 1 := by omega); (try have : w1.heap.size + 1 < w2.heap.size + 1 + 1 + 1 := by omega)
  rw [H.out]
  go_wp2_with (first | ((with_reducible refine (C.out _).mono ?_); rintro e w3 ⟨rfl, hb3⟩; (repeat (with_reducible (replace hb3 := Below.undrew hb3))); obtain ⟨hc3, hf3⟩ := bcell hb3; have hz3 := hb3.size; (repeat (first | rw [World.size_alloc] at hz3 | rw [World.size_drew] at hz3 | rw [World.size_setCell] at hz3)); (try have : w.heap.size < w3.heap.size := by omega); (try have : w.heap.size < w3.heap.size + 1 := by omega); (try have : w.heap.size < w3.heap.size + 1 + 1 := by omega); (try have : w.heap.size < w3.heap.size + 1 + 1 + 1 := by omega); (try have : w.heap.size + 1 < w3.heap.size := by omega); (try have : w.heap.size + 1 < w3.heap.size + 1 := by omega); (try have : w.heap.size + 1 < w3.heap.size + 1 + 1 := by omega); (try have : w.heap.size + 1 < w3.heap.size + 1 + 1 + 1 := by omega); (try have : w.heap.size + 2 < w3.heap.size := by omega); (try have : w.heap.size + 2 < w3.heap.size + 1 := by omega); (try have : w.heap.size + 2 < w3.heap.size + 1 + 1 := by omega); (try have : w.heap.size + 2 < w3.heap.size + 1 + 1 + 1 := by omega); (try have : w1.heap.size < w3.heap.size := by omega); (try have : w1.heap.size < w3.heap.size + 1 := by omega); (try have : w1.heap.size < w3.heap.size + 1 + 1 := by omega); (try have : w1.heap.size < w3.heap.size + 1 + 1 + 1 := by omega); (try have : w1.heap.size + 1 < w3.heap.size := by omega); (try have : w1.heap.size + 1 < w3.heap.size + 1 := by omega); (try have : w1.heap.size + 1 < w3.heap.size + 1 + 1 := by omega); (try have : w1.heap.size + 1 < w3.heap.size + 1 + 1 + 1 := by omega); (try have : w2.heap.size < w3.heap.size := by omega); (try have : w2.heap.size < w3.heap.size + 1 := by omega); (try have : w2.heap.size < w3.heap.size + 1 + 1 := by omega); (try have : w2.heap.size < w3.heap.size + 1 + 1 + 1 := by omega); (try have : w2.heap.size + 1 < w3.heap.size := by omega); (try have : w2.heap.size + 1 < w3.heap.size + 1 := by omega); (try have : w2.heap.size + 1 < w3.heap.size + 1 + 1 := by omega); (try have : w2.heap.size + 1 < w3.heap.size + 1 + 1 + 1 := by omega)))
  refine bodyPost_ret (v := .tuple #[.agg #[.bool six, .int .u64 (hiOf six (cutN (wd six) n c)), .int .u64 (loOf (cutN (wd six) n c)), .int .i64 c], .int .i64 0]) (by simp [results, Tryd.results80, go_sem, *]) rfl ⟨rfl, by (repeat' (first | (with_reducible exact Below.refl _ _) | (with_reducible assumption) | (with_reducible refine Below.al ?_ _) | (with_reducible refine Below.dr ?_) | (with_reducible refine Below.step ?_ (by assumption)) | (with_reducible refine Below.set ?_ ?_ _) | omega | (dsimp only; omega) | (simp; done) | (simp; omega)))⟩
end Go.Proofs.YtoecmoicaklbaaaDoor

/- The laws' own makers of prefixes. -/
set_option linter.unusedVariables false
namespace Go.Proofs.YtoecmoicaklbaaaDoor
open Go.RowKit Go.Sort Wc Wk

theorem shl_back (x : Int) (j : Nat) (h0 : 0 ≤ x) (h1 : x < 18446744073709551616) (hj : j ≤ 64) : IntKind.u64.wrap (x / 2 ^ j * 2 ^ j) = bits .and .u64 x ((18446744073709551616 - 2 ^ j : Nat) : Int) := by
  obtain ⟨n, rfl⟩ := Int.eq_ofNat_of_zero_le h0
  have h2 := pow_pos' j
  rw [u64_and_nat _ _ (by omega) (by omega)]
  have := and_high n j 64 (by omega) hj
  rw [show (2 : Nat) ^ 64 = 18446744073709551616 from rfl] at this
  rw [this]
  have e : ((n : Int) / 2 ^ j * 2 ^ j) = ((n / 2 ^ j * 2 ^ j : Nat) : Int) := by simp
  have hle : n / 2 ^ j * 2 ^ j ≤ n := Nat.div_mul_le_self _ _
  rw [e, IntKind.wrap_u64]
  exact Int.emod_eq_of_lt (Int.natCast_nonneg _) (by omega)
theorem shl_back32 (x : Int) (j : Nat) (h0 : 0 ≤ x) (h1 : x < 4294967296) (hj : j ≤ 32) : IntKind.u64.wrap (x / 2 ^ j * 2 ^ j) = bits .and .u64 x ((4294967296 - 2 ^ j : Nat) : Int) := by
  obtain ⟨n, rfl⟩ := Int.eq_ofNat_of_zero_le h0
  have h2 := pow_pos' j
  rw [u64_and_nat _ _ (by omega) (by omega)]
  have := and_high n j 32 (by omega) hj
  rw [show (2 : Nat) ^ 32 = 4294967296 from rfl] at this
  rw [this]
  have e : ((n : Int) / 2 ^ j * 2 ^ j) = ((n / 2 ^ j * 2 ^ j : Nat) : Int) := by simp
  have hle : n / 2 ^ j * 2 ^ j ≤ n := Nat.div_mul_le_self _ _
  rw [e, IntKind.wrap_u64]
  exact Int.emod_eq_of_lt (Int.natCast_nonneg _) (by omega)
theorem shl_four {n k : Nat} (h : Fits false n) (hk : k ≤ 32) : IntKind.u64.wrap (loOf n / 2 ^ (32 - k) * 2 ^ (32 - k)) = loOf (cutN 32 n k) := by
  rw [shl_back32 _ _ (loOf_small h).1 (loOf_small h).2 (by omega)]
  exact (cut_four h hk).2
theorem shl_hi {n k : Nat} (h : Fits true n) (hk : k ≤ 64) : IntKind.u64.wrap (hiOf true n / 2 ^ (64 - k) * 2 ^ (64 - k)) = hiOf true (cutN 128 n k) ∧ (0 : Int) = loOf (cutN 128 n k) := by
  rw [shl_back _ _ (hiOf_range h).1 (hiOf_range h).2 (by omega)]
  have c := cut_six h (show k ≤ 128 by omega)
  unfold maskHi maskLo at c
  simp only [if_true] at c
  rw [show min k 64 = k by omega, show k - 64 = 0 by omega] at c
  refine ⟨c.1, ?_⟩
  rw [← c.2]
  obtain ⟨m, hm⟩ := Int.eq_ofNat_of_zero_le (loOf_range n).1
  have hm2 := (loOf_range n).2
  have e : ((18446744073709551616 - 2 ^ (64 - 0) : Nat) : Int) = ((0 : Nat) : Int) := by decide
  rw [hm, e, u64_and_nat _ _ (by omega) (by omega)]
  simp
theorem shl_lo {n k : Nat} (h : Fits true n) (h0 : 64 < k) (hk : k ≤ 128) : IntKind.u64.wrap (loOf n / 2 ^ (128 - k) * 2 ^ (128 - k)) = loOf (cutN 128 n k) ∧ hiOf true n = hiOf true (cutN 128 n k) := by
  rw [shl_back _ _ (loOf_range n).1 (loOf_range n).2 (by omega)]
  have c := cut_six h (show k ≤ 128 by omega)
  unfold maskHi maskLo at c
  simp only [if_true] at c
  rw [show min k 64 = 64 by omega, show 64 - (k - 64) = 128 - k by omega] at c
  refine ⟨c.2, ?_⟩
  rw [← c.1]
  obtain ⟨m, hm⟩ := Int.eq_ofNat_of_zero_le (hiOf_range h).1
  have hm2 := (hiOf_range h).2
  have e : ((18446744073709551616 - 2 ^ (64 - 64) : Nat) : Int) = ((18446744073709551615 : Nat) : Int) := by decide
  rw [hm] at hm2 ⊢
  rw [e, u64_and_nat _ _ (by omega) (by omega)]
  have := Nat.and_two_pow_sub_one_eq_mod m 64
  rw [show (2 : Nat) ^ 64 - 1 = 18446744073709551615 from rfl] at this
  rw [this]
  omega

/-- The length that a number picks. -/
def pickLen (six : Bool) (n : Int) : Nat := (n % (wdI six + 1)).toNat
theorem pickLen_le (six : Bool) (n : Int) : pickLen six n ≤ wd six := by
  unfold pickLen
  have e : wdI six = (wd six : Int) := (pwide_range six).2.2
  have := Int.emod_lt_of_pos n (show 0 < wdI six + 1 by rw [e]; omega)
  omega
end Go.Proofs.YtoecmoicaklbaaaDoor
