
/- Contracts of package pre: masks, cuts, checks, covering. -/
import Derived.Test.YticfcigkldkhmaaAddr2
import Derived.Test.YticfcigkldkhmaaPlain3
set_option linter.unusedVariables false
namespace Go.Proofs.Yticfcigkldkhmaa
open Go.RowKit Go.Sort Wc Wk

theorem ones_mid (n : Int) (w : World) (h0 : 0 < n) (h1 : n < 64) :
    Calls Try.prog 94 #[.int .i64 n] w fun e w' => e = .returned (.int .u64 ((18446744073709551616 - 2 ^ (64 - (max 0 (min 64 n)).toNat) : Nat) : Int)) ∧ w = w' := by
  have h := ones_form n
  rw [show (64 - max 0 (min 64 n)).toNat = (64 - n).toNat from by omega] at h
  have H := Lib.hid h
  clear h
  go_enter Try.func94, Try.ntmps94
  go_wp2
  go_returns
  exact ⟨ret_int H.out, rfl⟩
theorem ones_low (n : Int) (w : World) (h0 : n ≤ 0) :
    Calls Try.prog 94 #[.int .i64 n] w fun e w' => e = .returned (.int .u64 ((18446744073709551616 - 2 ^ (64 - (max 0 (min 64 n)).toNat) : Nat) : Int)) ∧ w = w' := by
  rw [show (max 0 (min 64 n)).toNat = 0 from by omega]
  go_enter Try.func94, Try.ntmps94
  go_wp2
  go_returns
  exact ⟨ret_int (by first | rfl | (rw [IntKind.wrap_u64]; decide)), rfl⟩
theorem ones_high (n : Int) (w : World) (h0 : 64 ≤ n) :
    Calls Try.prog 94 #[.int .i64 n] w fun e w' => e = .returned (.int .u64 ((18446744073709551616 - 2 ^ (64 - (max 0 (min 64 n)).toNat) : Nat) : Int)) ∧ w = w' := by
  rw [show (max 0 (min 64 n)).toNat = 64 from by omega]
  go_enter Try.func94, Try.ntmps94
  go_wp2
  go_returns
  exact ⟨ret_int (by first | rfl | (rw [IntKind.wrap_u64]; decide)), rfl⟩
theorem ones_any (n : Int) (w : World) :
    Calls Try.prog 94 #[.int .i64 n] w fun e w' => e = .returned (.int .u64 ((18446744073709551616 - 2 ^ (64 - (max 0 (min 64 n)).toNat) : Nat) : Int)) ∧ w = w' := by
  by_cases h : n ≤ 0
  · exact ones_low n w h
  · by_cases h' : 64 ≤ n
    · exact ones_high n w h'
    · exact ones_mid n w (by omega) (by omega)

theorem mask_any (six : Bool) (k : Nat) (w : World) (hk : k ≤ wd six) :
    Calls Try.prog 75 #[.bool six, .int .i64 k] w fun e w' => e = .returned (.tuple #[.int .u64 (maskHi six k), .int .u64 (maskLo six k)]) ∧ w = w' := by
  cases six
  · have hk' : k ≤ 32 := hk
    have O := Lib.hid (fun w => ones_any k w)
    have M := mask_four k hk'
    rw [show (max 0 (min 64 (k : Int))).toNat = k from by omega] at O
    rw [← M]
    generalize ((18446744073709551616 - 2 ^ (64 - k) : Nat) : Int) = a at *
    clear M hk
    go_enter Try.func75, Try.ntmps75
    go_wp2_with (first | ((with_reducible refine (O.out _).mono ?_); rintro e w' ⟨rfl, rfl⟩))
    go_returns
    exact ⟨rfl, rfl⟩
  · have hk' : k ≤ 128 := hk
    have O := Lib.hid (fun w => ones_any k w)
    have O2 := Lib.hid (fun w => ones_any (k - 64) w)
    rw [show (max 0 (min 64 (k : Int))).toNat = min k 64 from by omega] at O
    rw [show (max 0 (min 64 ((k : Int) - 64))).toNat = k - 64 from by omega] at O2
    have e1 : maskHi true k = ((18446744073709551616 - 2 ^ (64 - min k 64) : Nat) : Int) := rfl
    have e2 : maskLo true k = ((18446744073709551616 - 2 ^ (64 - (k - 64)) : Nat) : Int) := rfl
    rw [e1, e2]
    generalize ((18446744073709551616 - 2 ^ (64 - min k 64) : Nat) : Int) = a at *
    generalize ((18446744073709551616 - 2 ^ (64 - (k - 64)) : Nat) : Int) = b at *
    clear e1 e2 hk
    go_enter Try.func75, Try.ntmps75
    go_wp2_with (first | ((with_reducible refine (O.out _).mono ?_); rintro e w' ⟨rfl, rfl⟩) | ((with_reducible refine (O2.out _).mono ?_); rintro e w' ⟨rfl, rfl⟩))
    go_returns
    exact ⟨rfl, rfl⟩

theorem cut_any (six : Bool) (n k : Nat) (w : World) (h : Fits six n) (hk : k ≤ wd six) :
    Calls Try.prog 74 #[Value.agg #[.bool six, .int .u64 (hiOf six n), .int .u64 (loOf n)], .int .i64 k] w fun e w' => e = .returned (Value.agg #[.bool six, .int .u64 (hiOf six (cutN (wd six) n k)), .int .u64 (loOf (cutN (wd six) n k))]) ∧ Below w.heap.size w w' := by
  have M := Lib.hid (fun w => mask_any six k w hk)
  have C : bits .and .u64 (hiOf six n) (maskHi six k) = hiOf six (cutN (wd six) n k) ∧ bits .and .u64 (loOf n) (maskLo six k) = loOf (cutN (wd six) n k) := by
    cases six
    · exact cut_four h hk
    · exact cut_six h hk
  rw [← C.1, ← C.2]
  clear C hk h
  go_enter Try.func74, Try.ntmps74
  go_wp2_with (first | ((with_reducible refine (M.out _).mono ?_); rintro e w' ⟨rfl, rfl⟩))
  refine bodyPost_ret (v := .agg #[.bool six, .int .u64 (bits .and .u64 (hiOf six n) (maskHi six k)), .int .u64 (bits .and .u64 (loOf n) (maskLo six k))]) (by simp [results, Try.results74, go_sem, *]) rfl ⟨rfl, by (repeat' (first | (with_reducible exact Below.refl _ _) | (with_reducible assumption) | (with_reducible refine Below.al ?_ _) | (with_reducible refine Below.dr ?_) | (with_reducible refine Below.step ?_ (by assumption)) | (with_reducible refine Below.set ?_ ?_ _) | omega | (dsimp only; omega) | (simp; done) | (simp; omega)))⟩

theorem pwide_range (six : Bool) : 32 ≤ wd six ∧ wd six ≤ 128 ∧ wdI six = (wd six : Int) := by cases six <;> decide


theorem check_ok (six : Bool) (n k : Nat) (w : World) (h : VP six n k) :
    Calls Try.prog 54 #[Value.agg #[.bool six, .int .u64 (hiOf six n), .int .u64 (loOf n), .int .i64 k]] w fun e w' => e = .returned (.int .i64 0) ∧ Below w.heap.size w w' := by
  obtain ⟨hf, hk, hc⟩ := h
  obtain ⟨r0, r1, r2⟩ := pwide_range six
  have M := Lib.hid (fun w => may_any six n w hf)
  have W := Lib.hid (fun w => wide_any six w)
  have C := Lib.hid (fun w => cut_any six n k w hf hk)
  rw [hc] at C
  rw [r2] at W
  clear hc r2 hf
  generalize wd six = u at *
  have hd : decide ((u : Int) < k) = false := by simp; omega
  go_enter Try.func54, Try.ntmps54
  go_wp2_with (first | ((with_reducible refine (M.out _).mono ?_); rintro e w1 ⟨rfl, hb1⟩; (repeat (with_reducible (replace hb1 := Below.undrew hb1))); obtain ⟨hc1, hf1⟩ := bcell hb1; have hz1 := hb1.size; (repeat (first | rw [World.size_alloc] at hz1 | rw [World.size_drew] at hz1 | rw [World.size_setCell] at hz1)); (try have : w.heap.size < w1.heap.size := by omega); (try have : w.heap.size < w1.heap.size + 1 := by omega); (try have : w.heap.size < w1.heap.size + 1 + 1 := by omega); (try have : w.heap.size < w1.heap.size + 1 + 1 + 1 := by omega); (try have : w.heap.size + 1 < w1.heap.size := by omega); (try have : w.heap.size + 1 < w1.heap.size + 1 := by omega); (try have : w.heap.size + 1 < w1.heap.size + 1 + 1 := by omega); (try have : w.heap.size + 1 < w1.heap.size + 1 + 1 + 1 := by omega)))
  refine wp_region_qb (by kernel_rfl) (by kernel_rfl) (fun kq => ?_)
  repeat (quiet_step (first | (with_reducible exact Calls.regrown_same (W.out _))))
  clear kq
  refine wpQuiet_nil ?_; intro w2 hb2; (repeat (with_reducible (replace hb2 := Below.undrew hb2))); obtain ⟨hc2, hf2⟩ := bcell hb2; have hz2 := hb2.size; (repeat (first | rw [World.size_alloc] at hz2 | rw [World.size_drew] at hz2 | rw [World.size_setCell] at hz2)); (try have : w.heap.size < w2.heap.size := by omega); (try have : w.heap.size < w2.heap.size + 1 := by omega); (try have : w.heap.size < w2.heap.size + 1 + 1 := by omega); (try have : w.heap.size < w2.heap.size + 1 + 1 + 1 := by omega); (try have : w.heap.size + 1 < w2.heap.size := by omega); (try have : w.heap.size + 1 < w2.heap.size + 1 := by omega); (try have : w.heap.size + 1 < w2.heap.size + 1 + 1 := by omega); (try have : w.heap.size + 1 < w2.heap.size + 1 + 1 + 1 := by omega); (try have : w1.heap.size < w2.heap.size := by omega); (try have : w1.heap.size < w2.heap.size + 1 := by omega); (try have : w1.heap.size < w2.heap.size + 1 + 1 := by omega); (try have : w1.heap.size < w2.heap.size + 1 + 1 + 1 := by omega)
  go_wp2_with (first | ((with_reducible refine (M.out _).mono ?_); rintro e w1 ⟨rfl, hb1⟩; (repeat (with_reducible (replace hb1 := Below.undrew hb1))); obtain ⟨hc1, hf1⟩ := bcell hb1; have hz1 := hb1.size; (repeat (first | rw [World.size_alloc] at hz1 | rw [World.size_drew] at hz1 | rw [World.size_setCell] at hz1)); (try have : w.heap.size < w1.heap.size := by omega); (try have : w.heap.size < w1.heap.size + 1 := by omega); (try have : w.heap.size < w1.heap.size + 1 + 1 := by omega); (try have : w.heap.size < w1.heap.size + 1 + 1 + 1 := by omega); (try have : w.heap.size + 1 < w1.heap.size := by omega); (try have : w.heap.size + 1 < w1.heap.size + 1 := by omega); (try have : w.heap.size + 1 < w1.heap.size + 1 + 1 := by omega); (try have : w.heap.size + 1 < w1.heap.size + 1 + 1 + 1 := by omega)))
  refine wp_region_qb (by kernel_rfl) (by kernel_rfl) (fun kq => ?_)
  repeat (quiet_step (first | (with_reducible exact Calls.regrown_of (C.out _))))
  clear kq
  refine wpQuiet_nil ?_; intro w3 hb3; (repeat (with_reducible (replace hb3 := Below.undrew hb3))); obtain ⟨hc3, hf3⟩ := bcell hb3; have hz3 := hb3.size; (repeat (first | rw [World.size_alloc] at hz3 | rw [World.size_drew] at hz3 | rw [World.size_setCell] at hz3)); (try have : w.heap.size < w3.heap.size := by omega); (try have : w.heap.size < w3.heap.size + 1 := by omega); (try have : w.heap.size < w3.heap.size + 1 + 1 := by omega); (try have : w.heap.size < w3.heap.size + 1 + 1 + 1 := by omega); (try have : w.heap.size + 1 < w3.heap.size := by omega); (try have : w.heap.size + 1 < w3.heap.size + 1 := by omega); (try have : w.heap.size + 1 < w3.heap.size + 1 + 1 := by omega); (try have : w.heap.size + 1 < w3.heap.size + 1 + 1 + 1 := by omega); (try have : w1.heap.size < w3.heap.size := by omega); (try have : w1.heap.size < w3.heap.size + 1 := by omega); (try have : w1.heap.size < w3.heap.size + 1 + 1 := by omega); (try have : w1.heap.size < w3.heap.size + 1 + 1 + 1 := by omega)
  go_wp2
  go_returns
  exact ⟨rfl, by (repeat' (first | (with_reducible exact Below.refl _ _) | (with_reducible assumption) | (with_reducible refine Below.al ?_ _) | (with_reducible refine Below.dr ?_) | (with_reducible refine Below.step ?_ (by assumption)) | (with_reducible refine Below.set ?_ ?_ _) | omega | (dsimp only; omega) | (simp; done) | (simp; omega)))⟩
end Go.Proofs.Yticfcigkldkhmaa
