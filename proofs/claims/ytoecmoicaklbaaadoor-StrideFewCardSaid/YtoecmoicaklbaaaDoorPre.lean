
/- Contracts of package pre: masks, cuts, checks, covering. -/
import Derived.Test.YtoecmoicaklbaaaDoorAddr
import Derived.Test.YtoecmoicaklbaaaDoorPlain
set_option linter.unusedVariables false
namespace Go.Proofs.YtoecmoicaklbaaaDoor
open Go.RowKit Go.Sort Wc Wk

theorem ones_mid (n : Int) (w : World) (h0 : 0 < n) (h1 : n < 64) :
    Calls Tryd.prog 90 #[.int .i64 n] w fun e w' => e = .returned (.int .u64 ((18446744073709551616 - 2 ^ (64 - (max 0 (min 64 n)).toNat) : Nat) : Int)) ∧ w = w' := by
  have h := ones_form n
  rw [show (64 - max 0 (min 64 n)).toNat = (64 - n).toNat from by omega] at h
  have H := Lib.hid h
  clear h
  go_enter Tryd.func90, Tryd.ntmps90
  go_wp2
  go_returns
  exact ⟨ret_int H.out, rfl⟩
theorem ones_low (n : Int) (w : World) (h0 : n ≤ 0) :
    Calls Tryd.prog 90 #[.int .i64 n] w fun e w' => e = .returned (.int .u64 ((18446744073709551616 - 2 ^ (64 - (max 0 (min 64 n)).toNat) : Nat) : Int)) ∧ w = w' := by
  rw [show (max 0 (min 64 n)).toNat = 0 from by omega]
  go_enter Tryd.func90, Tryd.ntmps90
  go_wp2
  go_returns
  exact ⟨ret_int (by first | rfl | (rw [IntKind.wrap_u64]; decide)), rfl⟩
theorem ones_high (n : Int) (w : World) (h0 : 64 ≤ n) :
    Calls Tryd.prog 90 #[.int .i64 n] w fun e w' => e = .returned (.int .u64 ((18446744073709551616 - 2 ^ (64 - (max 0 (min 64 n)).toNat) : Nat) : Int)) ∧ w = w' := by
  rw [show (max 0 (min 64 n)).toNat = 64 from by omega]
  go_enter Tryd.func90, Tryd.ntmps90
  go_wp2
  go_returns
  exact ⟨ret_int (by first | rfl | (rw [IntKind.wrap_u64]; decide)), rfl⟩
theorem ones_any (n : Int) (w : World) :
    Calls Tryd.prog 90 #[.int .i64 n] w fun e w' => e = .returned (.int .u64 ((18446744073709551616 - 2 ^ (64 - (max 0 (min 64 n)).toNat) : Nat) : Int)) ∧ w = w' := by
  by_cases h : n ≤ 0
  · exact ones_low n w h
  · by_cases h' : 64 ≤ n
    · exact ones_high n w h'
    · exact ones_mid n w (by omega) (by omega)

theorem mask_any (six : Bool) (k : Nat) (w : World) (hk : k ≤ wd six) :
    Calls Tryd.prog 86 #[.bool six, .int .i64 k] w fun e w' => e = .returned (.tuple #[.int .u64 (maskHi six k), .int .u64 (maskLo six k)]) ∧ w = w' := by
  cases six
  · have hk' : k ≤ 32 := hk
    have O := Lib.hid (fun w => ones_any k w)
    have M := mask_four k hk'
    rw [show (max 0 (min 64 (k : Int))).toNat = k from by omega] at O
    rw [← M]
    generalize ((18446744073709551616 - 2 ^ (64 - k) : Nat) : Int) = a at *
    clear M hk
    go_enter Tryd.func86, Tryd.ntmps86
    go_wp2_with (first | ((with_reducible refine (O.out _).mono ?_); rintro e w' ⟨rfl, rfl⟩))
    go_returns
    exact ⟨rfl, rfl⟩
  · have hk' : k ≤ 128 := hk
    have O := Lib.hid (fun w => ones_any k w)
    have O2 := Lib.hid (fun w => ones_any (k - 64) w)
    rw [show (max 0 (min 64 (k : Int))).toNat = min k 64 from by omega] at O
    rw [show (max 0 (min 64 ((k : Int) - 64))).toNat = k - 64 from by omega] at O2
    have e1 : maskHi true k = ((18446744073709551616 - 2 ^ (64 - min k 64) : Nat) : Int) := rfl
    have e2 : maskLo true k = ((18446744073709551616 - 2 ^ (64 - (k - 64)) : Nat) : Int) := rfl
    rw [e1, e2]
    generalize ((18446744073709551616 - 2 ^ (64 - min k 64) : Nat) : Int) = a at *
    generalize ((18446744073709551616 - 2 ^ (64 - (k - 64)) : Nat) : Int) = b at *
    clear e1 e2 hk
    go_enter Tryd.func86, Tryd.ntmps86
    go_wp2_with (first | ((with_reducible refine (O.out _).mono ?_); rintro e w' ⟨rfl, rfl⟩) | ((with_reducible refine (O2.out _).mono ?_); rintro e w' ⟨rfl, rfl⟩))
    go_returns
    exact ⟨rfl, rfl⟩

theorem cut_any (six : Bool) (n k : Nat) (w : World) (h : Fits six n) (hk : k ≤ wd six) :
    Calls Tryd.prog 79 #[Value.agg #[.bool six, .int .u64 (hiOf six n), .int .u64 (loOf n)], .int .i64 k] w fun e w' => e = .returned (Value.agg #[.bool six, .int .u64 (hiOf six (cutN (wd six) n k)), .int .u64 (loOf (cutN (wd six) n k))]) ∧ Below w.heap.size w w' := by
  have M := Lib.hid (fun w => mask_any six k w hk)
  have C : bits .and .u64 (hiOf six n) (maskHi six k) = hiOf six (cutN (wd six) n k) ∧ bits .and .u64 (loOf n) (maskLo six k) = loOf (cutN (wd six) n k) := by
    cases six
    · exact cut_four h hk
    · exact cut_six h hk
  rw [← C.1, ← C.2]
  clear C hk h
  go_enter Tryd.func79, Tryd.ntmps79
  go_wp2_with (first | ((with_reducible refine (M.out _).mono ?_); rintro e w' ⟨rfl, rfl⟩))
  refine bodyPost_ret (v := .agg #[.bool six, .int .u64 (bits .and .u64 (hiOf six n) (maskHi six k)), .int .u64 (bits .and .u64 (loOf n) (maskLo six k))]) (by simp [results, Tryd.results79, go_sem, *]) rfl ⟨rfl, by (repeat' (first | (with_reducible exact Below.refl _ _) | (with_reducible assumption) | (with_reducible refine Below.al ?_ _) | (with_reducible refine Below.dr ?_) | (with_reducible refine Below.step ?_ (by assumption)) | (with_reducible refine Below.set ?_ ?_ _) | omega | (dsimp only; omega) | (simp; done) | (simp; omega)))⟩

theorem pwide_range (six : Bool) : 32 ≤ wd six ∧ wd six ≤ 128 ∧ wdI six = (wd six : Int) := by cases six <;> decide


theorem check_ok (six : Bool) (n k : Nat) (w : World) (h : VP six n k) :
    Calls Tryd.prog 64 #[Value.agg #[.bool six, .int .u64 (hiOf six n), .int .u64 (loOf n), .int .i64 k]] w fun e w' => e = .returned (.int .i64 0) ∧ Below w.heap.size w w' := by
  obtain ⟨hf, hk, hc⟩ := h
  obtain ⟨r0, r1, r2⟩ := pwide_range six
  have M := Lib.hid (fun w => may_any six n w hf)
  have W := Lib.hid (fun w => wide_any six w)
  have C := Lib.hid (fun w => cut_any six n k w hf hk)
  rw [hc] at C
  rw [r2] at W
  clear hc r2 hf
  generalize wd six = u at *
  have hd : decide ((u : Int) < k) = false := by simp; omega
  go_enter Tryd.func64, Tryd.ntmps64
  go_wp2_with (first | ((with_reducible refine (M.out _).mono ?_); rintro e w1 ⟨rfl, hb1⟩; (repeat (with_reducible (replace hb1 := Below.undrew hb1))); obtain ⟨hc1, hf1⟩ := bcell hb1; have hz1 := hb1.size; (repeat (first | rw [World.size_alloc] at hz1 | rw [World.size_drew] at hz1 | rw [World.size_setCell] at hz1)); (try have : w.heap.size < w1.heap.size := by omega); (try have : w.heap.size < w1.heap.size + 1 := by omega); (try have : w.heap.size < w1.heap.size + 1 + 1 := by omega); (try have : w.heap.size < w1.heap.size + 1 + 1 + 1 := by omega); (try have : w.heap.size + 1 < w1.heap.size := by omega); (try have : w.heap.size + 1 < w1.heap.size + 1 := by omega); (try have : w.heap.size + 1 < w1.heap.size + 1 + 1 := by omega); (try have : w.heap.size + 1 < w1.heap.size + 1 + 1 + 1 := by omega)))
  refine wp_region_qb (by kernel_rfl) (by kernel_rfl) (fun kq => ?_)
  repeat (quiet_step (first | (with_reducible exact Calls.regrown_same (W.out _))))
  clear kq
  refine wpQuiet_nil ?_; intro w2 hb2; (repeat (with_reducible (replace hb2 := Below.undrew hb2))); obtain ⟨hc2, hf2⟩ := bcell hb2; have hz2 := hb2.size; (repeat (first | rw [World.size_alloc] at hz2 | rw [World.size_drew] at hz2 | rw [World.size_setCell] at hz2)); (try have : w.heap.size < w2.heap.size := by omega); (try have : w.heap.size < w2.heap.size + 1 := by omega); (try have : w.heap.size < w2.heap.size + 1 + 1 := by omega); (try have : w.heap.size < w2.heap.size + 1 + 1 + 1 := by omega); (try have : w.heap.size + 1 < w2.heap.size := by omega); (try have : w.heap.size + 1 < w2.heap.size + 1 := by omega); (try have : w.heap.size + 1 < w2.heap.size + 1 + 1 := by omega); (try have : w.heap.size + 1 < w2.heap.size + 1 + 1 + 1 := by omega); (try have : w1.heap.size < w2.heap.size := by omega); (try have : w1.heap.size < w2.heap.size + 1 := by omega); (try have : w1.heap.size < w2.heap.size + 1 + 1 := by omega); (try have : w1.heap.size < w2.heap.size + 1 + 1 + 1 := by omega)
  go_wp2_with (first | ((with_reducible refine (M.out _).mono ?_); rintro e w1 ⟨rfl, hb1⟩; (repeat (with_reducible (replace hb1 := Below.undrew hb1))); obtain ⟨hc1, hf1⟩ := bcell hb1; have hz1 := hb1.size; (repeat (first | rw [World.size_alloc] at hz1 | rw [World.size_drew] at hz1 | rw [World.size_setCell] at hz1)); (try have : w.heap.size < w1.heap.size := by omega); (try have : w.heap.size < w1.heap.size + 1 := by omega); (try have : w.heap.size < w1.heap.size + 1 + 1 := by omega); (try have : w.heap.size < w1.heap.size + 1 + 1 + 1 := by omega); (try have : w.heap.size + 1 < w1.heap.size := by omega); (try have : w.heap.size + 1 < w1.heap.size + 1 := by omega); (try have : w.heap.size + 1 < w1.heap.size + 1 + 1 := by omega); (try have : w.heap.size + 1 < w1.heap.size + 1 + 1 + 1 := by omega)))
  refine wp_region_qb (by kernel_rfl) (by kernel_rfl) (fun kq => ?_)
  repeat (quiet_step (first | (with_reducible exact Calls.regrown_of (C.out _))))
  clear kq
  refine wpQuiet_nil ?_; intro w3 hb3; (repeat (with_reducible (replace hb3 := Below.undrew hb3))); obtain ⟨hc3, hf3⟩ := bcell hb3; have hz3 := hb3.size; (repeat (first | rw [World.size_alloc] at hz3 | rw [World.size_drew] at hz3 | rw [World.size_setCell] at hz3)); (try have : w.heap.size < w3.heap.size := by omega); (try have : w.heap.size < w3.heap.size + 1 := by omega); (try have : w.heap.size < w3.heap.size + 1 + 1 := by omega); (try have : w.heap.size < w3.heap.size + 1 + 1 + 1 := by omega); (try have : w.heap.size + 1 < w3.heap.size := by omega); (try have : w.heap.size + 1 < w3.heap.size + 1 := by omega); (try have : w.heap.size + 1 < w3.heap.size + 1 + 1 := by omega); (try have : w.heap.size + 1 < w3.heap.size + 1 + 1 + 1 := by omega); (try have : w1.heap.size < w3.heap.size := by omega); (try have : w1.heap.size < w3.heap.size + 1 := by omega); (try have : w1.heap.size < w3.heap.size + 1 + 1 := by omega); (try have : w1.heap.size < w3.heap.size + 1 + 1 + 1 := by omega)
  go_wp2
  go_returns
  exact ⟨rfl, by (repeat' (first | (with_reducible exact Below.refl _ _) | (with_reducible assumption) | (with_reducible refine Below.al ?_ _) | (with_reducible refine Below.dr ?_) | (with_reducible refine Below.step ?_ (by assumption)) | (with_reducible refine Below.set ?_ ?_ _) | omega | (dsimp only; omega) | (simp; done) | (simp; omega)))⟩
end Go.Proofs.YtoecmoicaklbaaaDoor

/- Contracts of package pre: what is in, what covers. -/
set_option linter.unusedVariables false
namespace Go.Proofs.YtoecmoicaklbaaaDoor
open Go.RowKit Go.Sort Wc Wk


theorem in_any (six : Bool) (n k a : Nat) (w : World) (hn : Fits six n) (hk : k ≤ wd six) (ha : Fits six a) :
    Calls Tryd.prog 89 #[Value.agg #[.bool six, .int .u64 (hiOf six n), .int .u64 (loOf n), .int .i64 k], Value.agg #[.bool six, .int .u64 (hiOf six a), .int .u64 (loOf a)]] w fun e w' => e = .returned (.bool (decide (cutN (wd six) a k = n))) ∧ Below w.heap.size w w' := by
  have C := Lib.hid (fun w => cut_any six a k w ha hk)
  have hf := fits_cut ha k
  generalize cutN (wd six) a k = m at *
  have hE := addr_eq hf hn
  by_cases hm : m = n
  · subst hm
    clear hE hn hf hk ha
    rw [show decide (m = m) = true from by simp]
    go_enter Tryd.func89, Tryd.ntmps89
    go_wp2
    refine wp_region_qb (by kernel_rfl) (by kernel_rfl) (fun kq => ?_)
    repeat (quiet_step (first | (with_reducible exact Calls.regrown_of (C.out _))))
    clear kq
    refine wpQuiet_nil ?_; intro w3 hb3; (repeat (with_reducible (replace hb3 := Below.undrew hb3))); obtain ⟨hc3, hf3⟩ := bcell hb3; have hz3 := hb3.size; (repeat (first | rw [World.size_alloc] at hz3 | rw [World.size_drew] at hz3 | rw [World.size_setCell] at hz3)); (try have : w.heap.size < w3.heap.size := by omega); (try have : w.heap.size < w3.heap.size + 1 := by omega); (try have : w.heap.size < w3.heap.size + 1 + 1 := by omega); (try have : w.heap.size < w3.heap.size + 1 + 1 + 1 := by omega); (try have : w.heap.size + 1 < w3.heap.size := by omega); (try have : w.heap.size + 1 < w3.heap.size + 1 := by omega); (try have : w.heap.size + 1 < w3.heap.size + 1 + 1 := by omega); (try have : w.heap.size + 1 < w3.heap.size + 1 + 1 + 1 := by omega); (try have : w.heap.size + 2 < w3.heap.size := by omega); (try have : w.heap.size + 2 < w3.heap.size + 1 := by omega); (try have : w.heap.size + 2 < w3.heap.size + 1 + 1 := by omega); (try have : w.heap.size + 2 < w3.heap.size + 1 + 1 + 1 := by omega); (try have : w1.heap.size < w3.heap.size := by omega); (try have : w1.heap.size < w3.heap.size + 1 := by omega); (try have : w1.heap.size < w3.heap.size + 1 + 1 := by omega); (try have : w1.heap.size < w3.heap.size + 1 + 1 + 1 := by omega); (try have : w1.heap.size + 1 < w3.heap.size := by omega); (try have : w1.heap.size + 1 < w3.heap.size + 1 := by omega); (try have : w1.heap.size + 1 < w3.heap.size + 1 + 1 := by omega); (try have : w1.heap.size + 1 < w3.heap.size + 1 + 1 + 1 := by omega); (try have : w2.heap.size < w3.heap.size := by omega); (try have : w2.heap.size < w3.heap.size + 1 := by omega); (try have : w2.heap.size < w3.heap.size + 1 + 1 := by omega); (try have : w2.heap.size < w3.heap.size + 1 + 1 + 1 := by omega); (try have : w2.heap.size + 1 < w3.heap.size := by omega); (try have : w2.heap.size + 1 < w3.heap.size + 1 := by omega); (try have : w2.heap.size + 1 < w3.heap.size + 1 + 1 := by omega); (try have : w2.heap.size + 1 < w3.heap.size + 1 + 1 + 1 := by omega)
    go_wp2
    go_returns
    exact ⟨rfl, by (repeat' (first | (with_reducible exact Below.refl _ _) | (with_reducible assumption) | (with_reducible refine Below.al ?_ _) | (with_reducible refine Below.dr ?_) | (with_reducible refine Below.step ?_ (by assumption)) | (with_reducible refine Below.set ?_ ?_ _) | omega | (dsimp only; omega) | (simp; done) | (simp; omega)))⟩
  · have hm' : decide (m = n) = false := by simpa using hm
    rw [hm']
    have h2 : ¬ (hiOf six m = hiOf six n ∧ loOf m = loOf n) := fun h => hm (hE.1 h)
    clear hE hn hf hm hm' hk ha
    generalize hiOf six m = x at *
    generalize loOf m = p at *
    generalize hiOf six n = y at *
    generalize loOf n = q at *
    by_cases hx : x = y
    · subst hx
      have hp : (p == q) = false := by rw [beq_eq_false_iff_ne]; intro h; exact h2 ⟨rfl, h⟩
      clear h2
      go_enter Tryd.func89, Tryd.ntmps89
      go_wp2
      refine wp_region_qb (by kernel_rfl) (by kernel_rfl) (fun kq => ?_)
      repeat (quiet_step (first | (with_reducible exact Calls.regrown_of (C.out _))))
      clear kq
      refine wpQuiet_nil ?_; intro w3 hb3; (repeat (with_reducible (replace hb3 := Below.undrew hb3))); obtain ⟨hc3, hf3⟩ := bcell hb3; have hz3 := hb3.size; (repeat (first | rw [World.size_alloc] at hz3 | rw [World.size_drew] at hz3 | rw [World.size_setCell] at hz3)); (try have : w.heap.size < w3.heap.size := by omega); (try have : w.heap.size < w3.heap.size + 1 := by omega); (try have : w.heap.size < w3.heap.size + 1 + 1 := by omega); (try have : w.heap.size < w3.heap.size + 1 + 1 + 1 := by omega); (try have : w.heap.size + 1 < w3.heap.size := by omega); (try have : w.heap.size + 1 < w3.heap.size + 1 := by omega); (try have : w.heap.size + 1 < w3.heap.size + 1 + 1 := by omega); (try have : w.heap.size + 1 < w3.heap.size + 1 + 1 + 1 := by omega); (try have : w.heap.size + 2 < w3.heap.size := by omega); (try have : w.heap.size + 2 < w3.heap.size + 1 := by omega); (try have : w.heap.size + 2 < w3.heap.size + 1 + 1 := by omega); (try have : w.heap.size + 2 < w3.heap.size + 1 + 1 + 1 := by omega); (try have : w1.heap.size < w3.heap.size := by omega); (try have : w1.heap.size < w3.heap.size + 1 := by omega); (try have : w1.heap.size < w3.heap.size + 1 + 1 := by omega); (try have : w1.heap.size < w3.heap.size + 1 + 1 + 1 := by omega); (try have : w1.heap.size + 1 < w3.heap.size := by omega); (try have : w1.heap.size + 1 < w3.heap.size + 1 := by omega); (try have : w1.heap.size + 1 < w3.heap.size + 1 + 1 := by omega); (try have : w1.heap.size + 1 < w3.heap.size + 1 + 1 + 1 := by omega); (try have : w2.heap.size < w3.heap.size := by omega); (try have : w2.heap.size < w3.heap.size + 1 := by omega); (try have : w2.heap.size < w3.heap.size + 1 + 1 := by omega); (try have : w2.heap.size < w3.heap.size + 1 + 1 + 1 := by omega); (try have : w2.heap.size + 1 < w3.heap.size := by omega); (try have : w2.heap.size + 1 < w3.heap.size + 1 := by omega); (try have : w2.heap.size + 1 < w3.heap.size + 1 + 1 := by omega); (try have : w2.heap.size + 1 < w3.heap.size + 1 + 1 + 1 := by omega)
      go_wp2
      go_returns
      exact ⟨rfl, by (repeat' (first | (with_reducible exact Below.refl _ _) | (with_reducible assumption) | (with_reducible refine Below.al ?_ _) | (with_reducible refine Below.dr ?_) | (with_reducible refine Below.step ?_ (by assumption)) | (with_reducible refine Below.set ?_ ?_ _) | omega | (dsimp only; omega) | (simp; done) | (simp; omega)))⟩
    · have hp : (x == y) = false := by rw [beq_eq_false_iff_ne]; exact hx
      clear h2 hx
      go_enter Tryd.func89, Tryd.ntmps89
      go_wp2
      refine wp_region_qb (by kernel_rfl) (by kernel_rfl) (fun kq => ?_)
      repeat (quiet_step (first | (with_reducible exact Calls.regrown_of (C.out _))))
      clear kq
      refine wpQuiet_nil ?_; intro w3 hb3; (repeat (with_reducible (replace hb3 := Below.undrew hb3))); obtain ⟨hc3, hf3⟩ := bcell hb3; have hz3 := hb3.size; (repeat (first | rw [World.size_alloc] at hz3 | rw [World.size_drew] at hz3 | rw [World.size_setCell] at hz3)); (try have : w.heap.size < w3.heap.size := by omega); (try have : w.heap.size < w3.heap.size + 1 := by omega); (try have : w.heap.size < w3.heap.size + 1 + 1 := by omega); (try have : w.heap.size < w3.heap.size + 1 + 1 + 1 := by omega); (try have : w.heap.size + 1 < w3.heap.size := by omega); (try have : w.heap.size + 1 < w3.heap.size + 1 := by omega); (try have : w.heap.size + 1 < w3.heap.size + 1 + 1 := by omega); (try have : w.heap.size + 1 < w3.heap.size + 1 + 1 + 1 := by omega); (try have : w.heap.size + 2 < w3.heap.size := by omega); (try have : w.heap.size + 2 < w3.heap.size + 1 := by omega); (try have : w.heap.size + 2 < w3.heap.size + 1 + 1 := by omega); (try have : w.heap.size + 2 < w3.heap.size + 1 + 1 + 1 := by omega); (try have : w1.heap.size < w3.heap.size := by omega); (try have : w1.heap.size < w3.heap.size + 1 := by omega); (try have : w1.heap.size < w3.heap.size + 1 + 1 := by omega); (try have : w1.heap.size < w3.heap.size + 1 + 1 + 1 := by omega); (try have : w1.heap.size + 1 < w3.heap.size := by omega); (try have : w1.heap.size + 1 < w3.heap.size + 1 := by omega); (try have : w1.heap.size + 1 < w3.heap.size + 1 + 1 := by omega); (try have : w1.heap.size + 1 < w3.heap.size + 1 + 1 + 1 := by omega); (try have : w2.heap.size < w3.heap.size := by omega); (try have : w2.heap.size < w3.heap.size + 1 := by omega); (try have : w2.heap.size < w3.heap.size + 1 + 1 := by omega); (try have : w2.heap.size < w3.heap.size + 1 + 1 + 1 := by omega); (try have : w2.heap.size + 1 < w3.heap.size := by omega); (try have : w2.heap.size + 1 < w3.heap.size + 1 := by omega); (try have : w2.heap.size + 1 < w3.heap.size + 1 + 1 := by omega); (try have : w2.heap.size + 1 < w3.heap.size + 1 + 1 + 1 := by omega)
      go_wp2
      go_returns
      exact ⟨rfl, by (repeat' (first | (with_reducible exact Below.refl _ _) | (with_reducible assumption) | (with_reducible refine Below.al ?_ _) | (with_reducible refine Below.dr ?_) | (with_reducible refine Below.step ?_ (by assumption)) | (with_reducible refine Below.set ?_ ?_ _) | omega | (dsimp only; omega) | (simp; done) | (simp; omega)))⟩
end Go.Proofs.YtoecmoicaklbaaaDoor

/- Contracts of package pre: covering, spans. -/
set_option linter.unusedVariables false
namespace Go.Proofs.YtoecmoicaklbaaaDoor
open Go.RowKit Go.Sort Wc Wk


theorem over_any (six : Bool) (n k m k' : Nat) (w : World) (hp : VP six n k) (hq : VP six m k') :
    Calls Tryd.prog 83 #[Value.agg #[.bool six, .int .u64 (hiOf six n), .int .u64 (loOf n), .int .i64 k], Value.agg #[.bool six, .int .u64 (hiOf six m), .int .u64 (loOf m), .int .i64 k']] w fun e w' => e = .returned (.bool (decide (cov six n k m k'))) ∧ Below w.heap.size w w' := by
  have I := Lib.hid (fun w => in_any six n k m w hp.1 hp.2.1 hq.1)
  have b1 := hp.2.1
  have b2 := hq.2.1
  obtain ⟨r0, r1, r2⟩ := pwide_range six
  unfold cov
  by_cases hk : k ≤ k'
  · have e : decide (k ≤ k' ∧ cutN (wd six) m k = n) = decide (cutN (wd six) m k = n) := by simp [hk]
    rw [e]
    clear hp hq e
    generalize decide (cutN (wd six) m k = n) = b at *
    go_enter Tryd.func83, Tryd.ntmps83
    go_wp2_with (first | ((with_reducible refine (I.out _).mono ?_); rintro e w1 ⟨rfl, hb1⟩; (repeat (with_reducible (replace hb1 := Below.undrew hb1))); obtain ⟨hc1, hf1⟩ := bcell hb1; have hz1 := hb1.size; (repeat (first | rw [World.size_alloc] at hz1 | rw [World.size_drew] at hz1 | rw [World.size_setCell] at hz1)); (try have : w.heap.size < w1.heap.size := by omega); (try have : w.heap.size + 1 < w1.heap.size := by omega); (try have : w.heap.size + 2 < w1.heap.size := by omega)))
    go_returns
    exact ⟨rfl, by (repeat' (first | (with_reducible exact Below.refl _ _) | (with_reducible assumption) | (with_reducible refine Below.al ?_ _) | (with_reducible refine Below.dr ?_) | (with_reducible refine Below.step ?_ (by assumption)) | (with_reducible refine Below.set ?_ ?_ _) | omega | (dsimp only; omega) | (simp; done) | (simp; omega)))⟩
  · have e : decide (k ≤ k' ∧ cutN (wd six) m k = n) = false := by simp [hk]
    rw [e]
    have hk2 : decide ((k : Int) ≤ k') = false := by simp; omega
    clear hp hq e
    go_enter Tryd.func83, Tryd.ntmps83
    go_wp2
    go_returns
    exact ⟨hk2 ▸ rfl, by (repeat' (first | (with_reducible exact Below.refl _ _) | (with_reducible assumption) | (with_reducible refine Below.al ?_ _) | (with_reducible refine Below.dr ?_) | (with_reducible refine Below.step ?_ (by assumption)) | (with_reducible refine Below.set ?_ ?_ _) | omega | (dsimp only; omega) | (simp; done) | (simp; omega)))⟩

theorem both_ok (six : Bool) (n k m k' : Nat) (w : World) (hp : VP six n k) (hq : VP six m k') :
    Calls Tryd.prog 87 #[Value.agg #[.bool six, .int .u64 (hiOf six n), .int .u64 (loOf n), .int .i64 k], Value.agg #[.bool six, .int .u64 (hiOf six m), .int .u64 (loOf m), .int .i64 k']] w fun e w' => e = .returned (.int .i64 0) ∧ Below w.heap.size w w' := by
  have C1 := Lib.hid (fun w => check_ok six n k w hp)
  have C2 := Lib.hid (fun w => check_ok six m k' w hq)
  clear hp hq
  go_enter Tryd.func87, Tryd.ntmps87
  go_wp2_with (first | ((with_reducible refine (C1.out _).mono ?_); rintro e w1 ⟨rfl, hb1⟩; (repeat (with_reducible (replace hb1 := Below.undrew hb1))); obtain ⟨hc1, hf1⟩ := bcell hb1; have hz1 := hb1.size; (repeat (first | rw [World.size_alloc] at hz1 | rw [World.size_drew] at hz1 | rw [World.size_setCell] at hz1)); (try have : w.heap.size < w1.heap.size := by omega); (try have : w.heap.size + 1 < w1.heap.size := by omega); (try have : w.heap.size + 2 < w1.heap.size := by omega)) | ((with_reducible refine (C2.out _).mono ?_); rintro e w2 ⟨rfl, hb2⟩; (repeat (with_reducible (replace hb2 := Below.undrew hb2))); obtain ⟨hc2, hf2⟩ := bcell hb2; have hz2 := hb2.size; (repeat (first | rw [World.size_alloc] at hz2 | rw [World.size_drew] at hz2 | rw [World.size_setCell] at hz2)); (try have : w.heap.size < w2.heap.size := by omega); (try have : w.heap.size + 1 < w2.heap.size := by omega); (try have : w.heap.size + 2 < w2.heap.size := by omega); (try have : w1.heap.size < w2.heap.size := by omega); (try have : w1.heap.size + 1 < w2.heap.size := by omega)))
  go_returns
  exact ⟨rfl, by (repeat' (first | (with_reducible exact Below.refl _ _) | (with_reducible assumption) | (with_reducible refine Below.al ?_ _) | (with_reducible refine Below.dr ?_) | (with_reducible refine Below.step ?_ (by assumption)) | (with_reducible refine Below.set ?_ ?_ _) | omega | (dsimp only; omega) | (simp; done) | (simp; omega)))⟩

end Go.Proofs.YtoecmoicaklbaaaDoor
