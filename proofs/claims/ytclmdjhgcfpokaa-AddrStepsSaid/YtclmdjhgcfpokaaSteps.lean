/- AddrSteps: the walk of the law. -/
import Derived.Test.YtclmdjhgcfpokaaAddr2
import Derived.Test.YtclmdjhgcfpokaaPlain2
set_option linter.unusedVariables false
namespace Go.Proofs.Ytclmdjhgcfpokaa
open Go.RowKit Go.Sort Wc Wk

theorem kwide_any (six : Bool) (w : World) : Calls Try.prog 22 #[.bool six] w fun e w' => e = .returned (.int .i64 (wdI six)) ∧ w = w' := by
  cases six
  all_goals
    go_enter Try.func22, Try.ntmps22
    go_wp2
    go_returns
    exact ⟨rfl, rfl⟩

theorem bit_one (w : World) : Calls Try.prog 16 #[.agg #[.bool false, .int .u64 0, .int .u64 1], .int .i64 31] w fun e w' => e = .returned (.tuple #[.int .i64 1, .int .i64 0]) ∧ Below w.heap.size w w' :=
  bit_in false 1 31 w (by unfold Fits wd; decide) (by decide) (by decide)

theorem wdI_range (six : Bool) : 32 ≤ wdI six ∧ wdI six ≤ 128 := by cases six <;> decide


set_option maxRecDepth 100000 in
set_option maxHeartbeats 1000000 in
theorem addrSteps_core (six : Bool) (hi lo many : Int) (w : World) (a n : Nat) (ha : Fits six a) (hn : n < 40)
    (A : Hid (∀ w, Calls Try.prog 15 #[.agg #[.bool six, .int .u64 hi, .int .u64 lo]] w fun e w' => e = .returned (.agg #[.bool six, .int .u64 (hiOf six a), .int .u64 (loOf a)]) ∧ Below w.heap.size w w'))
    (P : Hid (∀ w, Calls Try.prog 18 #[.int .i64 many, .int .i64 40] w fun e w' => e = .returned (.int .i64 n) ∧ w = w')) :
    Calls Try.prog 6 #[.agg #[.bool six, .int .u64 hi, .int .u64 lo], .int .i64 many] w fun e w' => e = .returned (.bool true) ∧ Below w.heap.size w w' := by
  have HA := Lib.hid ha
  have HP := Lib.hid (show (2 ^ wd six : Nat) = (2 ^ wd six : Nat) from rfl)
  obtain ⟨wr0, wr1⟩ := wdI_range six
  clear ha
  go_enter Try.func6, Try.ntmps6
  go_wp2_with (first | ((with_reducible refine (A.out _).mono ?_); rintro e w1 ⟨rfl, hb1⟩; obtain ⟨hc1, hf1⟩ := bcell hb1; have hz1 := hb1.size; (repeat (first | rw [World.size_alloc] at hz1 | rw [World.size_drew] at hz1 | rw [World.size_setCell] at hz1)); (try have : w.heap.size < w1.heap.size := by omega); (try have : w.heap.size ≤ w1.heap.size := by omega); (try have : w.heap.size ≤ w1.heap.size + 1 := by omega)) | ((with_reducible refine (P.out _).mono ?_); rintro e w' ⟨rfl, rfl⟩))
  go_loopw [8] (fun i wr => ∃ k : Nat, k ≤ n ∧ i = .int .i64 k ∧ Hid (Fits six (a + k)) ∧
      wr.cell? ⟨w1.heap.size, 0, none⟩ = some (.bool six) ∧ wr.cell? ⟨w1.heap.size, 1, none⟩ = some (.int .u64 (hiOf six a)) ∧ wr.cell? ⟨w1.heap.size, 2, none⟩ = some (.int .u64 (loOf a)) ∧
      wr.cell? ⟨w1.heap.size + 1, 0, none⟩ = some (.bool six) ∧ wr.cell? ⟨w1.heap.size + 1, 1, none⟩ = some (.int .u64 (hiOf six (a + k))) ∧ wr.cell? ⟨w1.heap.size + 1, 2, none⟩ = some (.int .u64 (loOf (a + k))) ∧
      (∀ j, wr.frozen? ⟨w1.heap.size + 1, j, none⟩ = false) ∧
      Below w.heap.size w wr ∧ w1.heap.size + 1 < wr.heap.size ∧ w1.heap.size < wr.heap.size) (fun i _ => n - (intOf i).toNat)
  case atStart =>
    refine ⟨0, by omega, rfl, HA.out, ?_, ?_, ?_, ?_, ?_, ?_, ?_, by (repeat' (first | (with_reducible exact Below.refl _ _) | (with_reducible assumption) | (with_reducible refine Below.al ?_ _) | (with_reducible refine Below.dr ?_) | (with_reducible refine Below.step ?_ (by assumption)) | (with_reducible refine Below.set ?_ ?_ _) | omega | (dsimp only; omega) | (simp; done) | (simp; omega))), ?_, ?_⟩
    all_goals first | (simp [*, go_sem]; done) | (simp only [World.size_alloc]; omega) | skip
  case round =>
    obtain ⟨k, hk, rfl, hs, p0, p1, p2, p3, p4, p5, hfr, hbr, z1, z2⟩ := hrel
    have hone := Lib.hid bit_one
    by_cases hlt : k < n
    · by_cases hf : Fits six (a + k + 1)
      · have N1 := Lib.hid (fun w => next_ok six (a + k) 1 w hs.out (by omega) (by omega) (a + k + 1) (by omega) hf)
        have B1 := Lib.hid (fun w => bit_in six (a + k) (wdI six - 1) w hs.out (by omega) (by omega))
        have B2 := Lib.hid (fun w => bit_in six (a + k + 1) (wdI six - 1) w hf (by omega) (by omega))
        have e1 : (wdI six - 1).toNat = wd six - 1 := by cases six <;> rfl
        rw [e1, lastBit] at B1 B2
        have hx : ((((a + k) % 2 : Nat) : Int) == (((a + k + 1) % 2 : Nat) : Int)) = false := by rw [beq_eq_false_iff_ne]; omega
        generalize (a + k) % 2 = x at *
        generalize (a + k + 1) % 2 = y at *
        have Hf := Lib.hid hf
        have W := Lib.hid (kwide_any six)
        clear e1 hf
        go_wp2_with (first | ((with_reducible refine (N1.out _).mono ?_); rintro e w3 ⟨rfl, hb3⟩; obtain ⟨hc3, hf3⟩ := bcell hb3; have hz3 := hb3.size; (repeat (first | rw [World.size_alloc] at hz3 | rw [World.size_drew] at hz3 | rw [World.size_setCell] at hz3)); (try have : w.heap.size < w3.heap.size := by omega); (try have : w.heap.size ≤ w3.heap.size := by omega); (try have : w.heap.size ≤ w3.heap.size + 1 := by omega); (try have : w1.heap.size < w3.heap.size := by omega); (try have : w1.heap.size ≤ w3.heap.size := by omega); (try have : w1.heap.size ≤ w3.heap.size + 1 := by omega); (try have : w1.heap.size + 1 < w3.heap.size := by omega); (try have : w1.heap.size + 1 ≤ w3.heap.size := by omega); (try have : w1.heap.size + 1 ≤ w3.heap.size + 1 := by omega); (try have : wr.heap.size < w3.heap.size := by omega); (try have : wr.heap.size ≤ w3.heap.size := by omega); (try have : wr.heap.size ≤ w3.heap.size + 1 := by omega); (try have : wr.heap.size + 1 < w3.heap.size := by omega); (try have : wr.heap.size + 1 ≤ w3.heap.size := by omega); (try have : wr.heap.size + 1 ≤ w3.heap.size + 1 := by omega)))
        refine wp_region_qb (by kernel_rfl) (by kernel_rfl) (fun kq => ?_)
        have ew : IntKind.i64.wrap (wdI six - 1) = wdI six - 1 := IntWalk.i64_in _ (by omega)
        repeat (first | go_big_quiet_step (first | (with_reducible exact Calls.regrown_same (W.out _)) | (with_reducible exact Calls.regrown_of (B1.out _))) | quiet_step (first | (with_reducible exact Calls.regrown_same (W.out _)) | (with_reducible exact Calls.regrown_of (B1.out _))))
        clear kq ew
        refine wpQuiet_nil ?_; intro w5 hb5; obtain ⟨hc5, hf5⟩ := bcell hb5; have hz5 := hb5.size; (repeat (first | rw [World.size_alloc] at hz5 | rw [World.size_drew] at hz5 | rw [World.size_setCell] at hz5)); (try have : w.heap.size < w5.heap.size := by omega); (try have : w.heap.size ≤ w5.heap.size := by omega); (try have : w.heap.size ≤ w5.heap.size + 1 := by omega); (try have : w1.heap.size < w5.heap.size := by omega); (try have : w1.heap.size ≤ w5.heap.size := by omega); (try have : w1.heap.size ≤ w5.heap.size + 1 := by omega); (try have : w1.heap.size + 1 < w5.heap.size := by omega); (try have : w1.heap.size + 1 ≤ w5.heap.size := by omega); (try have : w1.heap.size + 1 ≤ w5.heap.size + 1 := by omega); (try have : wr.heap.size < w5.heap.size := by omega); (try have : wr.heap.size ≤ w5.heap.size := by omega); (try have : wr.heap.size ≤ w5.heap.size + 1 := by omega); (try have : wr.heap.size + 1 < w5.heap.size := by omega); (try have : wr.heap.size + 1 ≤ w5.heap.size := by omega); (try have : wr.heap.size + 1 ≤ w5.heap.size + 1 := by omega); (try have : w3.heap.size < w5.heap.size := by omega); (try have : w3.heap.size ≤ w5.heap.size := by omega); (try have : w3.heap.size ≤ w5.heap.size + 1 := by omega); (try have : w4.heap.size < w5.heap.size := by omega); (try have : w4.heap.size ≤ w5.heap.size := by omega); (try have : w4.heap.size ≤ w5.heap.size + 1 := by omega)
        go_wp2_with fail
        refine wp_region_qb (by kernel_rfl) (by kernel_rfl) (fun kq => ?_)
        have ew : IntKind.i64.wrap (wdI six - 1) = wdI six - 1 := IntWalk.i64_in _ (by omega)
        repeat (first | go_big_quiet_step (first | (with_reducible exact Calls.regrown_same (W.out _)) | (with_reducible exact Calls.regrown_of (B2.out _))) | quiet_step (first | (with_reducible exact Calls.regrown_same (W.out _)) | (with_reducible exact Calls.regrown_of (B2.out _))))
        clear kq ew
        refine wpQuiet_nil ?_; intro w6 hb6; obtain ⟨hc6, hf6⟩ := bcell hb6; have hz6 := hb6.size; (repeat (first | rw [World.size_alloc] at hz6 | rw [World.size_drew] at hz6 | rw [World.size_setCell] at hz6)); (try have : w.heap.size < w6.heap.size := by omega); (try have : w.heap.size ≤ w6.heap.size := by omega); (try have : w.heap.size ≤ w6.heap.size + 1 := by omega); (try have : w1.heap.size < w6.heap.size := by omega); (try have : w1.heap.size ≤ w6.heap.size := by omega); (try have : w1.heap.size ≤ w6.heap.size + 1 := by omega); (try have : w1.heap.size + 1 < w6.heap.size := by omega); (try have : w1.heap.size + 1 ≤ w6.heap.size := by omega); (try have : w1.heap.size + 1 ≤ w6.heap.size + 1 := by omega); (try have : wr.heap.size < w6.heap.size := by omega); (try have : wr.heap.size ≤ w6.heap.size := by omega); (try have : wr.heap.size ≤ w6.heap.size + 1 := by omega); (try have : wr.heap.size + 1 < w6.heap.size := by omega); (try have : wr.heap.size + 1 ≤ w6.heap.size := by omega); (try have : wr.heap.size + 1 ≤ w6.heap.size + 1 := by omega); (try have : w3.heap.size < w6.heap.size := by omega); (try have : w3.heap.size ≤ w6.heap.size := by omega); (try have : w3.heap.size ≤ w6.heap.size + 1 := by omega); (try have : w4.heap.size < w6.heap.size := by omega); (try have : w4.heap.size ≤ w6.heap.size := by omega); (try have : w4.heap.size ≤ w6.heap.size + 1 := by omega)
        go_wp2_with fail
        go_roundw
        case rel =>
          refine ⟨k + 1, by omega, by go_num, Hf, ?_, ?_, ?_, ?_, ?_, ?_, ?_, by (repeat' (first | (with_reducible exact Below.refl _ _) | (with_reducible assumption) | (with_reducible refine Below.al ?_ _) | (with_reducible refine Below.dr ?_) | (with_reducible refine Below.step ?_ (by assumption)) | (with_reducible refine Below.set ?_ ?_ _) | omega | (dsimp only; omega) | (simp; done) | (simp; omega))), ?_, ?_⟩
          all_goals first | (simp [*, go_sem, ← Nat.add_assoc]; done) | (simp only [World.size_setCell]; omega)
        case measure => simp [intOf]; omega
      · have hfa := hs.out
        have hx1 : (2 : Int) ^ wd six ≤ (a + k : Nat) + 1 := by
          unfold Fits at hf
          have e : ((2 ^ wd six : Nat) : Int) = (2 : Int) ^ wd six := by simp
          rw [← e]; omega
        have hxn : (2 : Int) ^ wd six ≤ (a : Nat) + (n : Int) := by omega
        have N1 := Lib.hid (fun w => next_bad six (a + k) 1 w hfa (by omega) (by omega) (Or.inr hx1))
        have N2 := Lib.hid (fun w => next_bad six a n w HA.out (by omega) (by omega) (Or.inr hxn))
        clear hxn hx1 hfa hf
        go_wp2_with (first | ((with_reducible refine (N1.out _).mono ?_); rintro e w3 ⟨rfl, hb3⟩; obtain ⟨hc3, hf3⟩ := bcell hb3; have hz3 := hb3.size; (repeat (first | rw [World.size_alloc] at hz3 | rw [World.size_drew] at hz3 | rw [World.size_setCell] at hz3)); (try have : w.heap.size < w3.heap.size := by omega); (try have : w.heap.size ≤ w3.heap.size := by omega); (try have : w.heap.size ≤ w3.heap.size + 1 := by omega); (try have : w1.heap.size < w3.heap.size := by omega); (try have : w1.heap.size ≤ w3.heap.size := by omega); (try have : w1.heap.size ≤ w3.heap.size + 1 := by omega); (try have : w1.heap.size + 1 < w3.heap.size := by omega); (try have : w1.heap.size + 1 ≤ w3.heap.size := by omega); (try have : w1.heap.size + 1 ≤ w3.heap.size + 1 := by omega); (try have : wr.heap.size < w3.heap.size := by omega); (try have : wr.heap.size ≤ w3.heap.size := by omega); (try have : wr.heap.size ≤ w3.heap.size + 1 := by omega); (try have : wr.heap.size + 1 < w3.heap.size := by omega); (try have : wr.heap.size + 1 ≤ w3.heap.size := by omega); (try have : wr.heap.size + 1 ≤ w3.heap.size + 1 := by omega)) | ((with_reducible refine (N2.out _).mono ?_); rintro e w4 ⟨rfl, hb4⟩; obtain ⟨hc4, hf4⟩ := bcell hb4; have hz4 := hb4.size; (repeat (first | rw [World.size_alloc] at hz4 | rw [World.size_drew] at hz4 | rw [World.size_setCell] at hz4)); (try have : w.heap.size < w4.heap.size := by omega); (try have : w.heap.size ≤ w4.heap.size := by omega); (try have : w.heap.size ≤ w4.heap.size + 1 := by omega); (try have : w1.heap.size < w4.heap.size := by omega); (try have : w1.heap.size ≤ w4.heap.size := by omega); (try have : w1.heap.size ≤ w4.heap.size + 1 := by omega); (try have : w1.heap.size + 1 < w4.heap.size := by omega); (try have : w1.heap.size + 1 ≤ w4.heap.size := by omega); (try have : w1.heap.size + 1 ≤ w4.heap.size + 1 := by omega); (try have : wr.heap.size < w4.heap.size := by omega); (try have : wr.heap.size ≤ w4.heap.size := by omega); (try have : wr.heap.size ≤ w4.heap.size + 1 := by omega); (try have : wr.heap.size + 1 < w4.heap.size := by omega); (try have : wr.heap.size + 1 ≤ w4.heap.size := by omega); (try have : wr.heap.size + 1 ≤ w4.heap.size + 1 := by omega); (try have : w3.heap.size < w4.heap.size := by omega); (try have : w3.heap.size ≤ w4.heap.size := by omega); (try have : w3.heap.size ≤ w4.heap.size + 1 := by omega)))
        go_returns
        exact ⟨rfl, by (repeat' (first | (with_reducible exact Below.refl _ _) | (with_reducible assumption) | (with_reducible refine Below.al ?_ _) | (with_reducible refine Below.dr ?_) | (with_reducible refine Below.step ?_ (by assumption)) | (with_reducible refine Below.set ?_ ?_ _) | omega | (dsimp only; omega) | (simp; done) | (simp; omega)))⟩
    · obtain rfl : k = n := by omega
      have N1 := Lib.hid (fun w => next_ok six a k w HA.out (by omega) (by omega) (a + k) (by omega) hs.out)
      clear hlt hk
      go_wp2_with (first | ((with_reducible refine (N1.out _).mono ?_); rintro e w3 ⟨rfl, hb3⟩; obtain ⟨hc3, hf3⟩ := bcell hb3; have hz3 := hb3.size; (repeat (first | rw [World.size_alloc] at hz3 | rw [World.size_drew] at hz3 | rw [World.size_setCell] at hz3)); (try have : w.heap.size < w3.heap.size := by omega); (try have : w.heap.size ≤ w3.heap.size := by omega); (try have : w.heap.size ≤ w3.heap.size + 1 := by omega); (try have : w1.heap.size < w3.heap.size := by omega); (try have : w1.heap.size ≤ w3.heap.size := by omega); (try have : w1.heap.size ≤ w3.heap.size + 1 := by omega); (try have : w1.heap.size + 1 < w3.heap.size := by omega); (try have : w1.heap.size + 1 ≤ w3.heap.size := by omega); (try have : w1.heap.size + 1 ≤ w3.heap.size + 1 := by omega); (try have : wr.heap.size < w3.heap.size := by omega); (try have : wr.heap.size ≤ w3.heap.size := by omega); (try have : wr.heap.size ≤ w3.heap.size + 1 := by omega); (try have : wr.heap.size + 1 < w3.heap.size := by omega); (try have : wr.heap.size + 1 ≤ w3.heap.size := by omega); (try have : wr.heap.size + 1 ≤ w3.heap.size + 1 := by omega)) | ((with_reducible refine (hone.out _).mono ?_); rintro e w4 ⟨rfl, hb4⟩; obtain ⟨hc4, hf4⟩ := bcell hb4; have hz4 := hb4.size; (repeat (first | rw [World.size_alloc] at hz4 | rw [World.size_drew] at hz4 | rw [World.size_setCell] at hz4)); (try have : w.heap.size < w4.heap.size := by omega); (try have : w.heap.size ≤ w4.heap.size := by omega); (try have : w.heap.size ≤ w4.heap.size + 1 := by omega); (try have : w1.heap.size < w4.heap.size := by omega); (try have : w1.heap.size ≤ w4.heap.size := by omega); (try have : w1.heap.size ≤ w4.heap.size + 1 := by omega); (try have : w1.heap.size + 1 < w4.heap.size := by omega); (try have : w1.heap.size + 1 ≤ w4.heap.size := by omega); (try have : w1.heap.size + 1 ≤ w4.heap.size + 1 := by omega); (try have : wr.heap.size < w4.heap.size := by omega); (try have : wr.heap.size ≤ w4.heap.size := by omega); (try have : wr.heap.size ≤ w4.heap.size + 1 := by omega); (try have : wr.heap.size + 1 < w4.heap.size := by omega); (try have : wr.heap.size + 1 ≤ w4.heap.size := by omega); (try have : wr.heap.size + 1 ≤ w4.heap.size + 1 := by omega); (try have : w3.heap.size < w4.heap.size := by omega); (try have : w3.heap.size ≤ w4.heap.size := by omega); (try have : w3.heap.size ≤ w4.heap.size + 1 := by omega)))
      go_returns
      exact ⟨rfl, by (repeat' (first | (with_reducible exact Below.refl _ _) | (with_reducible assumption) | (with_reducible refine Below.al ?_ _) | (with_reducible refine Below.dr ?_) | (with_reducible refine Below.step ?_ (by assumption)) | (with_reducible refine Below.set ?_ ?_ _) | omega | (dsimp only; omega) | (simp; done) | (simp; omega)))⟩

theorem addrSteps_walk (six : Bool) (hi lo many : Int) (w : World) (h : 0 ≤ hi ∧ hi < 18446744073709551616) (h' : 0 ≤ lo ∧ lo < 18446744073709551616) (_hb : -9223372036854775808 ≤ many ∧ many ≤ 9223372036854775807) :
    Calls Try.prog 6 #[.agg #[.bool six, .int .u64 hi, .int .u64 lo], .int .i64 many] w fun e w' => e = .returned (.bool true) ∧ Below w.heap.size w w' := by
  have m0 := Int.emod_nonneg many (show (40 : Int) ≠ 0 by decide)
  have m1 := Int.emod_lt_of_pos many (show (0 : Int) < 40 by decide)
  obtain ⟨n, hn⟩ := Int.eq_ofNat_of_zero_le m0
  exact addrSteps_core six hi lo many w _ n (rawN_fits six hi lo h h') (by omega) (fun w => addrOf_any six hi lo w h h') (fun w => by have := picked_any many 40 w (by decide) (by decide); rwa [hn] at this)
end Go.Proofs.Ytclmdjhgcfpokaa
