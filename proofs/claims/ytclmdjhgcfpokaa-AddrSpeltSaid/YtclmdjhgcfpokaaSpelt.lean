/- AddrSpelt: the walk of the law. -/
import Derived.Test.YtclmdjhgcfpokaaAddr2
import Derived.Test.YtclmdjhgcfpokaaPlain2
set_option linter.unusedVariables false
namespace Go.Proofs.Ytclmdjhgcfpokaa
open Go.RowKit Go.Sort Wc Wk


set_option maxRecDepth 100000 in
set_option maxHeartbeats 4000000 in
theorem addrSpelt_false (six' : Bool) (hi lo hi' lo' : Int) (w : World) (a b : Nat) (ha : Fits false a) (hb : Fits false b)
    (A : Hid (∀ w, Calls Try.prog 15 #[.agg #[.bool false, .int .u64 hi, .int .u64 lo]] w fun e w' => e = .returned (.agg #[.bool false, .int .u64 (hiOf false a), .int .u64 (loOf a)]) ∧ Below w.heap.size w w'))
    (B : Hid (∀ w, Calls Try.prog 15 #[.agg #[.bool false, .int .u64 hi', .int .u64 lo']] w fun e w' => e = .returned (.agg #[.bool false, .int .u64 (hiOf false b), .int .u64 (loOf b)]) ∧ Below w.heap.size w w')) :
    Calls Try.prog 3 #[.agg #[.bool false, .int .u64 hi, .int .u64 lo], .agg #[.bool six', .int .u64 hi', .int .u64 lo']] w fun e w' => e = .returned (.bool true) ∧ Below w.heap.size w w' := by
  have HA := Lib.hid ha
  have HB := Lib.hid hb
  clear ha hb
  go_enter Try.func3, Try.ntmps3
  go_wp2_with (first | ((with_reducible refine (A.out _).mono ?_); rintro e w1 ⟨rfl, hb1⟩; obtain ⟨hc1, hf1⟩ := bcell hb1; have hz1 := hb1.size; (repeat (first | rw [World.size_alloc] at hz1 | rw [World.size_drew] at hz1 | rw [World.size_setCell] at hz1)); (try have : w.heap.size < w1.heap.size := by omega); (try have : w.heap.size + 1 < w1.heap.size := by omega)) | ((with_reducible refine (B.out _).mono ?_); rintro e w2 ⟨rfl, hb2⟩; obtain ⟨hc2, hf2⟩ := bcell hb2; have hz2 := hb2.size; (repeat (first | rw [World.size_alloc] at hz2 | rw [World.size_drew] at hz2 | rw [World.size_setCell] at hz2)); (try have : w.heap.size < w2.heap.size := by omega); (try have : w.heap.size + 1 < w2.heap.size := by omega); (try have : w1.heap.size < w2.heap.size := by omega)))
  go_loopw [8] (fun i wr => ∃ k : Nat, k ≤ 32 ∧ i = .int .i64 k ∧ Hid (∀ j, j < k → bitAt false a j = bitAt false b j) ∧
      wr.cell? ⟨w1.heap.size, 0, none⟩ = some (.bool false) ∧ wr.cell? ⟨w1.heap.size, 1, none⟩ = some (.int .u64 (hiOf false a)) ∧ wr.cell? ⟨w1.heap.size, 2, none⟩ = some (.int .u64 (loOf a)) ∧
      wr.cell? ⟨w2.heap.size, 0, none⟩ = some (.bool false) ∧ wr.cell? ⟨w2.heap.size, 1, none⟩ = some (.int .u64 (hiOf false b)) ∧ wr.cell? ⟨w2.heap.size, 2, none⟩ = some (.int .u64 (loOf b)) ∧
      Below w.heap.size w wr ∧ w1.heap.size < wr.heap.size ∧ w2.heap.size < wr.heap.size) (fun i _ => 32 - (intOf i).toNat)
  case atStart =>
    refine ⟨0, by decide, rfl, fun j hj => absurd hj (Nat.not_lt_zero j), ?_, ?_, ?_, ?_, ?_, ?_, by (repeat' (first | (with_reducible exact Below.refl _ _) | (with_reducible assumption) | (with_reducible refine Below.al ?_ _) | (with_reducible refine Below.dr ?_) | (with_reducible refine Below.step ?_ (by assumption)) | (with_reducible refine Below.set ?_ ?_ _) | omega | (dsimp only; omega) | (simp; done) | (simp; omega))), ?_, ?_⟩
    all_goals first | (simp [*, go_sem]; done) | (simp only [World.size_alloc]; omega)
  case round =>
    obtain ⟨k, hk, rfl, hs, p0, p1, p2, p3, p4, p5, hbr, z1, z2⟩ := hrel
    by_cases hlt : k < 32
    · have Ba := Lib.hid (fun w => bit_in false a k w HA.out (by omega) (show (k : Int) < 32 by omega))
      have Bb := Lib.hid (fun w => bit_in false b k w HB.out (by omega) (show (k : Int) < 32 by omega))
      simp only [Int.toNat_natCast] at Ba Bb
      by_cases hne : bitAt false a k = bitAt false b k
      · have Hs' : Hid (∀ j, j < k + 1 → bitAt false a j = bitAt false b j) := fun j hj => by
          rcases Nat.lt_or_ge j k with h | h
          · exact hs.out j h
          · obtain rfl : j = k := by omega
            exact hne
        rw [hne] at Ba
        generalize bitAt false b k = x at Ba Bb
        clear hne hs
        go_wp2_with (first | ((with_reducible refine (Ba.out _).mono ?_); rintro e w3 ⟨rfl, hb3⟩; obtain ⟨hc3, hf3⟩ := bcell hb3; have hz3 := hb3.size; (repeat (first | rw [World.size_alloc] at hz3 | rw [World.size_drew] at hz3 | rw [World.size_setCell] at hz3)); (try have : w.heap.size < w3.heap.size := by omega); (try have : w.heap.size + 1 < w3.heap.size := by omega); (try have : w1.heap.size < w3.heap.size := by omega); (try have : w2.heap.size < w3.heap.size := by omega)) | ((with_reducible refine (Bb.out _).mono ?_); rintro e w4 ⟨rfl, hb4⟩; obtain ⟨hc4, hf4⟩ := bcell hb4; have hz4 := hb4.size; (repeat (first | rw [World.size_alloc] at hz4 | rw [World.size_drew] at hz4 | rw [World.size_setCell] at hz4)); (try have : w.heap.size < w4.heap.size := by omega); (try have : w.heap.size + 1 < w4.heap.size := by omega); (try have : w1.heap.size < w4.heap.size := by omega); (try have : w2.heap.size < w4.heap.size := by omega); (try have : w3.heap.size < w4.heap.size := by omega)))
        go_roundw
        case rel =>
          refine ⟨k + 1, by omega, by go_num, Hs', ?_, ?_, ?_, ?_, ?_, ?_, by (repeat' (first | (with_reducible exact Below.refl _ _) | (with_reducible assumption) | (with_reducible refine Below.al ?_ _) | (with_reducible refine Below.dr ?_) | (with_reducible refine Below.step ?_ (by assumption)) | (with_reducible refine Below.set ?_ ?_ _) | omega | (dsimp only; omega) | (simp; done) | (simp; omega))), by omega, by omega⟩
          all_goals (simp [*, go_sem]; done)
        case measure => simp [intOf]; omega
      · have Hl := Lib.hid (bits_less false a b k HA.out HB.out hlt hs.out hne)
        have L := Lib.hid (fun w => ahead_any false a b w HA.out HB.out)
        rw [Hl.out] at L
        have hx : (((bitAt false a k : Nat) : Int) == ((bitAt false b k : Nat) : Int)) = false := by rw [beq_eq_false_iff_ne]; omega
        have hx' : (((bitAt false a k : Nat) : Int) != ((bitAt false b k : Nat) : Int)) = true := by rw [bne_iff_ne]; omega
        generalize bitAt false a k = x at *
        generalize bitAt false b k = y at *
        clear hne hs Hl
        go_wp2_with (first | ((with_reducible refine (Ba.out _).mono ?_); rintro e w3 ⟨rfl, hb3⟩; obtain ⟨hc3, hf3⟩ := bcell hb3; have hz3 := hb3.size; (repeat (first | rw [World.size_alloc] at hz3 | rw [World.size_drew] at hz3 | rw [World.size_setCell] at hz3)); (try have : w.heap.size < w3.heap.size := by omega); (try have : w.heap.size + 1 < w3.heap.size := by omega); (try have : w1.heap.size < w3.heap.size := by omega); (try have : w2.heap.size < w3.heap.size := by omega)) | ((with_reducible refine (Bb.out _).mono ?_); rintro e w4 ⟨rfl, hb4⟩; obtain ⟨hc4, hf4⟩ := bcell hb4; have hz4 := hb4.size; (repeat (first | rw [World.size_alloc] at hz4 | rw [World.size_drew] at hz4 | rw [World.size_setCell] at hz4)); (try have : w.heap.size < w4.heap.size := by omega); (try have : w.heap.size + 1 < w4.heap.size := by omega); (try have : w1.heap.size < w4.heap.size := by omega); (try have : w2.heap.size < w4.heap.size := by omega); (try have : w3.heap.size < w4.heap.size := by omega)) | ((with_reducible refine (L.out _).mono ?_); rintro e w5 ⟨rfl, hb5⟩; obtain ⟨hc5, hf5⟩ := bcell hb5; have hz5 := hb5.size; (repeat (first | rw [World.size_alloc] at hz5 | rw [World.size_drew] at hz5 | rw [World.size_setCell] at hz5)); (try have : w.heap.size < w5.heap.size := by omega); (try have : w.heap.size + 1 < w5.heap.size := by omega); (try have : w1.heap.size < w5.heap.size := by omega); (try have : w2.heap.size < w5.heap.size := by omega); (try have : w3.heap.size < w5.heap.size := by omega); (try have : w4.heap.size < w5.heap.size := by omega); (try have : wr.heap.size < w5.heap.size := by omega)))
        go_returns
        exact ⟨ret_bool (by simp), by (repeat' (first | (with_reducible exact Below.refl _ _) | (with_reducible assumption) | (with_reducible refine Below.al ?_ _) | (with_reducible refine Below.dr ?_) | (with_reducible refine Below.step ?_ (by assumption)) | (with_reducible refine Below.set ?_ ?_ _) | omega | (dsimp only; omega) | (simp; done) | (simp; omega)))⟩
    · obtain rfl : k = 32 := by omega
      obtain rfl : a = b := bits_same false a b HA.out HB.out hs.out
      have Bo := Lib.hid (fun w => bit_out false a 32 w HA.out (by decide) (by decide))
      clear hs hk hlt
      go_wp2_with (first | ((with_reducible refine (Bo.out _).mono ?_); rintro e w3 ⟨rfl, hb3⟩; obtain ⟨hc3, hf3⟩ := bcell hb3; have hz3 := hb3.size; (repeat (first | rw [World.size_alloc] at hz3 | rw [World.size_drew] at hz3 | rw [World.size_setCell] at hz3)); (try have : w.heap.size < w3.heap.size := by omega); (try have : w.heap.size + 1 < w3.heap.size := by omega); (try have : w1.heap.size < w3.heap.size := by omega); (try have : w2.heap.size < w3.heap.size := by omega)))
      go_returns
      exact ⟨rfl, by (repeat' (first | (with_reducible exact Below.refl _ _) | (with_reducible assumption) | (with_reducible refine Below.al ?_ _) | (with_reducible refine Below.dr ?_) | (with_reducible refine Below.step ?_ (by assumption)) | (with_reducible refine Below.set ?_ ?_ _) | omega | (dsimp only; omega) | (simp; done) | (simp; omega)))⟩
set_option maxRecDepth 100000 in
set_option maxHeartbeats 4000000 in
theorem addrSpelt_true (six' : Bool) (hi lo hi' lo' : Int) (w : World) (a b : Nat) (ha : Fits true a) (hb : Fits true b)
    (A : Hid (∀ w, Calls Try.prog 15 #[.agg #[.bool true, .int .u64 hi, .int .u64 lo]] w fun e w' => e = .returned (.agg #[.bool true, .int .u64 (hiOf true a), .int .u64 (loOf a)]) ∧ Below w.heap.size w w'))
    (B : Hid (∀ w, Calls Try.prog 15 #[.agg #[.bool true, .int .u64 hi', .int .u64 lo']] w fun e w' => e = .returned (.agg #[.bool true, .int .u64 (hiOf true b), .int .u64 (loOf b)]) ∧ Below w.heap.size w w')) :
    Calls Try.prog 3 #[.agg #[.bool true, .int .u64 hi, .int .u64 lo], .agg #[.bool six', .int .u64 hi', .int .u64 lo']] w fun e w' => e = .returned (.bool true) ∧ Below w.heap.size w w' := by
  have HA := Lib.hid ha
  have HB := Lib.hid hb
  clear ha hb
  go_enter Try.func3, Try.ntmps3
  go_wp2_with (first | ((with_reducible refine (A.out _).mono ?_); rintro e w1 ⟨rfl, hb1⟩; obtain ⟨hc1, hf1⟩ := bcell hb1; have hz1 := hb1.size; (repeat (first | rw [World.size_alloc] at hz1 | rw [World.size_drew] at hz1 | rw [World.size_setCell] at hz1)); (try have : w.heap.size < w1.heap.size := by omega); (try have : w.heap.size + 1 < w1.heap.size := by omega)) | ((with_reducible refine (B.out _).mono ?_); rintro e w2 ⟨rfl, hb2⟩; obtain ⟨hc2, hf2⟩ := bcell hb2; have hz2 := hb2.size; (repeat (first | rw [World.size_alloc] at hz2 | rw [World.size_drew] at hz2 | rw [World.size_setCell] at hz2)); (try have : w.heap.size < w2.heap.size := by omega); (try have : w.heap.size + 1 < w2.heap.size := by omega); (try have : w1.heap.size < w2.heap.size := by omega)))
  go_loopw [8] (fun i wr => ∃ k : Nat, k ≤ 128 ∧ i = .int .i64 k ∧ Hid (∀ j, j < k → bitAt true a j = bitAt true b j) ∧
      wr.cell? ⟨w1.heap.size, 0, none⟩ = some (.bool true) ∧ wr.cell? ⟨w1.heap.size, 1, none⟩ = some (.int .u64 (hiOf true a)) ∧ wr.cell? ⟨w1.heap.size, 2, none⟩ = some (.int .u64 (loOf a)) ∧
      wr.cell? ⟨w2.heap.size, 0, none⟩ = some (.bool true) ∧ wr.cell? ⟨w2.heap.size, 1, none⟩ = some (.int .u64 (hiOf true b)) ∧ wr.cell? ⟨w2.heap.size, 2, none⟩ = some (.int .u64 (loOf b)) ∧
      Below w.heap.size w wr ∧ w1.heap.size < wr.heap.size ∧ w2.heap.size < wr.heap.size) (fun i _ => 128 - (intOf i).toNat)
  case atStart =>
    refine ⟨0, by decide, rfl, fun j hj => absurd hj (Nat.not_lt_zero j), ?_, ?_, ?_, ?_, ?_, ?_, by (repeat' (first | (with_reducible exact Below.refl _ _) | (with_reducible assumption) | (with_reducible refine Below.al ?_ _) | (with_reducible refine Below.dr ?_) | (with_reducible refine Below.step ?_ (by assumption)) | (with_reducible refine Below.set ?_ ?_ _) | omega | (dsimp only; omega) | (simp; done) | (simp; omega))), ?_, ?_⟩
    all_goals first | (simp [*, go_sem]; done) | (simp only [World.size_alloc]; omega)
  case round =>
    obtain ⟨k, hk, rfl, hs, p0, p1, p2, p3, p4, p5, hbr, z1, z2⟩ := hrel
    by_cases hlt : k < 128
    · have Ba := Lib.hid (fun w => bit_in true a k w HA.out (by omega) (show (k : Int) < 128 by omega))
      have Bb := Lib.hid (fun w => bit_in true b k w HB.out (by omega) (show (k : Int) < 128 by omega))
      simp only [Int.toNat_natCast] at Ba Bb
      by_cases hne : bitAt true a k = bitAt true b k
      · have Hs' : Hid (∀ j, j < k + 1 → bitAt true a j = bitAt true b j) := fun j hj => by
          rcases Nat.lt_or_ge j k with h | h
          · exact hs.out j h
          · obtain rfl : j = k := by omega
            exact hne
        rw [hne] at Ba
        generalize bitAt true b k = x at Ba Bb
        clear hne hs
        go_wp2_with (first | ((with_reducible refine (Ba.out _).mono ?_); rintro e w3 ⟨rfl, hb3⟩; obtain ⟨hc3, hf3⟩ := bcell hb3; have hz3 := hb3.size; (repeat (first | rw [World.size_alloc] at hz3 | rw [World.size_drew] at hz3 | rw [World.size_setCell] at hz3)); (try have : w.heap.size < w3.heap.size := by omega); (try have : w.heap.size + 1 < w3.heap.size := by omega); (try have : w1.heap.size < w3.heap.size := by omega); (try have : w2.heap.size < w3.heap.size := by omega)) | ((with_reducible refine (Bb.out _).mono ?_); rintro e w4 ⟨rfl, hb4⟩; obtain ⟨hc4, hf4⟩ := bcell hb4; have hz4 := hb4.size; (repeat (first | rw [World.size_alloc] at hz4 | rw [World.size_drew] at hz4 | rw [World.size_setCell] at hz4)); (try have : w.heap.size < w4.heap.size := by omega); (try have : w.heap.size + 1 < w4.heap.size := by omega); (try have : w1.heap.size < w4.heap.size := by omega); (try have : w2.heap.size < w4.heap.size := by omega); (try have : w3.heap.size < w4.heap.size := by omega)))
        go_roundw
        case rel =>
          refine ⟨k + 1, by omega, by go_num, Hs', ?_, ?_, ?_, ?_, ?_, ?_, by (repeat' (first | (with_reducible exact Below.refl _ _) | (with_reducible assumption) | (with_reducible refine Below.al ?_ _) | (with_reducible refine Below.dr ?_) | (with_reducible refine Below.step ?_ (by assumption)) | (with_reducible refine Below.set ?_ ?_ _) | omega | (dsimp only; omega) | (simp; done) | (simp; omega))), by omega, by omega⟩
          all_goals (simp [*, go_sem]; done)
        case measure => simp [intOf]; omega
      · have Hl := Lib.hid (bits_less true a b k HA.out HB.out hlt hs.out hne)
        have L := Lib.hid (fun w => ahead_any true a b w HA.out HB.out)
        rw [Hl.out] at L
        have hx : (((bitAt true a k : Nat) : Int) == ((bitAt true b k : Nat) : Int)) = false := by rw [beq_eq_false_iff_ne]; omega
        have hx' : (((bitAt true a k : Nat) : Int) != ((bitAt true b k : Nat) : Int)) = true := by rw [bne_iff_ne]; omega
        generalize bitAt true a k = x at *
        generalize bitAt true b k = y at *
        clear hne hs Hl
        go_wp2_with (first | ((with_reducible refine (Ba.out _).mono ?_); rintro e w3 ⟨rfl, hb3⟩; obtain ⟨hc3, hf3⟩ := bcell hb3; have hz3 := hb3.size; (repeat (first | rw [World.size_alloc] at hz3 | rw [World.size_drew] at hz3 | rw [World.size_setCell] at hz3)); (try have : w.heap.size < w3.heap.size := by omega); (try have : w.heap.size + 1 < w3.heap.size := by omega); (try have : w1.heap.size < w3.heap.size := by omega); (try have : w2.heap.size < w3.heap.size := by omega)) | ((with_reducible refine (Bb.out _).mono ?_); rintro e w4 ⟨rfl, hb4⟩; obtain ⟨hc4, hf4⟩ := bcell hb4; have hz4 := hb4.size; (repeat (first | rw [World.size_alloc] at hz4 | rw [World.size_drew] at hz4 | rw [World.size_setCell] at hz4)); (try have : w.heap.size < w4.heap.size := by omega); (try have : w.heap.size + 1 < w4.heap.size := by omega); (try have : w1.heap.size < w4.heap.size := by omega); (try have : w2.heap.size < w4.heap.size := by omega); (try have : w3.heap.size < w4.heap.size := by omega)) | ((with_reducible refine (L.out _).mono ?_); rintro e w5 ⟨rfl, hb5⟩; obtain ⟨hc5, hf5⟩ := bcell hb5; have hz5 := hb5.size; (repeat (first | rw [World.size_alloc] at hz5 | rw [World.size_drew] at hz5 | rw [World.size_setCell] at hz5)); (try have : w.heap.size < w5.heap.size := by omega); (try have : w.heap.size + 1 < w5.heap.size := by omega); (try have : w1.heap.size < w5.heap.size := by omega); (try have : w2.heap.size < w5.heap.size := by omega); (try have : w3.heap.size < w5.heap.size := by omega); (try have : w4.heap.size < w5.heap.size := by omega); (try have : wr.heap.size < w5.heap.size := by omega)))
        go_returns
        exact ⟨ret_bool (by simp), by (repeat' (first | (with_reducible exact Below.refl _ _) | (with_reducible assumption) | (with_reducible refine Below.al ?_ _) | (with_reducible refine Below.dr ?_) | (with_reducible refine Below.step ?_ (by assumption)) | (with_reducible refine Below.set ?_ ?_ _) | omega | (dsimp only; omega) | (simp; done) | (simp; omega)))⟩
    · obtain rfl : k = 128 := by omega
      obtain rfl : a = b := bits_same true a b HA.out HB.out hs.out
      have Bo := Lib.hid (fun w => bit_out true a 128 w HA.out (by decide) (by decide))
      clear hs hk hlt
      go_wp2_with (first | ((with_reducible refine (Bo.out _).mono ?_); rintro e w3 ⟨rfl, hb3⟩; obtain ⟨hc3, hf3⟩ := bcell hb3; have hz3 := hb3.size; (repeat (first | rw [World.size_alloc] at hz3 | rw [World.size_drew] at hz3 | rw [World.size_setCell] at hz3)); (try have : w.heap.size < w3.heap.size := by omega); (try have : w.heap.size + 1 < w3.heap.size := by omega); (try have : w1.heap.size < w3.heap.size := by omega); (try have : w2.heap.size < w3.heap.size := by omega)))
      go_returns
      exact ⟨rfl, by (repeat' (first | (with_reducible exact Below.refl _ _) | (with_reducible assumption) | (with_reducible refine Below.al ?_ _) | (with_reducible refine Below.dr ?_) | (with_reducible refine Below.step ?_ (by assumption)) | (with_reducible refine Below.set ?_ ?_ _) | omega | (dsimp only; omega) | (simp; done) | (simp; omega)))⟩

theorem addrSpelt_walk (six : Bool) (hi lo : Int) (six' : Bool) (hi' lo' : Int) (w : World) (h1 : 0 ≤ hi ∧ hi < 18446744073709551616) (h2 : 0 ≤ lo ∧ lo < 18446744073709551616) (h3 : 0 ≤ hi' ∧ hi' < 18446744073709551616) (h4 : 0 ≤ lo' ∧ lo' < 18446744073709551616) :
    Calls Try.prog 3 #[.agg #[.bool six, .int .u64 hi, .int .u64 lo], .agg #[.bool six', .int .u64 hi', .int .u64 lo']] w fun e w' => e = .returned (.bool true) ∧ Below w.heap.size w w' := by
  cases six
  · exact addrSpelt_false six' hi lo hi' lo' w _ _ (rawN_fits false hi lo h1 h2) (rawN_fits false hi' lo' h3 h4) (fun w => addrOf_any false hi lo w h1 h2) (fun w => addrOf_any false hi' lo' w h3 h4)
  · exact addrSpelt_true six' hi lo hi' lo' w _ _ (rawN_fits true hi lo h1 h2) (rawN_fits true hi' lo' h3 h4) (fun w => addrOf_any true hi lo w h1 h2) (fun w => addrOf_any true hi' lo' w h3 h4)
end Go.Proofs.Ytclmdjhgcfpokaa
