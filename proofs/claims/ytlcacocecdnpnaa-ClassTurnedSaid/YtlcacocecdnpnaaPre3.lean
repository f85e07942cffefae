
/- Contracts of package pre: covering, spans. -/
import Derived.Test.YtlcacocecdnpnaaPre2
set_option linter.unusedVariables false
namespace Go.Proofs.Ytlcacocecdnpnaa
open Go.RowKit Go.Sort Wc Wk


theorem over_any (six : Bool) (n k m k' : Nat) (w : World) (hp : VP six n k) (hq : VP six m k') :
    Calls Try.prog 37 #[Value.agg #[.bool six, .int .u64 (hiOf six n), .int .u64 (loOf n), .int .i64 k], Value.agg #[.bool six, .int .u64 (hiOf six m), .int .u64 (loOf m), .int .i64 k']] w fun e w' => e = .returned (.bool (decide (cov six n k m k'))) ∧ Below w.heap.size w w' := by
  have I := Lib.hid (fun w => in_any six n k m w hp.1 hp.2.1 hq.1)
  have b1 := hp.2.1
  have b2 := hq.2.1
  obtain ⟨r0, r1, r2⟩ := pwide_range six
  unfold cov
  by_cases hk : k ≤ k'
  · have e : decide (k ≤ k' ∧ cutN (wd six) m k = n) = decide (cutN (wd six) m k = n) := by simp [hk]
    rw [e]
    clear hp hq e
    generalize decide (cutN (wd six) m k = n) = b at *
    go_enter Try.func37, Try.ntmps37
    go_wp2_with (first | ((with_reducible refine (I.out _).mono ?_); rintro e w1 ⟨rfl, hb1⟩; (repeat (with_reducible (replace hb1 := Below.undrew hb1))); obtain ⟨hc1, hf1⟩ := bcell hb1; have hz1 := hb1.size; (repeat (first | rw [World.size_alloc] at hz1 | rw [World.size_drew] at hz1 | rw [World.size_setCell] at hz1)); (try have : w.heap.size < w1.heap.size := by omega); (try have : w.heap.size + 1 < w1.heap.size := by omega); (try have : w.heap.size + 2 < w1.heap.size := by omega)))
    go_returns
    exact ⟨rfl, by (repeat' (first | (with_reducible exact Below.refl _ _) | (with_reducible assumption) | (with_reducible refine Below.al ?_ _) | (with_reducible refine Below.dr ?_) | (with_reducible refine Below.step ?_ (by assumption)) | (with_reducible refine Below.set ?_ ?_ _) | omega | (dsimp only; omega) | (simp; done) | (simp; omega)))⟩
  · have e : decide (k ≤ k' ∧ cutN (wd six) m k = n) = false := by simp [hk]
    rw [e]
    have hk2 : decide ((k : Int) ≤ k') = false := by simp; omega
    clear hp hq e
    go_enter Try.func37, Try.ntmps37
    go_wp2
    go_returns
    exact ⟨hk2 ▸ rfl, by (repeat' (first | (with_reducible exact Below.refl _ _) | (with_reducible assumption) | (with_reducible refine Below.al ?_ _) | (with_reducible refine Below.dr ?_) | (with_reducible refine Below.step ?_ (by assumption)) | (with_reducible refine Below.set ?_ ?_ _) | omega | (dsimp only; omega) | (simp; done) | (simp; omega)))⟩

theorem both_ok (six : Bool) (n k m k' : Nat) (w : World) (hp : VP six n k) (hq : VP six m k') :
    Calls Try.prog 36 #[Value.agg #[.bool six, .int .u64 (hiOf six n), .int .u64 (loOf n), .int .i64 k], Value.agg #[.bool six, .int .u64 (hiOf six m), .int .u64 (loOf m), .int .i64 k']] w fun e w' => e = .returned (.int .i64 0) ∧ Below w.heap.size w w' := by
  have C1 := Lib.hid (fun w => check_ok six n k w hp)
  have C2 := Lib.hid (fun w => check_ok six m k' w hq)
  clear hp hq
  go_enter Try.func36, Try.ntmps36
  go_wp2_with (first | ((with_reducible refine (C1.out _).mono ?_); rintro e w1 ⟨rfl, hb1⟩; (repeat (with_reducible (replace hb1 := Below.undrew hb1))); obtain ⟨hc1, hf1⟩ := bcell hb1; have hz1 := hb1.size; (repeat (first | rw [World.size_alloc] at hz1 | rw [World.size_drew] at hz1 | rw [World.size_setCell] at hz1)); (try have : w.heap.size < w1.heap.size := by omega); (try have : w.heap.size + 1 < w1.heap.size := by omega); (try have : w.heap.size + 2 < w1.heap.size := by omega)) | ((with_reducible refine (C2.out _).mono ?_); rintro e w2 ⟨rfl, hb2⟩; (repeat (with_reducible (replace hb2 := Below.undrew hb2))); obtain ⟨hc2, hf2⟩ := bcell hb2; have hz2 := hb2.size; (repeat (first | rw [World.size_alloc] at hz2 | rw [World.size_drew] at hz2 | rw [World.size_setCell] at hz2)); (try have : w.heap.size < w2.heap.size := by omega); (try have : w.heap.size + 1 < w2.heap.size := by omega); (try have : w.heap.size + 2 < w2.heap.size := by omega); (try have : w1.heap.size < w2.heap.size := by omega); (try have : w1.heap.size + 1 < w2.heap.size := by omega)))
  go_returns
  exact ⟨rfl, by (repeat' (first | (with_reducible exact Below.refl _ _) | (with_reducible assumption) | (with_reducible refine Below.al ?_ _) | (with_reducible refine Below.dr ?_) | (with_reducible refine Below.step ?_ (by assumption)) | (with_reducible refine Below.set ?_ ?_ _) | omega | (dsimp only; omega) | (simp; done) | (simp; omega)))⟩

theorem covers_ok (six : Bool) (n k m k' : Nat) (w : World) (hp : VP six n k) (hq : VP six m k') :
    Calls Try.prog 24 #[Value.agg #[.bool six, .int .u64 (hiOf six n), .int .u64 (loOf n), .int .i64 k], Value.agg #[.bool six, .int .u64 (hiOf six m), .int .u64 (loOf m), .int .i64 k']] w fun e w' => e = .returned (.tuple #[.bool (decide (cov six n k m k')), .int .i64 0]) ∧ Below w.heap.size w w' := by
  have B := Lib.hid (fun w => both_ok six n k m k' w hp hq)
  have O := Lib.hid (fun w => over_any six n k m k' w hp hq)
  clear hp hq
  generalize decide (cov six n k m k') = b at *
  go_enter Try.func24, Try.ntmps24
  go_wp2_with (first | ((with_reducible refine (B.out _).mono ?_); rintro e w1 ⟨rfl, hb1⟩; (repeat (with_reducible (replace hb1 := Below.undrew hb1))); obtain ⟨hc1, hf1⟩ := bcell hb1; have hz1 := hb1.size; (repeat (first | rw [World.size_alloc] at hz1 | rw [World.size_drew] at hz1 | rw [World.size_setCell] at hz1)); (try have : w.heap.size < w1.heap.size := by omega); (try have : w.heap.size + 1 < w1.heap.size := by omega); (try have : w.heap.size + 2 < w1.heap.size := by omega)) | ((with_reducible refine (O.out _).mono ?_); rintro e w2 ⟨rfl, hb2⟩; (repeat (with_reducible (replace hb2 := Below.undrew hb2))); obtain ⟨hc2, hf2⟩ := bcell hb2; have hz2 := hb2.size; (repeat (first | rw [World.size_alloc] at hz2 | rw [World.size_drew] at hz2 | rw [World.size_setCell] at hz2)); (try have : w.heap.size < w2.heap.size := by omega); (try have : w.heap.size + 1 < w2.heap.size := by omega); (try have : w.heap.size + 2 < w2.heap.size := by omega); (try have : w1.heap.size < w2.heap.size := by omega); (try have : w1.heap.size + 1 < w2.heap.size := by omega)))
  go_returns
  exact ⟨rfl, by (repeat' (first | (with_reducible exact Below.refl _ _) | (with_reducible assumption) | (with_reducible refine Below.al ?_ _) | (with_reducible refine Below.dr ?_) | (with_reducible refine Below.step ?_ (by assumption)) | (with_reducible refine Below.set ?_ ?_ _) | omega | (dsimp only; omega) | (simp; done) | (simp; omega)))⟩

theorem has_ok (six : Bool) (n k a : Nat) (w : World) (hp : VP six n k) (ha : Fits six a) :
    Calls Try.prog 31 #[Value.agg #[.bool six, .int .u64 (hiOf six n), .int .u64 (loOf n), .int .i64 k], Value.agg #[.bool six, .int .u64 (hiOf six a), .int .u64 (loOf a)]] w fun e w' => e = .returned (.tuple #[.bool (decide (cutN (wd six) a k = n)), .int .i64 0]) ∧ Below w.heap.size w w' := by
  have C := Lib.hid (fun w => check_ok six n k w hp)
  have M := Lib.hid (fun w => may_any six a w ha)
  have I := Lib.hid (fun w => in_any six n k a w hp.1 hp.2.1 ha)
  clear hp ha
  generalize decide (cutN (wd six) a k = n) = b at *
  go_enter Try.func31, Try.ntmps31
  go_wp2_with (first | ((with_reducible refine (C.out _).mono ?_); rintro e w1 ⟨rfl, hb1⟩; (repeat (with_reducible (replace hb1 := Below.undrew hb1))); obtain ⟨hc1, hf1⟩ := bcell hb1; have hz1 := hb1.size; (repeat (first | rw [World.size_alloc] at hz1 | rw [World.size_drew] at hz1 | rw [World.size_setCell] at hz1)); (try have : w.heap.size < w1.heap.size := by omega); (try have : w.heap.size + 1 < w1.heap.size := by omega); (try have : w.heap.size + 2 < w1.heap.size := by omega)) | ((with_reducible refine (M.out _).mono ?_); rintro e w2 ⟨rfl, hb2⟩; (repeat (with_reducible (replace hb2 := Below.undrew hb2))); obtain ⟨hc2, hf2⟩ := bcell hb2; have hz2 := hb2.size; (repeat (first | rw [World.size_alloc] at hz2 | rw [World.size_drew] at hz2 | rw [World.size_setCell] at hz2)); (try have : w.heap.size < w2.heap.size := by omega); (try have : w.heap.size + 1 < w2.heap.size := by omega); (try have : w.heap.size + 2 < w2.heap.size := by omega); (try have : w1.heap.size < w2.heap.size := by omega); (try have : w1.heap.size + 1 < w2.heap.size := by omega)) | ((with_reducible refine (I.out _).mono ?_); rintro e w3 ⟨rfl, hb3⟩; (repeat (with_reducible (replace hb3 := Below.undrew hb3))); obtain ⟨hc3, hf3⟩ := bcell hb3; have hz3 := hb3.size; (repeat (first | rw [World.size_alloc] at hz3 | rw [World.size_drew] at hz3 | rw [World.size_setCell] at hz3)); (try have : w.heap.size < w3.heap.size := by omega); (try have : w.heap.size + 1 < w3.heap.size := by omega); (try have : w.heap.size + 2 < w3.heap.size := by omega); (try have : w1.heap.size < w3.heap.size := by omega); (try have : w1.heap.size + 1 < w3.heap.size := by omega); (try have : w2.heap.size < w3.heap.size := by omega); (try have : w2.heap.size + 1 < w3.heap.size := by omega)))
  go_returns
  exact ⟨rfl, by (repeat' (first | (with_reducible exact Below.refl _ _) | (with_reducible assumption) | (with_reducible refine Below.al ?_ _) | (with_reducible refine Below.dr ?_) | (with_reducible refine Below.step ?_ (by assumption)) | (with_reducible refine Below.set ?_ ?_ _) | omega | (dsimp only; omega) | (simp; done) | (simp; omega)))⟩

theorem half_low (six : Bool) (n k : Nat) (w : World) (hk : k ≤ 128) :
    Calls Try.prog 56 #[Value.agg #[.bool six, .int .u64 (hiOf six n), .int .u64 (loOf n), .int .i64 k], .int .i64 0] w fun e w' => e = .returned (Value.agg #[.bool six, .int .u64 (hiOf six n), .int .u64 (loOf n), .int .i64 ((k + 1 : Nat) : Int)]) ∧ Below w.heap.size w w' := by
  have e : Value.agg #[.bool six, .int .u64 (hiOf six n), .int .u64 (loOf n), .int .i64 ((k + 1 : Nat) : Int)] = Value.agg #[.bool six, .int .u64 (hiOf six n), .int .u64 (loOf n), .int .i64 ((k : Int) + 1)] := rfl
  rw [e]
  clear e
  go_enter Try.func56, Try.ntmps56
  go_wp2
  refine bodyPost_ret (v := Value.agg #[.bool six, .int .u64 (hiOf six n), .int .u64 (loOf n), .int .i64 ((k : Int) + 1)]) (by simp [results, Try.results56, go_sem, *]) rfl ⟨rfl, by (repeat' (first | (with_reducible exact Below.refl _ _) | (with_reducible assumption) | (with_reducible refine Below.al ?_ _) | (with_reducible refine Below.dr ?_) | (with_reducible refine Below.step ?_ (by assumption)) | (with_reducible refine Below.set ?_ ?_ _) | omega | (dsimp only; omega) | (simp; done) | (simp; omega)))⟩

theorem half_high (six : Bool) (n k : Nat) (w : World) (hp : VP six n k) (hk : k < wd six) :
    Calls Try.prog 56 #[Value.agg #[.bool six, .int .u64 (hiOf six n), .int .u64 (loOf n), .int .i64 k], .int .i64 1] w fun e w' => e = .returned (Value.agg #[.bool six, .int .u64 (hiOf six (halfN (wd six) n k 1)), .int .u64 (loOf (halfN (wd six) n k 1)), .int .i64 ((k + 1 : Nat) : Int)]) ∧ Below w.heap.size w w' := by
  cases six
  · have b1 : k < 32 := hk
    have L := half_four hp b1
    have R : Value.agg #[.bool false, .int .u64 (hiOf false (halfN (wd false) n k 1)), .int .u64 (loOf (halfN (wd false) n k 1)), .int .i64 ((k + 1 : Nat) : Int)] = Value.agg #[.bool false, .int .u64 (hiOf false n), .int .u64 (bits .or .u64 (loOf n) (IntKind.u64.wrap (2 ^ (31 - k)))), .int .i64 ((k : Int) + 1)] := by rw [L]; rfl
    rw [R]
    clear L R hp
    go_enter Try.func56, Try.ntmps56
    go_wp2
    go_region
    go_wp2
    refine bodyPost_ret (v := .agg #[.bool false, .int .u64 (hiOf false n), .int .u64 (bits .or .u64 (loOf n) (IntKind.u64.wrap (2 ^ (31 - k)))), .int .i64 ((k : Int) + 1)]) (by simp [results, Try.results56, go_sem, *]) rfl ⟨rfl, by (repeat' (first | (with_reducible exact Below.refl _ _) | (with_reducible assumption) | (with_reducible refine Below.al ?_ _) | (with_reducible refine Below.dr ?_) | (with_reducible refine Below.step ?_ (by assumption)) | (with_reducible refine Below.set ?_ ?_ _) | omega | (dsimp only; omega) | (simp; done) | (simp; omega)))⟩
  · have b1 : k < 128 := hk
    by_cases b2 : k < 64
    · have L := half_hi hp b2
      have R : Value.agg #[.bool true, .int .u64 (hiOf true (halfN (wd true) n k 1)), .int .u64 (loOf (halfN (wd true) n k 1)), .int .i64 ((k + 1 : Nat) : Int)] = Value.agg #[.bool true, .int .u64 (bits .or .u64 (hiOf true n) (IntKind.u64.wrap (2 ^ (63 - k)))), .int .u64 (loOf n), .int .i64 ((k : Int) + 1)] := by rw [L.1, L.2]; rfl
      rw [R]
      clear L R hp
      go_enter Try.func56, Try.ntmps56
      go_wp2
      go_region
      go_wp2
      refine bodyPost_ret (v := .agg #[.bool true, .int .u64 (bits .or .u64 (hiOf true n) (IntKind.u64.wrap (2 ^ (63 - k)))), .int .u64 (loOf n), .int .i64 ((k : Int) + 1)]) (by simp [results, Try.results56, go_sem, *]) rfl ⟨rfl, by (repeat' (first | (with_reducible exact Below.refl _ _) | (with_reducible assumption) | (with_reducible refine Below.al ?_ _) | (with_reducible refine Below.dr ?_) | (with_reducible refine Below.step ?_ (by assumption)) | (with_reducible refine Below.set ?_ ?_ _) | omega | (dsimp only; omega) | (simp; done) | (simp; omega)))⟩
    · have L := half_lo hp (by omega) b1
      have R : Value.agg #[.bool true, .int .u64 (hiOf true (halfN (wd true) n k 1)), .int .u64 (loOf (halfN (wd true) n k 1)), .int .i64 ((k + 1 : Nat) : Int)] = Value.agg #[.bool true, .int .u64 (hiOf true n), .int .u64 (bits .or .u64 (loOf n) (IntKind.u64.wrap (2 ^ (127 - k)))), .int .i64 ((k : Int) + 1)] := by rw [L.1, L.2]; rfl
      rw [R]
      clear L R hp
      go_enter Try.func56, Try.ntmps56
      go_wp2
      go_region
      go_wp2
      refine bodyPost_ret (v := .agg #[.bool true, .int .u64 (hiOf true n), .int .u64 (bits .or .u64 (loOf n) (IntKind.u64.wrap (2 ^ (127 - k)))), .int .i64 ((k : Int) + 1)]) (by simp [results, Try.results56, go_sem, *]) rfl ⟨rfl, by (repeat' (first | (with_reducible exact Below.refl _ _) | (with_reducible assumption) | (with_reducible refine Below.al ?_ _) | (with_reducible refine Below.dr ?_) | (with_reducible refine Below.step ?_ (by assumption)) | (with_reducible refine Below.set ?_ ?_ _) | omega | (dsimp only; omega) | (simp; done) | (simp; omega)))⟩
end Go.Proofs.Ytlcacocecdnpnaa
