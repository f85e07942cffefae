
/- RangeJust: the walk. -/
import Derived.Test.YticfcigkldkhmaaRg4
set_option linter.unusedVariables false
namespace Go.Proofs.Yticfcigkldkhmaa
open Go Go.RowKit Go.Sort Wc Wk


set_option maxRecDepth 100000 in
set_option maxHeartbeats 1000000 in
theorem rangeJust_bad (six : Bool) (hi lo by' : Int) (w : World) (n : Nat) (d : Int)
    (P1 : Hid (∀ w, Calls Try.prog 20 #[.agg #[.bool six, .int .u64 hi, .int .u64 lo]] w fun e w' => e = .returned (Value.agg #[.bool six, .int .u64 (hiOf six n), .int .u64 (loOf n)]) ∧ Below w.heap.size w w'))
    (P : Hid (∀ w, Calls Try.prog 22 #[.int .i64 by', .int .i64 1048576] w fun e w' => e = .returned (.int .i64 d) ∧ w = w'))
    (N : Hid (∀ w, Calls Try.prog 21 #[Value.agg #[.bool six, .int .u64 (hiOf six n), .int .u64 (loOf n)], .int .i64 d] w fun e w' => e = .returned (.tuple #[.agg #[.bool false, .int .u64 0, .int .u64 0], .int .i64 2]) ∧ Below w.heap.size w w')) :
    Calls Try.prog 6 #[.agg #[.bool six, .int .u64 hi, .int .u64 lo], .int .i64 by'] w fun e w' => e = .returned (.bool true) ∧ Below w.heap.size w w' := by
  have S := Lib.hid cidrSure_any
  go_enter Try.func6, Try.ntmps6
  go_upto_region 2 with (first | ((with_reducible refine (P1.out _).mono ?_); rintro e w1 ⟨rfl, hb1⟩; (repeat (with_reducible (replace hb1 := Below.undrew hb1))); obtain ⟨hc1, hf1⟩ := bcell hb1; have hz1 := hb1.size; (repeat (first | rw [World.size_alloc] at hz1 | rw [World.size_drew] at hz1 | rw [World.size_setCell] at hz1)); (try have : g < w1.heap.size := by omega); (try have : g < w1.heap.size + 1 := by omega); (try have : g < w1.heap.size + 1 + 1 := by omega); (try have : g < w1.heap.size + 1 + 1 + 1 := by omega)))
  go_cut [6, 7] (fun s6 s7 wx => s7 = .int .i64 2 ∧ ∃ g : Nat, s6 = .pointer (some ⟨g, 0, none⟩) ∧ Below w.heap.size w wx)
  case first =>
    go_region_held3 (fun w' => w'.cell? ⟨w1.heap.size, 0, none⟩ = some (.bool six) ∧ w'.cell? ⟨w1.heap.size, 1, none⟩ = some (.int .u64 (hiOf six n)) ∧ w'.cell? ⟨w1.heap.size, 2, none⟩ = some (.int .u64 (loOf n))) (first | (go_simp; done) | (simp [*, go_sem, World.cell?_alloc_past]; done) | (simp [*, go_sem, World.cell?_alloc_past, World.cell?_setCell_far]; done))
      (first | ((with_reducible refine (P.out _).mono ?_); rintro e w' ⟨rfl, rfl⟩) | ((with_reducible refine (N.out _).mono ?_); rintro e w2 ⟨rfl, hb2⟩; (repeat (with_reducible (replace hb2 := Below.undrew hb2))); obtain ⟨hc2, hf2⟩ := bcell hb2; have hz2 := hb2.size; (repeat (first | rw [World.size_alloc] at hz2 | rw [World.size_drew] at hz2 | rw [World.size_setCell] at hz2)); (try have : g < w2.heap.size := by omega); (try have : g < w2.heap.size + 1 := by omega); (try have : g < w2.heap.size + 1 + 1 := by omega); (try have : g < w2.heap.size + 1 + 1 + 1 := by omega); (try have : w1.heap.size < w2.heap.size := by omega); (try have : w1.heap.size < w2.heap.size + 1 := by omega); (try have : w1.heap.size < w2.heap.size + 1 + 1 := by omega); (try have : w1.heap.size < w2.heap.size + 1 + 1 + 1 := by omega)))
    all_goals
      go_wp2_with fail
      go_meet
      exact ⟨rfl, _, rfl, by (repeat' (first | (with_reducible exact Below.refl _ _) | (with_reducible assumption) | (with_reducible refine Below.al ?_ _) | (with_reducible refine Below.dr ?_) | (with_reducible refine Below.step ?_ (by assumption)) | (with_reducible refine Below.set ?_ ?_ _) | omega | (dsimp only; omega) | (simp; done) | (simp; omega)))⟩
  case rest =>
    obtain ⟨rfl, g, rfl, hbc⟩ := hcut
    go_wp2_with (first | ((with_reducible refine (S.out _).mono ?_); rintro e w3 ⟨rfl, hb3⟩; (repeat (with_reducible (replace hb3 := Below.undrew hb3))); obtain ⟨hc3, hf3⟩ := bcell hb3; have hz3 := hb3.size; (repeat (first | rw [World.size_alloc] at hz3 | rw [World.size_drew] at hz3 | rw [World.size_setCell] at hz3)); (try have : g < w3.heap.size := by omega); (try have : g < w3.heap.size + 1 := by omega); (try have : g < w3.heap.size + 1 + 1 := by omega); (try have : g < w3.heap.size + 1 + 1 + 1 := by omega); (try have : w1.heap.size < w3.heap.size := by omega); (try have : w1.heap.size < w3.heap.size + 1 := by omega); (try have : w1.heap.size < w3.heap.size + 1 + 1 := by omega); (try have : w1.heap.size < w3.heap.size + 1 + 1 + 1 := by omega)))
    go_returns
    exact ⟨rfl, by (repeat' (first | (with_reducible exact Below.refl _ _) | (with_reducible assumption) | (with_reducible refine Below.al ?_ _) | (with_reducible refine Below.dr ?_) | (with_reducible refine Below.step ?_ (by assumption)) | (with_reducible refine Below.set ?_ ?_ _) | omega | (dsimp only; omega) | (simp; done) | (simp; omega)))⟩


set_option maxRecDepth 100000 in
set_option maxHeartbeats 1000000 in
theorem rangeJust_good (six : Bool) (hi lo by' : Int) (w : World) (n m : Nat) (d : Int) (hn : Fits six n) (hm : Fits six m) (hnm : n ≤ m) (hd : m - n < 1048576)
    (P1 : Hid (∀ w, Calls Try.prog 20 #[.agg #[.bool six, .int .u64 hi, .int .u64 lo]] w fun e w' => e = .returned (Value.agg #[.bool six, .int .u64 (hiOf six n), .int .u64 (loOf n)]) ∧ Below w.heap.size w w'))
    (P : Hid (∀ w, Calls Try.prog 22 #[.int .i64 by', .int .i64 1048576] w fun e w' => e = .returned (.int .i64 d) ∧ w = w'))
    (N : Hid (∀ w, Calls Try.prog 21 #[Value.agg #[.bool six, .int .u64 (hiOf six n), .int .u64 (loOf n)], .int .i64 d] w fun e w' => e = .returned (.tuple #[Value.agg #[.bool six, .int .u64 (hiOf six m), .int .u64 (loOf m)], .int .i64 0]) ∧ Below w.heap.size w w')) :
    Calls Try.prog 6 #[.agg #[.bool six, .int .u64 hi, .int .u64 lo], .int .i64 by'] w fun e w' => e = .returned (.bool true) ∧ Below w.heap.size w w' := by
  have S := Lib.hid cidrSure_any
  have R := Lib.hid (fun w => range_ok six n m w hn hm hnm hd)
  have W := Lib.hid (fun w => kwide_any six w)
  have HM := Lib.hid hm
  obtain ⟨r0, r1⟩ := (show 32 ≤ wdI six ∧ wdI six ≤ 128 from by cases six <;> decide)
  clear hn hm
  go_enter Try.func6, Try.ntmps6
  go_upto_region 2 with (first | ((with_reducible refine (P1.out _).mono ?_); rintro e w1 ⟨rfl, hb1⟩; (repeat (with_reducible (replace hb1 := Below.undrew hb1))); obtain ⟨hc1, hf1⟩ := bcell hb1; have hz1 := hb1.size; (repeat (first | rw [World.size_alloc] at hz1 | rw [World.size_drew] at hz1 | rw [World.size_setCell] at hz1)); (try have : g < w1.heap.size := by omega); (try have : g < w1.heap.size + 1 := by omega); (try have : g < w1.heap.size + 1 + 1 := by omega); (try have : g < w1.heap.size + 1 + 1 + 1 := by omega); (try have : w1.heap.size < w1.heap.size := by omega); (try have : w1.heap.size < w1.heap.size + 1 := by omega); (try have : w1.heap.size < w1.heap.size + 1 + 1 := by omega); (try have : w1.heap.size < w1.heap.size + 1 + 1 + 1 := by omega)))
  go_cut [6, 7] (fun s6 s7 wx => s7 = .int .i64 0 ∧ ∃ g : Nat, s6 = .pointer (some ⟨g, 0, none⟩) ∧ wx.cell? ⟨g, 0, none⟩ = some (.bool six) ∧ wx.cell? ⟨g, 1, none⟩ = some (.int .u64 (hiOf six m)) ∧ wx.cell? ⟨g, 2, none⟩ = some (.int .u64 (loOf m)) ∧
    wx.cell? ⟨w1.heap.size, 0, none⟩ = some (.bool six) ∧ wx.cell? ⟨w1.heap.size, 1, none⟩ = some (.int .u64 (hiOf six n)) ∧ wx.cell? ⟨w1.heap.size, 2, none⟩ = some (.int .u64 (loOf n)) ∧ g < wx.heap.size ∧ w1.heap.size < wx.heap.size ∧ Below w.heap.size w wx)
  case first =>
    go_region_held3 (fun w' => w'.cell? ⟨w1.heap.size, 0, none⟩ = some (.bool six) ∧ w'.cell? ⟨w1.heap.size, 1, none⟩ = some (.int .u64 (hiOf six n)) ∧ w'.cell? ⟨w1.heap.size, 2, none⟩ = some (.int .u64 (loOf n))) (first | (go_simp; done) | (simp [*, go_sem, World.cell?_alloc_past]; done) | (simp [*, go_sem, World.cell?_alloc_past, World.cell?_setCell_far]; done))
      (first | ((with_reducible refine (P.out _).mono ?_); rintro e w' ⟨rfl, rfl⟩) | ((with_reducible refine (N.out _).mono ?_); rintro e w2 ⟨rfl, hb2⟩; (repeat (with_reducible (replace hb2 := Below.undrew hb2))); obtain ⟨hc2, hf2⟩ := bcell hb2; have hz2 := hb2.size; (repeat (first | rw [World.size_alloc] at hz2 | rw [World.size_drew] at hz2 | rw [World.size_setCell] at hz2)); (try have : g < w2.heap.size := by omega); (try have : g < w2.heap.size + 1 := by omega); (try have : g < w2.heap.size + 1 + 1 := by omega); (try have : g < w2.heap.size + 1 + 1 + 1 := by omega); (try have : w1.heap.size < w2.heap.size := by omega); (try have : w1.heap.size < w2.heap.size + 1 := by omega); (try have : w1.heap.size < w2.heap.size + 1 + 1 := by omega); (try have : w1.heap.size < w2.heap.size + 1 + 1 + 1 := by omega); (try have : w1.heap.size < w2.heap.size := by omega); (try have : w1.heap.size < w2.heap.size + 1 := by omega); (try have : w1.heap.size < w2.heap.size + 1 + 1 := by omega); (try have : w1.heap.size < w2.heap.size + 1 + 1 + 1 := by omega)))
    all_goals
      go_wp2_with fail
      go_meet
      refine ⟨rfl, _, rfl, ?_, ?_, ?_, ?_, ?_, ?_, ?_, ?_, by (repeat' (first | (with_reducible exact Below.refl _ _) | (with_reducible assumption) | (with_reducible refine Below.al ?_ _) | (with_reducible refine Below.dr ?_) | (with_reducible refine Below.step ?_ (by assumption)) | (with_reducible refine Below.set ?_ ?_ _) | omega | (dsimp only; omega) | (simp; done) | (simp; omega)))⟩
      all_goals first | (go_simp; done) | (simp; omega) | (simp; done)
  case rest =>
    obtain ⟨rfl, g, rfl, g0, g1, g2, a0, a1, a2, hg, ha, hbc⟩ := hcut
    have hzg := hbc.size
    generalize w1.heap.size = ab at *
    go_wp2_with (with_reducible refine (R.out _).mono ?_)
    rintro e w3 ⟨a, cap, xs, rfl, ho, hr, hb3⟩
    (repeat (with_reducible (replace hb3 := Below.undrew hb3))); obtain ⟨hc3, hf3⟩ := bcell hb3; have hz3 := hb3.size; (repeat (first | rw [World.size_alloc] at hz3 | rw [World.size_drew] at hz3 | rw [World.size_setCell] at hz3)); (try have : g < w3.heap.size := by omega); (try have : g < w3.heap.size + 1 := by omega); (try have : g < w3.heap.size + 1 + 1 := by omega); (try have : g < w3.heap.size + 1 + 1 + 1 := by omega); (try have : w1.heap.size < w3.heap.size := by omega); (try have : w1.heap.size < w3.heap.size + 1 := by omega); (try have : w1.heap.size < w3.heap.size + 1 + 1 := by omega); (try have : w1.heap.size < w3.heap.size + 1 + 1 + 1 := by omega); (try have : w1.heap.size < w3.heap.size := by omega); (try have : w1.heap.size < w3.heap.size + 1 := by omega); (try have : w1.heap.size < w3.heap.size + 1 + 1 := by omega); (try have : w1.heap.size < w3.heap.size + 1 + 1 + 1 := by omega)
    have hfew := hr.few (by omega)
    have PL : Hid (∀ w', Below w3.heap.size w3 w' → Calls Try.prog 25 #[.slice a xs.length cap] w' fun e w'' => e = .returned (.bool true) ∧ Below w'.heap.size w' w'') := fun w' hb => plainList_any six n m a cap _ xs (m + 1) w' hr (ho.below hb) (by omega)
    have HO := Lib.hid ho
    have HR := Lib.hid hr
    have hpos : 0 < xs.length := by
      rcases Nat.eq_zero_or_pos xs.length with h | h
      · rw [List.eq_nil_of_length_eq_zero h] at hr
        have : n = m + 1 := hr
        omega
      · exact h
    obtain ⟨L, hL⟩ : ∃ L, L = xs.length := ⟨_, rfl⟩
    rw [← hL] at PL HO hfew hpos ⊢
    have HL := Lib.hid hL
    clear ho hr hL
    have ew : IntKind.i64.wrap (2 * wdI six) = 2 * wdI six := IntWalk.i64_in _ (by omega)
    have q1 : ¬ (2 * wdI six < (L : Int)) := by omega
    have q2 : ((L : Int) == 0) = false := by simp; omega
    have q3 : ¬ L = 0 := by omega
    go_wp2_with (first | ((with_reducible refine (S.out _).mono ?_); rintro e w4 ⟨rfl, hb4⟩; (repeat (with_reducible (replace hb4 := Below.undrew hb4))); obtain ⟨hc4, hf4⟩ := bcell hb4; have hz4 := hb4.size; (repeat (first | rw [World.size_alloc] at hz4 | rw [World.size_drew] at hz4 | rw [World.size_setCell] at hz4)); (try have : g < w4.heap.size := by omega); (try have : g < w4.heap.size + 1 := by omega); (try have : g < w4.heap.size + 1 + 1 := by omega); (try have : g < w4.heap.size + 1 + 1 + 1 := by omega); (try have : w1.heap.size < w4.heap.size := by omega); (try have : w1.heap.size < w4.heap.size + 1 := by omega); (try have : w1.heap.size < w4.heap.size + 1 + 1 := by omega); (try have : w1.heap.size < w4.heap.size + 1 + 1 + 1 := by omega); (try have : w1.heap.size < w4.heap.size := by omega); (try have : w1.heap.size < w4.heap.size + 1 := by omega); (try have : w1.heap.size < w4.heap.size + 1 + 1 := by omega); (try have : w1.heap.size < w4.heap.size + 1 + 1 + 1 := by omega)))
    (with_reducible refine (PL.out _ (by (repeat' (first | (with_reducible exact Below.refl _ _) | (with_reducible assumption) | (with_reducible refine Below.alloc ?_ ?_ _) | (with_reducible refine Below.drew ?_) | (with_reducible refine Below.stepG ?_ (by assumption) ?_) | (with_reducible refine Below.setCell ?_ ?_ _) | omega | (dsimp only; omega) | (simp; done) | (simp; omega))))).mono ?_)
    rintro e w5 ⟨rfl, hb5⟩
    (repeat (with_reducible (replace hb5 := Below.undrew hb5))); obtain ⟨hc5, hf5⟩ := bcell hb5; have hz5 := hb5.size; (repeat (first | rw [World.size_alloc] at hz5 | rw [World.size_drew] at hz5 | rw [World.size_setCell] at hz5)); (try have : g < w5.heap.size := by omega); (try have : g < w5.heap.size + 1 := by omega); (try have : g < w5.heap.size + 1 + 1 := by omega); (try have : g < w5.heap.size + 1 + 1 + 1 := by omega); (try have : w1.heap.size < w5.heap.size := by omega); (try have : w1.heap.size < w5.heap.size + 1 := by omega); (try have : w1.heap.size < w5.heap.size + 1 + 1 := by omega); (try have : w1.heap.size < w5.heap.size + 1 + 1 + 1 := by omega); (try have : w1.heap.size < w5.heap.size := by omega); (try have : w1.heap.size < w5.heap.size + 1 := by omega); (try have : w1.heap.size < w5.heap.size + 1 + 1 := by omega); (try have : w1.heap.size < w5.heap.size + 1 + 1 + 1 := by omega)
    have h35 : Below w3.heap.size w3 w5 := by (repeat' (first | (with_reducible exact Below.refl _ _) | (with_reducible assumption) | (with_reducible refine Below.alloc ?_ ?_ _) | (with_reducible refine Below.drew ?_) | (with_reducible refine Below.stepG ?_ (by assumption) ?_) | (with_reducible refine Below.setCell ?_ ?_ _) | omega | (dsimp only; omega) | (simp; done) | (simp; omega)))
    have h5 : Below wc.heap.size wc w5 := by (repeat' (first | (with_reducible exact Below.refl _ _) | (with_reducible assumption) | (with_reducible refine Below.alloc ?_ ?_ _) | (with_reducible refine Below.drew ?_) | (with_reducible refine Below.stepG ?_ (by assumption) ?_) | (with_reducible refine Below.setCell ?_ ?_ _) | omega | (dsimp only; omega) | (simp; done) | (simp; omega)))
    have hw5 : Below w.heap.size w w5 := by (repeat' (first | (with_reducible exact Below.refl _ _) | (with_reducible assumption) | (with_reducible refine Below.alloc ?_ ?_ _) | (with_reducible refine Below.drew ?_) | (with_reducible refine Below.stepG ?_ (by assumption) ?_) | (with_reducible refine Below.setCell ?_ ?_ _) | omega | (dsimp only; omega) | (simp; done) | (simp; omega)))
    have a0' := (h5.cell (p := ⟨ab, 0, none⟩) ha).trans a0
    have a1' := (h5.cell (p := ⟨ab, 1, none⟩) ha).trans a1
    have a2' := (h5.cell (p := ⟨ab, 2, none⟩) ha).trans a2
    have g0' := (h5.cell (p := ⟨g, 0, none⟩) hg).trans g0
    have g1' := (h5.cell (p := ⟨g, 1, none⟩) hg).trans g1
    have g2' := (h5.cell (p := ⟨g, 2, none⟩) hg).trans g2
    have hg5 : g < w5.heap.size := Nat.lt_of_lt_of_le hg h5.size
    have ha5 : ab < w5.heap.size := Nat.lt_of_lt_of_le ha h5.size
    have HG0 := Lib.hid g0'
    have HG1 := Lib.hid g1'
    have HG2 := Lib.hid g2'
    have HW5 := Lib.hid hw5
    have HO5 := Lib.hid (HO.out.below h35)
    have hz5 := hw5.size
    clear a0 a1 a2 g0 g1 g2 g0' g1' g2' hb1 hc1 hf1 hb3 hc3 hf3 hb4 hc4 hf4 hb5 hc5 hf5 h5 hw5 h35 hbc HO PL P1 P N R S
    go_wp2_with (first | ((with_reducible refine (W.out _).mono ?_); rintro e w' ⟨rfl, rfl⟩))
    clear a0' a1' a2' ew q1 q2 q3
    have HF := Lib.hid (rx_new (w := w5) (adCells six n) 31)
    have HB0 := Lib.hid (Below.al (Below.refl w5.heap.size w5) (.cells (adCells six n).toArray 31))
    
    go_loopw [11] (fun i wr => ∃ k b : Nat, i = .int .i64 (k : Nat) ∧ k < L ∧ Hid (RunP six m b (xs.drop k) (m + 1)) ∧ Hid (RX wr w5.heap.size (adCells six b)) ∧ Hid (Below w5.heap.size w5 wr)) (fun i _ => L + 1 - (intOf i).toNat)
    case atStart => exact ⟨0, n, rfl, hpos, by simpa using HR, HF, HB0⟩
    case round =>
      obtain ⟨k, b, rfl, hk, HRk, HX, HBr⟩ := hrel
      obtain ⟨x, hx⟩ : ∃ x, xs[k]? = some x := ⟨_, List.getElem?_eq_getElem (by have := HL.out; omega)⟩
      obtain ⟨e1, h2, h3⟩ := HRk.out.drop hx
      obtain ⟨bp, rfl, hbp, x0, x1, x2, x3⟩ := own_pfx HO5.out HBr.out hx
      subst e1
      have lx := HX.out.lt
      have c0 := HX.out.cell 0 _ rfl
      have c1 := HX.out.cell 1 _ rfl
      have c2 := HX.out.cell 2 _ rfl
      have z0 := HX.out.fz 0
      have z1 := HX.out.fz 1
      have z2 := HX.out.fz 2
      have g0 := (HBr.out.cell (p := ⟨g, 0, none⟩) hg5).trans HG0.out
      have g1 := (HBr.out.cell (p := ⟨g, 1, none⟩) hg5).trans HG1.out
      have g2 := (HBr.out.cell (p := ⟨g, 2, none⟩) hg5).trans HG2.out
      have hgr : g < wr.heap.size := by omega
      have hbr : bp < wr.heap.size := by omega
      have SP := Lib.hid (fun w => span_ok six x.1 x.2 w h2.1)
      have ew : IntKind.i64.wrap ((L : Int) - 1) = (L : Int) - 1 := IntWalk.i64_in _ (by omega)
      have i1 : (k : Int) < L := by omega
      by_cases hlast : k + 1 = L
      · have hq : ((k : Int) == (L : Int) - 1) = true := by simp; omega
        rw [List.drop_eq_nil_of_le (by have := HL.out; omega)] at h3
        have h4 : x.1 + 2 ^ (wd six - x.2) = m + 1 := h3
        have h5 : lastN (wd six) x.1 x.2 = m := by unfold lastN; have := Nat.one_le_two_pow (n := wd six - x.2); omega
        rw [h5] at SP
        clear h2 h3 h4 h5 hx hlast
        go_wp2_with (first | ((with_reducible refine (SP.out _).mono ?_); rintro e w6 ⟨rfl, hb6⟩; (repeat (with_reducible (replace hb6 := Below.undrew hb6))); obtain ⟨hc6, hf6⟩ := bcell hb6; have hz6 := hb6.size; (repeat (first | rw [World.size_alloc] at hz6 | rw [World.size_drew] at hz6 | rw [World.size_setCell] at hz6)); (try have : w5.heap.size < w6.heap.size := by omega); (try have : w5.heap.size < w6.heap.size + 1 := by omega); (try have : w5.heap.size < w6.heap.size + 1 + 1 := by omega); (try have : w5.heap.size < w6.heap.size + 1 + 1 + 1 := by omega); (try have : g < w6.heap.size := by omega); (try have : g < w6.heap.size + 1 := by omega); (try have : g < w6.heap.size + 1 + 1 := by omega); (try have : g < w6.heap.size + 1 + 1 + 1 := by omega); (try have : bp < w6.heap.size := by omega); (try have : bp < w6.heap.size + 1 := by omega); (try have : bp < w6.heap.size + 1 + 1 := by omega); (try have : bp < w6.heap.size + 1 + 1 + 1 := by omega)))
        go_returns
        exact ⟨rfl, by (have B1 := HW5.out; have B2 := HBr.out.mono hz5; (repeat' (first | (with_reducible exact Below.refl _ _) | (with_reducible assumption) | (with_reducible refine Below.alloc ?_ ?_ _) | (with_reducible refine Below.drew ?_) | (with_reducible refine Below.stepG ?_ (by assumption) ?_) | (with_reducible refine Below.setCell ?_ ?_ _) | omega | (dsimp only; omega) | (simp; done) | (simp; omega))))⟩
      · have hq : ((k : Int) == (L : Int) - 1) = false := by simp; omega
        obtain ⟨y, hy⟩ : ∃ y, xs[k + 1]? = some y := ⟨_, List.getElem?_eq_getElem (by have := HL.out; omega)⟩
        obtain ⟨e2, h4, _⟩ := h3.drop hy
        obtain ⟨b', hb'⟩ : ∃ b', b' = x.1 + 2 ^ (wd six - x.2) := ⟨_, rfl⟩
        rw [← hb'] at h3 h4
        have NX := Lib.hid (fun w => next_ok six (lastN (wd six) x.1 x.2) 1 w (last_fits h2.1) (by decide) (by decide) b' (by unfold lastN; have := Nat.one_le_two_pow (n := wd six - x.2); omega) h4.1.1)
        have H3 := Lib.hid h3
        have HLT : Hid (k + 1 < L) := by (have : k + 1 < L := by omega); exact this
        clear h2 h3 h4 hx hy hlast e2 hb'
        go_wp2_with (first | ((with_reducible refine (SP.out _).mono ?_); rintro e w6 ⟨rfl, hb6⟩; (repeat (with_reducible (replace hb6 := Below.undrew hb6))); obtain ⟨hc6, hf6⟩ := bcell hb6; have hz6 := hb6.size; (repeat (first | rw [World.size_alloc] at hz6 | rw [World.size_drew] at hz6 | rw [World.size_setCell] at hz6)); (try have : w5.heap.size < w6.heap.size := by omega); (try have : w5.heap.size < w6.heap.size + 1 := by omega); (try have : w5.heap.size < w6.heap.size + 1 + 1 := by omega); (try have : w5.heap.size < w6.heap.size + 1 + 1 + 1 := by omega); (try have : g < w6.heap.size := by omega); (try have : g < w6.heap.size + 1 := by omega); (try have : g < w6.heap.size + 1 + 1 := by omega); (try have : g < w6.heap.size + 1 + 1 + 1 := by omega); (try have : bp < w6.heap.size := by omega); (try have : bp < w6.heap.size + 1 := by omega); (try have : bp < w6.heap.size + 1 + 1 := by omega); (try have : bp < w6.heap.size + 1 + 1 + 1 := by omega)) | ((with_reducible refine (NX.out _).mono ?_); rintro e w7 ⟨rfl, hb7⟩; (repeat (with_reducible (replace hb7 := Below.undrew hb7))); obtain ⟨hc7, hf7⟩ := bcell hb7; have hz7 := hb7.size; (repeat (first | rw [World.size_alloc] at hz7 | rw [World.size_drew] at hz7 | rw [World.size_setCell] at hz7)); (try have : w5.heap.size < w7.heap.size := by omega); (try have : w5.heap.size < w7.heap.size + 1 := by omega); (try have : w5.heap.size < w7.heap.size + 1 + 1 := by omega); (try have : w5.heap.size < w7.heap.size + 1 + 1 + 1 := by omega); (try have : g < w7.heap.size := by omega); (try have : g < w7.heap.size + 1 := by omega); (try have : g < w7.heap.size + 1 + 1 := by omega); (try have : g < w7.heap.size + 1 + 1 + 1 := by omega); (try have : bp < w7.heap.size := by omega); (try have : bp < w7.heap.size + 1 := by omega); (try have : bp < w7.heap.size + 1 + 1 := by omega); (try have : bp < w7.heap.size + 1 + 1 + 1 := by omega)))
        go_roundw
        case measure => simp [intOf]; omega
        case rel =>
          have h67 : Below wr.heap.size wr w7 := by (repeat' (first | (with_reducible exact Below.refl _ _) | (with_reducible assumption) | (with_reducible refine Below.alloc ?_ ?_ _) | (with_reducible refine Below.drew ?_) | (with_reducible refine Below.stepG ?_ (by assumption) ?_) | (with_reducible refine Below.setCell ?_ ?_ _) | omega | (dsimp only; omega) | (simp; done) | (simp; omega)))
          obtain ⟨y1, y2⟩ := rx_set (c' := adCells six b') (HX.out.below h67) rfl
          have hzb := HBr.out.size
          have hlt : k + 1 < L := HLT.out
          have hy : Below w5.heap.size w5 _ := ((HBr.out.trans (h67.mono hzb)).trans (y2.below (by have := h67.size; omega) (fun b x hb e => by omega))).alloc (by have := y1.lt; omega) (.cells (adCells six b').toArray 31)
          exact ⟨k + 1, b', by go_num, by omega, H3, Lib.hid (y1.below (Below.al (Below.refl _ _) _)), Lib.hid hy⟩

theorem rangeJust_walk (six : Bool) (hi lo n : Int) (w : World) (h1 : 0 ≤ hi ∧ hi < 18446744073709551616) (h2 : 0 ≤ lo ∧ lo < 18446744073709551616) (_hn : -9223372036854775808 ≤ n ∧ n ≤ 9223372036854775807) :
    Calls Try.prog 6 #[.agg #[.bool six, .int .u64 hi, .int .u64 lo], .int .i64 n] w fun e w' => e = .returned (.bool true) ∧ Below w.heap.size w w' := by
  have hR := rawN_fits six hi lo h1 h2
  have d0 := Int.emod_nonneg n (show (1048576 : Int) ≠ 0 by decide)
  have d1 := Int.emod_lt_of_pos n (show (0 : Int) < 1048576 by decide)
  have P1 := Lib.hid (fun w => addrOf_any six hi lo w h1 h2)
  have P := Lib.hid (fun w => picked_any n 1048576 w (by decide) (by decide))
  generalize rawN six hi lo = a at *
  generalize n % 1048576 = d at *
  by_cases hf : Fits six (a + d).toNat
  · exact rangeJust_good six hi lo n w a (a + d).toNat d hR hf (by omega) (by omega) P1 P (fun w => next_ok six a d w hR (by omega) (by omega) _ (by omega) hf)
  · have hb : (2 : Int) ^ wd six ≤ a + d := by
      unfold Fits at hf
      have e : ((2 ^ wd six : Nat) : Int) = (2 : Int) ^ wd six := by simp
      rw [← e]; omega
    exact rangeJust_bad six hi lo n w a d P1 P (fun w => next_bad six a d w hR (by omega) (by omega) (Or.inr hb))
end Go.Proofs.Yticfcigkldkhmaa
