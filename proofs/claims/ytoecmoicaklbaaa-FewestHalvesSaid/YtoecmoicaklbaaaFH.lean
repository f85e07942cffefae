
/- FewestHalves: the walk. -/
import Derived.Test.YtoecmoicaklbaaaFhP
set_option linter.unusedVariables false
set_option linter.unusedSimpArgs false
namespace Go.Proofs.Ytoecmoicaklbaaa
open Go Go.RowKit Go.Sort Wc Wk


set_option maxHeartbeats 1000000 in
theorem halvesN_none (n k : Nat) (w : World) (hp : VP false n k) (hk : k = wd false) :
    Calls Try.prog 35 #[Value.agg #[.bool false, .int .u64 (hiOf false n), .int .u64 (loOf n), .int .i64 k]] w fun e w' => e = .returned (.tuple #[.agg #[.bool false, .int .u64 0, .int .u64 0, .int .i64 0], .agg #[.bool false, .int .u64 0, .int .u64 0, .int .i64 0], .int .i64 7]) ∧ Below w.heap.size w w' := by
  have C := Lib.hid (fun w => check_ok false n k w hp)
  have W := Lib.hid (fun w => wide_any false w)
  have r2 := (pwide_range false).2.2
  rw [r2, ← hk] at W
  clear hp hk r2
  go_enter Try.func35, Try.ntmps35
  go_wp2_with (first | ((with_reducible refine (C.out _).mono ?_); rintro e w1 ⟨rfl, hb1⟩; (repeat (with_reducible (replace hb1 := Below.undrew hb1))); obtain ⟨hc1, hf1⟩ := bcell hb1; have hz1 := hb1.size; (repeat (first | rw [World.size_alloc] at hz1 | rw [World.size_drew] at hz1 | rw [World.size_setCell] at hz1)); (try have : w.heap.size < w1.heap.size := by omega); (try have : w.heap.size < w1.heap.size + 1 := by omega); (try have : w.heap.size < w1.heap.size + 1 + 1 := by omega); (try have : w.heap.size < w1.heap.size + 1 + 1 + 1 := by omega); (try have : w.heap.size + 1 < w1.heap.size := by omega); (try have : w.heap.size + 1 < w1.heap.size + 1 := by omega); (try have : w.heap.size + 1 < w1.heap.size + 1 + 1 := by omega); (try have : w.heap.size + 1 < w1.heap.size + 1 + 1 + 1 := by omega); (try have : w.heap.size + 2 < w1.heap.size := by omega); (try have : w.heap.size + 2 < w1.heap.size + 1 := by omega); (try have : w.heap.size + 2 < w1.heap.size + 1 + 1 := by omega); (try have : w.heap.size + 2 < w1.heap.size + 1 + 1 + 1 := by omega)))
  refine wp_region_qb (by kernel_rfl) (by kernel_rfl) (fun kq => ?_)
  repeat (quiet_step (first | (with_reducible exact Calls.regrown_same (W.out _))))
  clear kq
  refine wpQuiet_nil ?_; intro w2 hb2; (repeat (with_reducible (replace hb2 := Below.undrew hb2))); obtain ⟨hc2, hf2⟩ := bcell hb2; have hz2 := hb2.size; (repeat (first | rw [World.size_alloc] at hz2 | rw [World.size_drew] at hz2 | rw [World.size_setCell] at hz2)); (try have : w.heap.size < w2.heap.size := by omega); (try have : w.heap.size < w2.heap.size + 1 := by omega); (try have : w.heap.size < w2.heap.size + 1 + 1 := by omega); (try have : w.heap.size < w2.heap.size + 1 + 1 + 1 := by omega); (try have : w.heap.size + 1 < w2.heap.size := by omega); (try have : w.heap.size + 1 < w2.heap.size + 1 := by omega); (try have : w.heap.size + 1 < w2.heap.size + 1 + 1 := by omega); (try have : w.heap.size + 1 < w2.heap.size + 1 + 1 + 1 := by omega); (try have : w.heap.size + 2 < w2.heap.size := by omega); (try have : w.heap.size + 2 < w2.heap.size + 1 := by omega); (try have : w.heap.size + 2 < w2.heap.size + 1 + 1 := by omega); (try have : w.heap.size + 2 < w2.heap.size + 1 + 1 + 1 := by omega); (try have : w1.heap.size < w2.heap.size := by omega); (try have : w1.heap.size < w2.heap.size + 1 := by omega); (try have : w1.heap.size < w2.heap.size + 1 + 1 := by omega); (try have : w1.heap.size < w2.heap.size + 1 + 1 + 1 := by omega); (try have : w1.heap.size + 1 < w2.heap.size := by omega); (try have : w1.heap.size + 1 < w2.heap.size + 1 := by omega); (try have : w1.heap.size + 1 < w2.heap.size + 1 + 1 := by omega); (try have : w1.heap.size + 1 < w2.heap.size + 1 + 1 + 1 := by omega)
  go_wp2_with fail
  go_region
  all_goals go_wp2
  all_goals refine bodyPost_ret (v := .tuple #[.agg #[.bool false, .int .u64 0, .int .u64 0, .int .i64 0], .agg #[.bool false, .int .u64 0, .int .u64 0, .int .i64 0], .int .i64 7]) (by simp [results, Try.results35, go_sem, *]) rfl ⟨rfl, by (repeat' (first | (with_reducible exact Below.refl _ _) | (with_reducible assumption) | (with_reducible refine Below.al ?_ _) | (with_reducible refine Below.dr ?_) | (with_reducible refine Below.step ?_ (by assumption)) | (with_reducible refine Below.set ?_ ?_ _) | omega | (dsimp only; omega) | (simp; done) | (simp; omega)))⟩

theorem few3_any (N K o h : Nat) (hv : VP false N K) (hk : K < 32) (hk0 : 0 < K) (ho : o < 9) (hh : h < 9) (W2 : World) (b : Nat) (hb : b = W2.heap.size) :
    Calls Try.prog 22 #[.slice (some ⟨b, 0, none⟩) 3 3] (W2.alloc (.cells #[.bool false, .int .u64 0, .int .u64 0, .int .i64 0, .int .i64 (1 + (o : Int)), .bool false, .int .u64 (hiOf false N), .int .u64 (loOf N), .int .i64 ((K : Int) + 1), .int .i64 (1 + (h : Int)), .bool false, .int .u64 (hiOf false (halfN 32 N K 1)), .int .u64 (loOf (halfN 32 N K 1)), .int .i64 ((K : Int) + 1), .int .i64 (1 + (h : Int))] 49)) fun e w' => ∃ (a' : Option Addr) (c' L : Nat), e = .returned (.tuple #[.slice a' L c', .int .i64 0]) ∧ L = (if h = o then 1 else 2) ∧ Below W2.heap.size W2 w' := by
  have hsl : Sl (W2.alloc (.cells #[.bool false, .int .u64 0, .int .u64 0, .int .i64 0, .int .i64 (1 + (o : Int)), .bool false, .int .u64 (hiOf false N), .int .u64 (loOf N), .int .i64 ((K : Int) + 1), .int .i64 (1 + (h : Int)), .bool false, .int .u64 (hiOf false (halfN 32 N K 1)), .int .u64 (loOf (halfN 32 N K 1)), .int .i64 ((K : Int) + 1), .int .i64 (1 + (h : Int))] 49)) 5 (.slice (some ⟨b, 0, none⟩) 3 3) ((threeR N K (1 + o) (1 + h)).map routeCells) :=
    sl_many (n := 3) (xs := (threeR N K (1 + o) (1 + h)).map routeCells) hb (by intro c hc; obtain ⟨r, _, rfl⟩ := List.mem_map.1 hc; rfl) rfl rfl (by decide)
  have hW : Below W2.heap.size W2 (W2.alloc (.cells #[.bool false, .int .u64 0, .int .u64 0, .int .i64 0, .int .i64 (1 + (o : Int)), .bool false, .int .u64 (hiOf false N), .int .u64 (loOf N), .int .i64 ((K : Int) + 1), .int .i64 (1 + (h : Int)), .bool false, .int .u64 (hiOf false (halfN 32 N K 1)), .int .u64 (loOf (halfN 32 N K 1)), .int .i64 ((K : Int) + 1), .int .i64 (1 + (h : Int))] 49)) := (Below.refl _ _).alloc (Nat.le_refl _) _
  have hF := fewest_any (some ⟨b, 0, none⟩) 3 (threeR N K (1 + o) (1 + h)) _ hsl (three_ok hv hk (by omega) (by omega)) ⟨(0, 0, 1 + o), by simp [threeR], rfl⟩ (fun x hx => by cases hx; simp; omega)
  refine hF.mono ?_
  rintro e w' ⟨a', c', ys, rfl, hsr, _, hb'⟩
  refine ⟨a', c', _, rfl, ?_, hW.trans (hb'.mono hW.size)⟩
  rw [few_three hv hk hk0 (by omega) (by omega) hsr]
  by_cases c : h = o
  · subst c; simp
  · rw [if_neg c, if_neg (by omega)]

set_option maxRecDepth 100000 in
set_option maxHeartbeats 4000000 in
theorem fewestHalves_walk (pz hz oz : Int) (w : World) (hp : -9223372036854775808 ≤ pz ∧ pz ≤ 9223372036854775807) (hh : -9223372036854775808 ≤ hz ∧ hz ≤ 9223372036854775807) (ho : -9223372036854775808 ≤ oz ∧ oz ≤ 9223372036854775807) :
    Calls Try.prog 8 #[.int .i64 pz, .int .i64 hz, .int .i64 oz] w fun e w' => e = .returned (.bool true) ∧ Below w.heap.size w w' := by
  have P1 := Lib.hid (fun w => picked_any hz 9 w (by decide) (by decide))
  have P2 := Lib.hid (fun w => picked_any oz 9 w (by decide) (by decide))
  have q1 := Int.emod_nonneg hz (show (9 : Int) ≠ 0 by decide)
  have l1 := Int.emod_lt_of_pos hz (show (0 : Int) < 9 by decide)
  have q2 := Int.emod_nonneg oz (show (9 : Int) ≠ 0 by decide)
  have l2 := Int.emod_lt_of_pos oz (show (0 : Int) < 9 by decide)
  obtain ⟨h, e1⟩ := Int.eq_ofNat_of_zero_le q1
  obtain ⟨o, e2⟩ := Int.eq_ofNat_of_zero_le q2
  rw [e1] at P1 l1
  rw [e2] at P2 l2
  have PR := Lib.hid (fun b w hc => pres_one b pz w hc hp)
  have HVP := Lib.hid (pres_vp pz)
  have hk24 : 24 ≤ presK pz := by unfold presK; omega
  have hk32 := presK_le pz
  have ew1 : IntKind.i64.wrap (1 + (h : Int)) = 1 + (h : Int) := IntWalk.i64_in _ (by omega)
  have ew2 : IntKind.i64.wrap (1 + (o : Int)) = 1 + (o : Int) := IntWalk.i64_in _ (by omega)
  clear e1 e2 q1 q2 hh ho hp
  generalize presN pz = N at *
  generalize presK pz = K at *
  go_enter Try.func8, Try.ntmps8
  go_wp2_with fail
  refine (PR.out w.heap.size _ (by simp)).mono ?_
  rintro e w1 ⟨g, gc, rfl, g1, g2, g3, g4, g5, g6, hb1⟩
  have HB1 := Lib.hid (((Below.refl w.heap.size w).alloc (Nat.le_refl _) (.cells #[.int .i64 pz] 3)).trans (hb1.mono (by simp)))
  clear hb1 g1 PR
  go_wp2_with fail
  obtain ⟨Y, hY⟩ : ∃ Y, Y = w1.alloc (.cells (preCells false N K).toArray 30) := ⟨_, rfl⟩
  have hY' := hY
  simp only [preCells] at hY'
  rw [← hY']
  obtain ⟨A, hA⟩ : ∃ A, A = w1.heap.size := ⟨_, rfl⟩
  have RA : Hid (RX Y A (preCells false N K)) := by rw [hY, hA]; exact rx_new _ _
  have HBY : Hid (Below w.heap.size w Y) := by rw [hY]; exact HB1.out.alloc HB1.out.size _
  rw [← hA]
  clear hY hY' hA g2 g3 g4 g5 g6 HB1
  have a0 := RA.out.cell 0 _ rfl
  have a1 := RA.out.cell 1 _ rfl
  have a2 := RA.out.cell 2 _ rfl
  have a3 := RA.out.cell 3 _ rfl
  by_cases hK : K = 32
  · have HV := Lib.hid (fun w => halvesN_none N K w HVP.out hK)
    have PS := Lib.hid preSure_any
    clear hK
    go_wp2_with (first | ((with_reducible refine (P1.out _).mono ?_); rintro e w' ⟨rfl, rfl⟩) | ((with_reducible refine (P2.out _).mono ?_); rintro e w' ⟨rfl, rfl⟩) | fail)
    refine (HV.out _).mono ?_
    rintro e w2 ⟨rfl, hb2⟩
    have HB2 := Lib.hid (HBY.out.trans (hb2.mono HBY.out.size))
    clear hb2 a0 a1 a2 a3
    go_wp2_with fail
    refine (PS.out _).mono ?_
    rintro e w3 ⟨rfl, hb3⟩
    have hz2 := HB2.out.size
    have HB3 : Hid (Below w.heap.size w w3) := HB2.out.trans (by (repeat' (first | (with_reducible exact Below.refl _ _) | (with_reducible assumption) | (with_reducible refine Below.alloc ?_ ?_ _) | (with_reducible refine Below.drew ?_) | (with_reducible refine Below.stepG ?_ (by assumption) ?_) | (with_reducible refine Below.setCell ?_ ?_ _) | omega | (dsimp only; omega) | (simp; done) | (simp; omega))))
    clear hb3
    go_wp2_with fail
    go_returns
    exact ⟨by simp, HB3.out⟩
  · have hK2 : K < 32 := by omega
    have HV : Hid (∀ w, Calls Try.prog 35 #[Value.agg #[.bool false, .int .u64 (hiOf false N), .int .u64 (loOf N), .int .i64 K]] w fun e w' => e = .returned (.tuple #[Value.agg #[.bool false, .int .u64 (hiOf false N), .int .u64 (loOf N), .int .i64 ((K : Int) + 1)], Value.agg #[.bool false, .int .u64 (hiOf false (halfN 32 N K 1)), .int .u64 (loOf (halfN 32 N K 1)), .int .i64 ((K : Int) + 1)], .int .i64 0]) ∧ Below w.heap.size w w') := fun w => halves_ok false N K w HVP.out hK2
    go_wp2_with (first | ((with_reducible refine (P1.out _).mono ?_); rintro e w' ⟨rfl, rfl⟩) | ((with_reducible refine (P2.out _).mono ?_); rintro e w' ⟨rfl, rfl⟩) | fail)
    refine (HV.out _).mono ?_
    rintro e w2 ⟨rfl, hb2⟩
    have HB2 := Lib.hid (HBY.out.trans (hb2.mono HBY.out.size))
    clear hb2 a0 a1 a2 a3 RA HBY hK
    go_wp2_with fail
    have FW := Lib.hid (few3_any N K o h HVP.out hK2 (by omega) (by omega) (by omega))
    have hz2 := HB2.out.size
    refine (FW.out _ _ (by simp)).mono ?_
    rintro e w3 ⟨fa, fc, L, rfl, hL, hb3⟩
    have HB3 : Hid (Below w.heap.size w w3) := HB2.out.trans ((show Below w.heap.size w2 _ from by (repeat' (first | (with_reducible exact Below.refl _ _) | (with_reducible assumption) | (with_reducible refine Below.alloc ?_ ?_ _) | (with_reducible refine Below.drew ?_) | (with_reducible refine Below.stepG ?_ (by assumption) ?_) | (with_reducible refine Below.setCell ?_ ?_ _) | omega | (dsimp only; omega) | (simp; done) | (simp; omega)))).trans (hb3.mono (by simp; omega)))
    clear hb3 FW HV
    by_cases c : h = o
    · subst c
      rw [if_pos rfl] at hL
      subst hL
      go_wp2_with fail
      go_returns
      exact ⟨by simp, HB3.out⟩
    · rw [if_neg c] at hL
      subst hL
      have c1 : ((1 + (h : Int)) == 1 + (o : Int)) = false := by rw [beq_eq_false_iff_ne]; omega
      have c2 : ¬ ((1 + (h : Int)) = 1 + (o : Int)) := by omega
      clear c
      go_wp2_with fail
      go_returns
      exact ⟨by simp, HB3.out⟩
end Go.Proofs.Ytoecmoicaklbaaa
