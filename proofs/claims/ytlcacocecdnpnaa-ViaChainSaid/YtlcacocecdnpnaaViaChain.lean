
/- ViaChain: the walk. -/
import Derived.Test.YtlcacocecdnpnaaViaPlain
import Derived.Test.YtlcacocecdnpnaaVias
import Derived.Test.YtlcacocecdnpnaaViaPlain2
set_option linter.unusedVariables false
namespace Go.Proofs.Ytlcacocecdnpnaa
open Go.RowKit Go.Sort Wc Wk


set_option maxRecDepth 100000 in
set_option maxHeartbeats 4000000 in
theorem viaChain_walk (n port back : Int) (w : World) (hn : -9223372036854775808 ≤ n ∧ n ≤ 9223372036854775807) (hp : -9223372036854775808 ≤ port ∧ port ≤ 9223372036854775807) (hb : -9223372036854775808 ≤ back ∧ back ≤ 9223372036854775807) :
    Calls Try.prog 5 #[.int .i64 n, .int .i64 port, .int .i64 back] w fun e w' => e = .returned (.bool true) ∧ Below w.heap.size w w' := by
  have Q1 := Lib.hid (fun w => picked_any n 20 w (by decide) (by decide))
  have q0 := Int.emod_nonneg n (show (20 : Int) ≠ 0 by decide)
  have q1 := Int.emod_lt_of_pos n (show (0 : Int) < 20 by decide)
  obtain ⟨kk, hk⟩ := Int.eq_ofNat_of_zero_le q0
  rw [hk] at Q1 q1
  have Q2 := Lib.hid (fun w => picked_any port 30 w (by decide) (by decide))
  have r0 := Int.emod_nonneg port (show (30 : Int) ≠ 0 by decide)
  have r1 := Int.emod_lt_of_pos port (show (0 : Int) < 30 by decide)
  obtain ⟨P, hP⟩ := Int.eq_ofNat_of_zero_le r0
  rw [hP] at Q2 r1
  have Q3 := Lib.hid (fun w => picked_any back (1 + (kk : Int)) w (by omega) (by omega))
  have s0 := Int.emod_nonneg back (show (1 + (kk : Int)) ≠ 0 by omega)
  have s1 := Int.emod_lt_of_pos back (show (0 : Int) < 1 + (kk : Int) by omega)
  obtain ⟨B, hB⟩ := Int.eq_ofNat_of_zero_le s0
  rw [hB] at Q3 s1
  clear hk hP hB q0 r0 s0
  go_enter Try.func5, Try.ntmps5
  go_wp2_with (first | ((with_reducible refine (Q1.out _).mono ?_); rintro e w' ⟨rfl, rfl⟩))
  go_loopw [8, 9] (fun v i wr => ∃ j : Nat, j ≤ kk + 1 ∧ i = .int .i64 (1 + (j : Int)) ∧ Hid (Own wr w.heap.size 29 3 v ((chainL j).map viaCells)) ∧ Below w.heap.size w wr) (fun _ i _ => (kk + 3 - (intOf i).toNat))
  case atStart => exact ⟨0, Nat.zero_le _, rfl, Own.nil _ _ _ _, Below.refl _ _⟩
  case round =>
    obtain ⟨j, hj, rfl, HO, hbr⟩ := hrel
    have hzr := hbr.size
    by_cases hlt : j < kk + 1
    · go_wp2_with (at_builtin; refine stop_at ?_; intro G hG)
      rw [← hG.out]; clear hG G
      refine wpList_append_any rfl _ _ 23 29 3 24 _ rfl eiVia w.heap.size _ ((chainL j).map viaCells) rfl (by ((repeat (first | (with_reducible refine Own.alloc ?_ _) | (with_reducible refine Own.dr ?_))); exact HO.out)) _ (([(⟨1 + j, 0, 1 + j + 1⟩ : ViaD)]).map viaCells) rfl (sl_via1 ⟨1 + j, 0, 1 + j + 1⟩ (by first | rfl | simp)) (by intro c hc; obtain ⟨r, _, rfl⟩ := List.mem_map.1 hc; exact viaCells_one r) (by have := chainL_len j; first | omega | (simp; omega)) (by decide) (by first | omega | (simp; done) | (simp; omega)) ?_
      intro v4 w4 hown4 hb4
      rw [← List.map_append] at hown4
      obtain ⟨xs4, hxs4⟩ : ∃ x : List ViaD, x = (chainL j) ++ ([(⟨1 + j, 0, 1 + j + 1⟩ : ViaD)]) := ⟨_, rfl⟩
      rw [← hxs4] at hown4
      have hl4 : xs4.length = (chainL j).length + ([(⟨1 + j, 0, 1 + j + 1⟩ : ViaD)]).length := by rw [hxs4, List.length_append]
      have HX4 := Lib.hid hxs4
      clear hxs4
      have HL4 := Lib.hid hl4
      clear hl4
      obtain ⟨a4, cap4, rfl⟩ := hown4.shape
      rw [List.length_map] at hown4 ⊢
      have HO4 := Lib.hid hown4
      clear hown4
      obtain ⟨hc4, hf4⟩ := bcellB hb4; have hz4 := hb4.size; (repeat (first | rw [World.size_alloc] at hz4 | rw [World.size_drew] at hz4 | rw [World.size_setCell] at hz4)); (try have : w.heap.size < w4.heap.size := by omega); (try have : w.heap.size < w4.heap.size + 1 := by omega); (try have : w.heap.size < w4.heap.size + 1 + 1 := by omega); (try have : w.heap.size < w4.heap.size + 1 + 1 + 1 := by omega); (try have : wr.heap.size < w4.heap.size := by omega); (try have : wr.heap.size < w4.heap.size + 1 := by omega); (try have : wr.heap.size < w4.heap.size + 1 + 1 := by omega); (try have : wr.heap.size < w4.heap.size + 1 + 1 + 1 := by omega); (try have : wr.heap.size + 1 < w4.heap.size := by omega); (try have : wr.heap.size + 1 < w4.heap.size + 1 := by omega); (try have : wr.heap.size + 1 < w4.heap.size + 1 + 1 := by omega); (try have : wr.heap.size + 1 < w4.heap.size + 1 + 1 + 1 := by omega); (try have : w2.heap.size < w4.heap.size := by omega); (try have : w2.heap.size < w4.heap.size + 1 := by omega); (try have : w2.heap.size < w4.heap.size + 1 + 1 := by omega); (try have : w2.heap.size < w4.heap.size + 1 + 1 + 1 := by omega); (try have : w3.heap.size < w4.heap.size := by omega); (try have : w3.heap.size < w4.heap.size + 1 := by omega); (try have : w3.heap.size < w4.heap.size + 1 + 1 := by omega); (try have : w3.heap.size < w4.heap.size + 1 + 1 + 1 := by omega)
      obtain rfl : xs4 = chainL (j + 1) := by rw [HX4.out, chainL_succ, Nat.add_comm 1 j]
      go_wp2
      go_roundw
      case rel => exact ⟨j + 1, by omega, by go_num, HO4, by (repeat' (first | (with_reducible exact Below.refl _ _) | (with_reducible assumption) | (with_reducible refine Below.alloc ?_ ?_ _) | (with_reducible refine Below.drew ?_) | (with_reducible refine Below.stepG ?_ (by assumption) ?_) | (with_reducible refine Below.setCell ?_ ?_ _) | omega | (dsimp only; omega) | (simp; done) | (simp; omega)))⟩
      case measure => simp [intOf]; omega
    · obtain rfl : j = kk + 1 := by omega
      have HM := HO.out
      obtain ⟨g, cap, rfl, hg1, hg2, hcap, hcap2, hfz, hcs⟩ := HM.at (by simp [chainL_len])
      have hcl := hcs kk (viaCells ⟨kk + 1, 0, kk + 2⟩) (by rw [List.getElem?_map, chainL_last]; rfl)
      have c0 := hcl 0 _ rfl
      have c1 := hcl 1 _ rfl
      have c2 := hcl 2 _ rfl
      rw [Nat.add_zero] at c0
      rw [List.length_map, chainL_len] at hcap HM ⊢
      clear hcl hcs HO
      have HM2 := Lib.hid (show Own wr w.heap.size 29 3 (.slice (some ⟨g, 0, none⟩) (kk + 1) cap) ((chainL kk ++ [(⟨kk + 1, 0, kk + 2⟩ : ViaD)]).map viaCells) by rw [← chainL_succ]; exact HM)
      clear HM
      have V1 := Lib.hid (show (⟨kk + 1, 1 + P, 0⟩ : ViaD).ok by unfold ViaD.ok; dsimp only; omega)
      have V2 := Lib.hid (show (⟨kk + 1, 0, 1 + B⟩ : ViaD).ok by unfold ViaD.ok; dsimp only; omega)
      have A1 := Lib.hid (fun w hs => portOf_any (some ⟨g, 0, none⟩) cap 1 (endL kk ⟨kk + 1, 1 + P, 0⟩) w hs (by rw [endL_len]; omega) (endL_ok (by omega) V1.out) (endL_apart rfl) (by decide))
      have A2 := Lib.hid (fun w hs => portOf_any (some ⟨g, 0, none⟩) cap 1 (endL kk ⟨kk + 1, 0, 1 + B⟩) w hs (by rw [endL_len]; omega) (endL_ok (by omega) V2.out) (endL_apart rfl) (by decide))
      rw [endL_len] at A1 A2
      by_cases hkk : kk ≤ 8
      · rw [chain_port rfl hkk (by show 0 < 1 + P; omega)] at A1
        rw [chain_loop rfl hkk rfl (by show 1 ≤ 1 + B; omega) (by show 1 + B ≤ kk + 1; omega)] at A2
        unfold port3 at A1 A2
        dsimp only at A1 A2
        rw [show ((1 + P : Nat) : Int) = 1 + (P : Int) from by omega] at A1
        go_wp2_with (first | ((with_reducible refine (Q2.out _).mono ?_); rintro e w' ⟨rfl, rfl⟩))
        have S1 := Lib.hid (chain_store (v := ⟨kk + 1, 1 + P, 0⟩) (a := 1 + (kk : Int)) (b := 1 + (P : Int)) (c := 0) HM2.out (chainL_len kk) (by show _ = ((kk + 1 : Nat) : Int); omega) (by show _ = ((1 + P : Nat) : Int); omega) rfl)
        have hbW : Below w.heap.size w (((wr.setCell ⟨g, kk * 3, none⟩ (.int .i64 (1 + (kk : Int)))).setCell ⟨g, kk * 3 + 1, none⟩ (.int .i64 (1 + (P : Int)))).setCell ⟨g, kk * 3 + 2, none⟩ (.int .i64 0)) := by (repeat' (first | (with_reducible exact Below.refl _ _) | (with_reducible assumption) | (with_reducible refine Below.alloc ?_ ?_ _) | (with_reducible refine Below.drew ?_) | (with_reducible refine Below.stepG ?_ (by assumption) ?_) | (with_reducible refine Below.setCell ?_ ?_ _) | omega | (dsimp only; omega) | (simp; done) | (simp; omega)))
        generalize ((wr.setCell ⟨g, kk * 3, none⟩ (.int .i64 (1 + (kk : Int)))).setCell ⟨g, kk * 3 + 1, none⟩ (.int .i64 (1 + (P : Int)))).setCell ⟨g, kk * 3 + 2, none⟩ (.int .i64 0) = W at *
        clear c0 c1 c2 hfz HM2 hbr
        have hszW := hbW.size
        refine (A1.out _ S1.out.sl).mono ?_; rintro e w2 ⟨rfl, hb2⟩; (repeat (with_reducible (replace hb2 := Below.undrew hb2))); obtain ⟨hc2, hf2⟩ := bcell hb2; have hz2 := hb2.size; (repeat (first | rw [World.size_alloc] at hz2 | rw [World.size_drew] at hz2 | rw [World.size_setCell] at hz2)); (try have : w.heap.size < w2.heap.size := by omega); (try have : w.heap.size < w2.heap.size + 1 := by omega); (try have : w.heap.size < w2.heap.size + 1 + 1 := by omega); (try have : w.heap.size < w2.heap.size + 1 + 1 + 1 := by omega); (try have : wr.heap.size < w2.heap.size := by omega); (try have : wr.heap.size < w2.heap.size + 1 := by omega); (try have : wr.heap.size < w2.heap.size + 1 + 1 := by omega); (try have : wr.heap.size < w2.heap.size + 1 + 1 + 1 := by omega); (try have : wr.heap.size + 1 < w2.heap.size := by omega); (try have : wr.heap.size + 1 < w2.heap.size + 1 := by omega); (try have : wr.heap.size + 1 < w2.heap.size + 1 + 1 := by omega); (try have : wr.heap.size + 1 < w2.heap.size + 1 + 1 + 1 := by omega)
        go_wp2_with fail
        ((with_reducible refine (Q3.out _).mono ?_); rintro e w' ⟨rfl, rfl⟩)
        have T1 := S1.out.below hb2
        obtain ⟨g', cap', hv', hg1', hg2', hcap', hcap2', hfz, hcs⟩ := T1.at (by simp [chainL_len])
        simp only [Value.slice.injEq, Option.some.injEq, Addr.mk.injEq] at hv'
        obtain ⟨⟨rfl, _, _⟩, hx, rfl⟩ := hv'
        clear hx
        have hcl := hcs kk (viaCells ⟨kk + 1, 1 + P, 0⟩) (by rw [List.getElem?_map]; rw [show chainL kk ++ [(⟨kk + 1, 1 + P, 0⟩ : ViaD)] = endL kk ⟨kk + 1, 1 + P, 0⟩ from rfl, endL_last]; rfl)
        have c0 := hcl 0 _ rfl
        have c1 := hcl 1 _ rfl
        have c2 := hcl 2 _ rfl
        rw [Nat.add_zero] at c0
        have HT := Lib.hid T1
        clear hcl hcs T1 S1
        dsimp only at c0 c1 c2
        clear hg1' hg2' hcap' hcap2'
        go_wp2_with fail
        have S2 := Lib.hid (chain_store (v := ⟨kk + 1, 0, 1 + B⟩) (a := 1 + (kk : Int)) (b := 0) (c := 1 + (B : Int)) HT.out (chainL_len kk) (by show _ = ((kk + 1 : Nat) : Int); omega) rfl (by show _ = ((1 + B : Nat) : Int); omega))
        have hbX : Below w.heap.size w (((w2.setCell ⟨g, kk * 3, none⟩ (.int .i64 (1 + (kk : Int)))).setCell ⟨g, kk * 3 + 1, none⟩ (.int .i64 0)).setCell ⟨g, kk * 3 + 2, none⟩ (.int .i64 (1 + (B : Int)))) := by (repeat' (first | (with_reducible exact Below.refl _ _) | (with_reducible assumption) | (with_reducible refine Below.alloc ?_ ?_ _) | (with_reducible refine Below.drew ?_) | (with_reducible refine Below.stepG ?_ (by assumption) ?_) | (with_reducible refine Below.setCell ?_ ?_ _) | omega | (dsimp only; omega) | (simp; done) | (simp; omega)))
        generalize ((w2.setCell ⟨g, kk * 3, none⟩ (.int .i64 (1 + (kk : Int)))).setCell ⟨g, kk * 3 + 1, none⟩ (.int .i64 0)).setCell ⟨g, kk * 3 + 2, none⟩ (.int .i64 (1 + (B : Int))) = X at *
        clear c0 c1 c2 hfz HT hb2 hbW hc2 hf2
        have hszX := hbX.size
        refine (A2.out _ S2.out.sl).mono ?_; rintro e w3 ⟨rfl, hb3⟩; (repeat (with_reducible (replace hb3 := Below.undrew hb3))); obtain ⟨hc3, hf3⟩ := bcell hb3; have hz3 := hb3.size; (repeat (first | rw [World.size_alloc] at hz3 | rw [World.size_drew] at hz3 | rw [World.size_setCell] at hz3)); (try have : w.heap.size < w3.heap.size := by omega); (try have : w.heap.size < w3.heap.size + 1 := by omega); (try have : w.heap.size < w3.heap.size + 1 + 1 := by omega); (try have : w.heap.size < w3.heap.size + 1 + 1 + 1 := by omega); (try have : wr.heap.size < w3.heap.size := by omega); (try have : wr.heap.size < w3.heap.size + 1 := by omega); (try have : wr.heap.size < w3.heap.size + 1 + 1 := by omega); (try have : wr.heap.size < w3.heap.size + 1 + 1 + 1 := by omega); (try have : wr.heap.size + 1 < w3.heap.size := by omega); (try have : wr.heap.size + 1 < w3.heap.size + 1 := by omega); (try have : wr.heap.size + 1 < w3.heap.size + 1 + 1 := by omega); (try have : wr.heap.size + 1 < w3.heap.size + 1 + 1 + 1 := by omega); (try have : w2.heap.size < w3.heap.size := by omega); (try have : w2.heap.size < w3.heap.size + 1 := by omega); (try have : w2.heap.size < w3.heap.size + 1 + 1 := by omega); (try have : w2.heap.size < w3.heap.size + 1 + 1 + 1 := by omega)
        clear S2
        have hk9 : decide ((9 : Int) < 1 + (kk : Int)) = false := by (first | omega | (simp; done) | (simp; omega))
        have hk8 : ((kk : Int) == 1 + (kk : Int) - 1) = true := by rw [beq_iff_eq]; omega
        go_wp2
        all_goals go_returns
        all_goals exact ⟨rfl, by (repeat' (first | (with_reducible exact Below.refl _ _) | (with_reducible assumption) | (with_reducible refine Below.alloc ?_ ?_ _) | (with_reducible refine Below.drew ?_) | (with_reducible refine Below.stepG ?_ (by assumption) ?_) | (with_reducible refine Below.setCell ?_ ?_ _) | omega | (dsimp only; omega) | (simp; done) | (simp; omega)))⟩
      · rw [chain_long rfl (by omega)] at A1 A2
        unfold port3 at A1 A2
        dsimp only at A1 A2
        go_wp2_with (first | ((with_reducible refine (Q2.out _).mono ?_); rintro e w' ⟨rfl, rfl⟩))
        have S1 := Lib.hid (chain_store (v := ⟨kk + 1, 1 + P, 0⟩) (a := 1 + (kk : Int)) (b := 1 + (P : Int)) (c := 0) HM2.out (chainL_len kk) (by show _ = ((kk + 1 : Nat) : Int); omega) (by show _ = ((1 + P : Nat) : Int); omega) rfl)
        have hbW : Below w.heap.size w (((wr.setCell ⟨g, kk * 3, none⟩ (.int .i64 (1 + (kk : Int)))).setCell ⟨g, kk * 3 + 1, none⟩ (.int .i64 (1 + (P : Int)))).setCell ⟨g, kk * 3 + 2, none⟩ (.int .i64 0)) := by (repeat' (first | (with_reducible exact Below.refl _ _) | (with_reducible assumption) | (with_reducible refine Below.alloc ?_ ?_ _) | (with_reducible refine Below.drew ?_) | (with_reducible refine Below.stepG ?_ (by assumption) ?_) | (with_reducible refine Below.setCell ?_ ?_ _) | omega | (dsimp only; omega) | (simp; done) | (simp; omega)))
        generalize ((wr.setCell ⟨g, kk * 3, none⟩ (.int .i64 (1 + (kk : Int)))).setCell ⟨g, kk * 3 + 1, none⟩ (.int .i64 (1 + (P : Int)))).setCell ⟨g, kk * 3 + 2, none⟩ (.int .i64 0) = W at *
        clear c0 c1 c2 hfz HM2 hbr
        have hszW := hbW.size
        refine (A1.out _ S1.out.sl).mono ?_; rintro e w2 ⟨rfl, hb2⟩; (repeat (with_reducible (replace hb2 := Below.undrew hb2))); obtain ⟨hc2, hf2⟩ := bcell hb2; have hz2 := hb2.size; (repeat (first | rw [World.size_alloc] at hz2 | rw [World.size_drew] at hz2 | rw [World.size_setCell] at hz2)); (try have : w.heap.size < w2.heap.size := by omega); (try have : w.heap.size < w2.heap.size + 1 := by omega); (try have : w.heap.size < w2.heap.size + 1 + 1 := by omega); (try have : w.heap.size < w2.heap.size + 1 + 1 + 1 := by omega); (try have : wr.heap.size < w2.heap.size := by omega); (try have : wr.heap.size < w2.heap.size + 1 := by omega); (try have : wr.heap.size < w2.heap.size + 1 + 1 := by omega); (try have : wr.heap.size < w2.heap.size + 1 + 1 + 1 := by omega); (try have : wr.heap.size + 1 < w2.heap.size := by omega); (try have : wr.heap.size + 1 < w2.heap.size + 1 := by omega); (try have : wr.heap.size + 1 < w2.heap.size + 1 + 1 := by omega); (try have : wr.heap.size + 1 < w2.heap.size + 1 + 1 + 1 := by omega)
        go_wp2_with fail
        ((with_reducible refine (Q3.out _).mono ?_); rintro e w' ⟨rfl, rfl⟩)
        have T1 := S1.out.below hb2
        obtain ⟨g', cap', hv', hg1', hg2', hcap', hcap2', hfz, hcs⟩ := T1.at (by simp [chainL_len])
        simp only [Value.slice.injEq, Option.some.injEq, Addr.mk.injEq] at hv'
        obtain ⟨⟨rfl, _, _⟩, hx, rfl⟩ := hv'
        clear hx
        have hcl := hcs kk (viaCells ⟨kk + 1, 1 + P, 0⟩) (by rw [List.getElem?_map]; rw [show chainL kk ++ [(⟨kk + 1, 1 + P, 0⟩ : ViaD)] = endL kk ⟨kk + 1, 1 + P, 0⟩ from rfl, endL_last]; rfl)
        have c0 := hcl 0 _ rfl
        have c1 := hcl 1 _ rfl
        have c2 := hcl 2 _ rfl
        rw [Nat.add_zero] at c0
        have HT := Lib.hid T1
        clear hcl hcs T1 S1
        dsimp only at c0 c1 c2
        clear hg1' hg2' hcap' hcap2'
        go_wp2_with fail
        have S2 := Lib.hid (chain_store (v := ⟨kk + 1, 0, 1 + B⟩) (a := 1 + (kk : Int)) (b := 0) (c := 1 + (B : Int)) HT.out (chainL_len kk) (by show _ = ((kk + 1 : Nat) : Int); omega) rfl (by show _ = ((1 + B : Nat) : Int); omega))
        have hbX : Below w.heap.size w (((w2.setCell ⟨g, kk * 3, none⟩ (.int .i64 (1 + (kk : Int)))).setCell ⟨g, kk * 3 + 1, none⟩ (.int .i64 0)).setCell ⟨g, kk * 3 + 2, none⟩ (.int .i64 (1 + (B : Int)))) := by (repeat' (first | (with_reducible exact Below.refl _ _) | (with_reducible assumption) | (with_reducible refine Below.alloc ?_ ?_ _) | (with_reducible refine Below.drew ?_) | (with_reducible refine Below.stepG ?_ (by assumption) ?_) | (with_reducible refine Below.setCell ?_ ?_ _) | omega | (dsimp only; omega) | (simp; done) | (simp; omega)))
        generalize ((w2.setCell ⟨g, kk * 3, none⟩ (.int .i64 (1 + (kk : Int)))).setCell ⟨g, kk * 3 + 1, none⟩ (.int .i64 0)).setCell ⟨g, kk * 3 + 2, none⟩ (.int .i64 (1 + (B : Int))) = X at *
        clear c0 c1 c2 hfz HT hb2 hbW hc2 hf2
        have hszX := hbX.size
        refine (A2.out _ S2.out.sl).mono ?_; rintro e w3 ⟨rfl, hb3⟩; (repeat (with_reducible (replace hb3 := Below.undrew hb3))); obtain ⟨hc3, hf3⟩ := bcell hb3; have hz3 := hb3.size; (repeat (first | rw [World.size_alloc] at hz3 | rw [World.size_drew] at hz3 | rw [World.size_setCell] at hz3)); (try have : w.heap.size < w3.heap.size := by omega); (try have : w.heap.size < w3.heap.size + 1 := by omega); (try have : w.heap.size < w3.heap.size + 1 + 1 := by omega); (try have : w.heap.size < w3.heap.size + 1 + 1 + 1 := by omega); (try have : wr.heap.size < w3.heap.size := by omega); (try have : wr.heap.size < w3.heap.size + 1 := by omega); (try have : wr.heap.size < w3.heap.size + 1 + 1 := by omega); (try have : wr.heap.size < w3.heap.size + 1 + 1 + 1 := by omega); (try have : wr.heap.size + 1 < w3.heap.size := by omega); (try have : wr.heap.size + 1 < w3.heap.size + 1 := by omega); (try have : wr.heap.size + 1 < w3.heap.size + 1 + 1 := by omega); (try have : wr.heap.size + 1 < w3.heap.size + 1 + 1 + 1 := by omega); (try have : w2.heap.size < w3.heap.size := by omega); (try have : w2.heap.size < w3.heap.size + 1 := by omega); (try have : w2.heap.size < w3.heap.size + 1 + 1 := by omega); (try have : w2.heap.size < w3.heap.size + 1 + 1 + 1 := by omega)
        clear S2
        have hk9 : decide ((9 : Int) < 1 + (kk : Int)) = true := by (first | omega | (simp; done) | (simp; omega))
        go_wp2
        all_goals go_returns
        all_goals exact ⟨rfl, by (repeat' (first | (with_reducible exact Below.refl _ _) | (with_reducible assumption) | (with_reducible refine Below.alloc ?_ ?_ _) | (with_reducible refine Below.drew ?_) | (with_reducible refine Below.stepG ?_ (by assumption) ?_) | (with_reducible refine Below.setCell ?_ ?_ _) | omega | (dsimp only; omega) | (simp; done) | (simp; omega)))⟩
end Go.Proofs.Ytlcacocecdnpnaa
