
/- ClassHidden: the walk. -/
import Derived.Test.YtlcacocecdnpnaaCHid
import Derived.Test.YtlcacocecdnpnaaCFirst
set_option linter.unusedVariables false
namespace Go.Proofs.Ytlcacocecdnpnaa
open Go.RowKit Go.Sort Wc Wk


set_option maxRecDepth 100000 in
set_option maxHeartbeats 4000000 in
theorem classHidden_walk (a : Option Addr) (len cap : Nat) (zs : List Int) (x y at_ : Int) (w : World) (h : IsRow .i64 w a len cap zs) (hx : -9223372036854775808 ≤ x ∧ x ≤ 9223372036854775807) (hy : -9223372036854775808 ≤ y ∧ y ≤ 9223372036854775807) (ha : -9223372036854775808 ≤ at_ ∧ at_ ≤ 9223372036854775807) :
    Calls Try.prog 16 #[.slice a len cap, .int .i64 x, .int .i64 y, .int .i64 at_] w fun e w' => e = .returned (.bool true) ∧ Below w.heap.size w w' := by
  have NF := Lib.hid (fun w => nearFlow_any x y w)
  have hn := near_fits x
  have hm := near_fits y
  generalize nearN x = n at *
  generalize nearN y = m at *
  go_enter Try.func16, Try.ntmps16
  go_wp2_with fail
  refine (matches_any a len cap zs 12 _ (IsRow.rd h) (IsRow.len_cap h) (by omega)).mono ?_
  rintro e w1 ⟨v, ms, rfl, HO, hok, hlen, hb1⟩; (repeat (with_reducible (replace hb1 := Below.undrew hb1))); obtain ⟨hc1, hf1⟩ := bcell hb1; have hz1 := hb1.size; (repeat (first | rw [World.size_alloc] at hz1 | rw [World.size_drew] at hz1 | rw [World.size_setCell] at hz1)); (try have : w.heap.size < w1.heap.size := by omega); (try have : w.heap.size < w1.heap.size + 1 := by omega); (try have : w.heap.size < w1.heap.size + 1 + 1 := by omega); (try have : w.heap.size < w1.heap.size + 1 + 1 + 1 := by omega)
  obtain ⟨a1, cap1, rfl, hcap1, hcap2⟩ := HO.sl.shape
  rw [List.length_map] at HO hcap1 ⊢
  have HOK := Lib.hid hok
  have HS := Lib.hid HO.sl
  clear hok h HO
  go_wp2_with (at_builtin; refine stop_at ?_; intro G hG)
  rw [← hG.out]; clear hG G
  refine wpList_append_any rfl _ _ 66 78 9 72 _ rfl eiMatch w1.heap.size _ ((([] : List MatchD)).map matchCells) rfl (Own.nil _ _ _ _) _ ((ms).map matchCells) rfl (HS.out.below (by (repeat' (first | (with_reducible exact Below.refl _ _) | (with_reducible assumption) | (with_reducible refine Below.alloc ?_ ?_ _) | (with_reducible refine Below.drew ?_) | (with_reducible refine Below.stepG ?_ (by assumption) ?_) | (with_reducible refine Below.setCell ?_ ?_ _) | omega | (dsimp only; omega) | (simp; done) | (simp; omega))))) (by intro c hc; obtain ⟨r, _, rfl⟩ := List.mem_map.1 hc; exact matchCells_one r) (by skip; first | omega | (simp; omega)) (by decide) (by first | omega | (simp; done) | (simp; omega)) ?_
  intro v2 w2 hown2 hb2
  rw [← List.map_append] at hown2
  obtain ⟨xs2, hxs2⟩ : ∃ x : List MatchD, x = (([] : List MatchD)) ++ (ms) := ⟨_, rfl⟩
  rw [← hxs2] at hown2
  have hl2 : xs2.length = (([] : List MatchD)).length + (ms).length := by rw [hxs2, List.length_append]
  have HX2 := Lib.hid hxs2
  clear hxs2
  have HL2 := Lib.hid hl2
  clear hl2
  obtain ⟨a2, cap2, rfl⟩ := hown2.shape
  rw [List.length_map] at hown2 ⊢
  have HO2 := Lib.hid hown2
  clear hown2
  obtain ⟨hc2, hf2⟩ := bcellB hb2; have hz2 := hb2.size; (repeat (first | rw [World.size_alloc] at hz2 | rw [World.size_drew] at hz2 | rw [World.size_setCell] at hz2)); (try have : w.heap.size < w2.heap.size := by omega); (try have : w.heap.size < w2.heap.size + 1 := by omega); (try have : w.heap.size < w2.heap.size + 1 + 1 := by omega); (try have : w.heap.size < w2.heap.size + 1 + 1 + 1 := by omega); (try have : w1.heap.size < w2.heap.size := by omega); (try have : w1.heap.size < w2.heap.size + 1 := by omega); (try have : w1.heap.size < w2.heap.size + 1 + 1 := by omega); (try have : w1.heap.size < w2.heap.size + 1 + 1 + 1 := by omega); (try have : w3.heap.size < w2.heap.size := by omega); (try have : w3.heap.size < w2.heap.size + 1 := by omega); (try have : w3.heap.size < w2.heap.size + 1 + 1 := by omega); (try have : w3.heap.size < w2.heap.size + 1 + 1 + 1 := by omega); (try have : wr.heap.size < w2.heap.size := by omega); (try have : wr.heap.size < w2.heap.size + 1 := by omega); (try have : wr.heap.size < w2.heap.size + 1 + 1 := by omega); (try have : wr.heap.size < w2.heap.size + 1 + 1 + 1 := by omega); (try have : wr.heap.size + 1 < w2.heap.size := by omega); (try have : wr.heap.size + 1 < w2.heap.size + 1 := by omega); (try have : wr.heap.size + 1 < w2.heap.size + 1 + 1 := by omega); (try have : wr.heap.size + 1 < w2.heap.size + 1 + 1 + 1 := by omega); (try have : w4.heap.size < w2.heap.size := by omega); (try have : w4.heap.size < w2.heap.size + 1 := by omega); (try have : w4.heap.size < w2.heap.size + 1 + 1 := by omega); (try have : w4.heap.size < w2.heap.size + 1 + 1 + 1 := by omega); (try have : w5.heap.size < w2.heap.size := by omega); (try have : w5.heap.size < w2.heap.size + 1 := by omega); (try have : w5.heap.size < w2.heap.size + 1 + 1 := by omega); (try have : w5.heap.size < w2.heap.size + 1 + 1 + 1 := by omega); (try have : w6.heap.size < w2.heap.size := by omega); (try have : w6.heap.size < w2.heap.size + 1 := by omega); (try have : w6.heap.size < w2.heap.size + 1 + 1 := by omega); (try have : w6.heap.size < w2.heap.size + 1 + 1 + 1 := by omega)
  obtain rfl : xs2 = ms := by rw [HX2.out]; rfl
  go_wp2_with fail
  refine (hidden_any a2 cap2 xs2 _ (HO2.out.sl.below (by (repeat' (first | (with_reducible exact Below.refl _ _) | (with_reducible assumption) | (with_reducible refine Below.alloc ?_ ?_ _) | (with_reducible refine Below.drew ?_) | (with_reducible refine Below.stepG ?_ (by assumption) ?_) | (with_reducible refine Below.setCell ?_ ?_ _) | omega | (dsimp only; omega) | (simp; done) | (simp; omega))))) (by omega) HOK.out).mono ?_
  rintro e w3 ⟨v3, rfl, hown3, hb3⟩; (repeat (with_reducible (replace hb3 := Below.undrew hb3))); obtain ⟨hc3, hf3⟩ := bcell hb3; have hz3 := hb3.size; (repeat (first | rw [World.size_alloc] at hz3 | rw [World.size_drew] at hz3 | rw [World.size_setCell] at hz3)); (try have : w.heap.size < w3.heap.size := by omega); (try have : w.heap.size < w3.heap.size + 1 := by omega); (try have : w.heap.size < w3.heap.size + 1 + 1 := by omega); (try have : w.heap.size < w3.heap.size + 1 + 1 + 1 := by omega); (try have : w1.heap.size < w3.heap.size := by omega); (try have : w1.heap.size < w3.heap.size + 1 := by omega); (try have : w1.heap.size < w3.heap.size + 1 + 1 := by omega); (try have : w1.heap.size < w3.heap.size + 1 + 1 + 1 := by omega)
  obtain ⟨a3, cap3, rfl, hcap3, hcap4⟩ := hown3.sl.shape
  rw [List.length_map] at hown3 hcap3 ⊢
  have HI := Lib.hid hown3.sl
  have HS3 := Lib.hid (HS.out.below (w' := w3) (by (repeat' (first | (with_reducible exact Below.refl _ _) | (with_reducible assumption) | (with_reducible refine Below.alloc ?_ ?_ _) | (with_reducible refine Below.drew ?_) | (with_reducible refine Below.stepG ?_ (by assumption) ?_) | (with_reducible refine Below.setCell ?_ ?_ _) | omega | (dsimp only; omega) | (simp; done) | (simp; omega)))))
  have HLS := Lib.hid (leftM_same (l := xs2) HOK.out (a := n) (b := m) xs2.length (Nat.le_refl _)).2
  have HLM := Lib.hid (fun q hq => HOK.out q (List.mem_of_mem_take (leftM_mem (l := xs2) xs2.length q hq)))
  obtain ⟨IL, hIL⟩ : ∃ x, x = hids xs2 xs2.length := ⟨_, rfl⟩
  rw [← hIL] at HI hcap3 ⊢
  have hILl : IL.length ≤ 12 := by rw [hIL]; exact Nat.le_trans (hids_len _ _) hlen
  have HIL := Lib.hid hIL
  have hb0 : Below w.heap.size w w3 := by (repeat' (first | (with_reducible exact Below.refl _ _) | (with_reducible assumption) | (with_reducible refine Below.alloc ?_ ?_ _) | (with_reducible refine Below.drew ?_) | (with_reducible refine Below.stepG ?_ (by assumption) ?_) | (with_reducible refine Below.setCell ?_ ?_ _) | omega | (dsimp only; omega) | (simp; done) | (simp; omega)))
  clear hIL hown3 hb1 hb2 hb3 hc1 hc2 hc3 hf1 hf2 hf3 HS HO2 HX2 HL2
  go_wp2_with fail
  go_loopw [12, 13, 14] (fun lv kv iv wr => ∃ j : Nat, j ≤ xs2.length ∧ iv = .int .i64 j ∧ kv = .int .i64 ((hids xs2 j).length : Nat) ∧ Hid (Own wr w3.heap.size 78 9 lv ((leftM xs2 j).map matchCells)) ∧ Below w3.heap.size w3 wr) (fun _ _ iv _ => xs2.length - (intOf iv).toNat)
  case atStart => exact ⟨0, Nat.zero_le _, rfl, rfl, Own.nil _ _ _ _, Below.refl _ _⟩
  case round =>
    obtain ⟨j, hj, rfl, rfl, HO, hbr⟩ := hrel
    have hzr := hbr.size
    have hkl : (hids xs2 j).length ≤ 12 := Nat.le_trans (hids_len _ _) (by omega)
    by_cases hlt : j < xs2.length
    · obtain ⟨r, hr⟩ : ∃ r, xs2[j]? = some r := ⟨_, List.getElem?_eq_getElem hlt⟩
      have HL := Lib.hid (leftM_some hr)
      have HS2 := Lib.hid (hids_succ xs2 j)
      have hll := leftM_len (l := xs2) j (by omega)
      by_cases hi : isHid xs2 j = true
      · obtain ⟨e1, e2⟩ := hids_here hlt hi
        rw [← HIL.out] at e1 e2
        obtain ⟨b, off, rfl, hb, d0⟩ := Sl.natC HI.out hbr e2
        have HOx := HO.out
        rw [← show leftM xs2 (j + 1) = leftM xs2 j by rw [HL.out, if_pos hi]] at HOx
        have hkn : ((hids xs2 j).length : Int) + 1 = ((hids xs2 (j + 1)).length : Nat) := by rw [HS2.out, if_pos hi]; simp
        have HO3 := Lib.hid HOx
        have HKN := Lib.hid hkn
        clear hi e2 hr HOx HO HS2 HL hkn
        generalize hk : (hids xs2 j).length = k at *
        clear hk
        go_wp2_with fail
        rw [HKN.out]
        go_roundw
        case rel => exact ⟨j + 1, by omega, by go_num, rfl, HO3, hbr⟩
        case measure => simp [intOf]; omega
      · have hi' : isHid xs2 j = false := by simpa using hi
        have HIo := Lib.hid (hids_other hlt hi')
        have hkn : hids xs2 j = hids xs2 (j + 1) := by rw [HS2.out, if_neg hi]; simp
        have HLx := Lib.hid (show leftM xs2 (j + 1) = leftM xs2 j ++ [r] by rw [HL.out, if_neg hi])
        have HKN := Lib.hid (show (hids xs2 j).length = (hids xs2 (j + 1)).length by rw [hkn])
        obtain ⟨bs, offs, ha1, hbs, d0, d1, d2, d3, d4, d5, d6, d7, d8⟩ := Sl.mat HS3.out hbr hr
        subst ha1
        clear hi hi' hr HS2 HL hkn
        generalize hk : (hids xs2 j).length = k at *
        clear hk
        rw [← HIL.out] at HIo
        rcases HIo.out with hge | ⟨z, h1, h2, h3, h4⟩
        · have hge' : IL.length ≤ k := by omega
          clear hge HIo
          go_wp2_with (at_builtin; refine stop_at ?_; intro G hG)
          rw [← hG.out]; clear hG G
          refine wpList_append_any rfl _ _ 66 78 9 72 _ rfl eiMatch w3.heap.size _ ((leftM xs2 j).map matchCells) rfl (by ((repeat (first | (with_reducible refine Own.alloc ?_ _) | (with_reducible refine Own.dr ?_))); exact HO.out)) _ (([r]).map matchCells) rfl (sl_mat r (by simp)) (by intro c hc; obtain ⟨r, _, rfl⟩ := List.mem_map.1 hc; exact matchCells_one r) (by skip; first | omega | (simp; omega)) (by decide) (by first | omega | (simp; done) | (simp; omega)) ?_
          intro v4 w4 hown4 hb4
          rw [← List.map_append] at hown4
          obtain ⟨xs4, hxs4⟩ : ∃ x : List MatchD, x = (leftM xs2 j) ++ ([r]) := ⟨_, rfl⟩
          rw [← hxs4] at hown4
          have hl4 : xs4.length = (leftM xs2 j).length + ([r]).length := by rw [hxs4, List.length_append]
          have HX4 := Lib.hid hxs4
          clear hxs4
          have HL4 := Lib.hid hl4
          clear hl4
          obtain ⟨a4, cap4, rfl⟩ := hown4.shape
          rw [List.length_map] at hown4 ⊢
          have HO4 := Lib.hid hown4
          clear hown4
          obtain ⟨hc4, hf4⟩ := bcellB hb4; have hz4 := hb4.size; (repeat (first | rw [World.size_alloc] at hz4 | rw [World.size_drew] at hz4 | rw [World.size_setCell] at hz4)); (try have : w.heap.size < w4.heap.size := by omega); (try have : w.heap.size < w4.heap.size + 1 := by omega); (try have : w.heap.size < w4.heap.size + 1 + 1 := by omega); (try have : w.heap.size < w4.heap.size + 1 + 1 + 1 := by omega); (try have : w1.heap.size < w4.heap.size := by omega); (try have : w1.heap.size < w4.heap.size + 1 := by omega); (try have : w1.heap.size < w4.heap.size + 1 + 1 := by omega); (try have : w1.heap.size < w4.heap.size + 1 + 1 + 1 := by omega); (try have : w3.heap.size < w4.heap.size := by omega); (try have : w3.heap.size < w4.heap.size + 1 := by omega); (try have : w3.heap.size < w4.heap.size + 1 + 1 := by omega); (try have : w3.heap.size < w4.heap.size + 1 + 1 + 1 := by omega); (try have : wr.heap.size < w4.heap.size := by omega); (try have : wr.heap.size < w4.heap.size + 1 := by omega); (try have : wr.heap.size < w4.heap.size + 1 + 1 := by omega); (try have : wr.heap.size < w4.heap.size + 1 + 1 + 1 := by omega); (try have : wr.heap.size + 1 < w4.heap.size := by omega); (try have : wr.heap.size + 1 < w4.heap.size + 1 := by omega); (try have : wr.heap.size + 1 < w4.heap.size + 1 + 1 := by omega); (try have : wr.heap.size + 1 < w4.heap.size + 1 + 1 + 1 := by omega)
          have HO5 : Hid (Own w4 w3.heap.size 78 9 (.slice a4 xs4.length cap4) ((leftM xs2 (j + 1)).map matchCells)) := by
            rw [HLx.out, ← HX4.out]; exact HO4
          clear HO HLx HX4 HO4
          go_wp2
          go_roundw
          case rel => exact ⟨j + 1, by omega, by go_num, by rw [← HKN.out], HO5, by (repeat' (first | (with_reducible exact Below.refl _ _) | (with_reducible assumption) | (with_reducible refine Below.alloc ?_ ?_ _) | (with_reducible refine Below.drew ?_) | (with_reducible refine Below.stepG ?_ (by assumption) ?_) | (with_reducible refine Below.setCell ?_ ?_ _) | omega | (dsimp only; omega) | (simp; done) | (simp; omega)))⟩
          case measure => simp [intOf]; omega
        · obtain ⟨bi, offi, hai, hbi, c0⟩ := Sl.natC HI.out hbr h2
          subst hai
          have hzj : ((z : Int) == j) = false := by rw [beq_eq_false_iff_ne]; omega
          clear h2 HIo
          go_wp2_with (at_builtin; refine stop_at ?_; intro G hG)
          rw [← hG.out]; clear hG G
          refine wpList_append_any rfl _ _ 66 78 9 72 _ rfl eiMatch w3.heap.size _ ((leftM xs2 j).map matchCells) rfl (by ((repeat (first | (with_reducible refine Own.alloc ?_ _) | (with_reducible refine Own.dr ?_))); exact HO.out)) _ (([r]).map matchCells) rfl (sl_mat r (by simp)) (by intro c hc; obtain ⟨r, _, rfl⟩ := List.mem_map.1 hc; exact matchCells_one r) (by skip; first | omega | (simp; omega)) (by decide) (by first | omega | (simp; done) | (simp; omega)) ?_
          intro v4 w4 hown4 hb4
          rw [← List.map_append] at hown4
          obtain ⟨xs4, hxs4⟩ : ∃ x : List MatchD, x = (leftM xs2 j) ++ ([r]) := ⟨_, rfl⟩
          rw [← hxs4] at hown4
          have hl4 : xs4.length = (leftM xs2 j).length + ([r]).length := by rw [hxs4, List.length_append]
          have HX4 := Lib.hid hxs4
          clear hxs4
          have HL4 := Lib.hid hl4
          clear hl4
          obtain ⟨a4, cap4, rfl⟩ := hown4.shape
          rw [List.length_map] at hown4 ⊢
          have HO4 := Lib.hid hown4
          clear hown4
          obtain ⟨hc4, hf4⟩ := bcellB hb4; have hz4 := hb4.size; (repeat (first | rw [World.size_alloc] at hz4 | rw [World.size_drew] at hz4 | rw [World.size_setCell] at hz4)); (try have : w.heap.size < w4.heap.size := by omega); (try have : w.heap.size < w4.heap.size + 1 := by omega); (try have : w.heap.size < w4.heap.size + 1 + 1 := by omega); (try have : w.heap.size < w4.heap.size + 1 + 1 + 1 := by omega); (try have : w1.heap.size < w4.heap.size := by omega); (try have : w1.heap.size < w4.heap.size + 1 := by omega); (try have : w1.heap.size < w4.heap.size + 1 + 1 := by omega); (try have : w1.heap.size < w4.heap.size + 1 + 1 + 1 := by omega); (try have : w3.heap.size < w4.heap.size := by omega); (try have : w3.heap.size < w4.heap.size + 1 := by omega); (try have : w3.heap.size < w4.heap.size + 1 + 1 := by omega); (try have : w3.heap.size < w4.heap.size + 1 + 1 + 1 := by omega); (try have : wr.heap.size < w4.heap.size := by omega); (try have : wr.heap.size < w4.heap.size + 1 := by omega); (try have : wr.heap.size < w4.heap.size + 1 + 1 := by omega); (try have : wr.heap.size < w4.heap.size + 1 + 1 + 1 := by omega); (try have : wr.heap.size + 1 < w4.heap.size := by omega); (try have : wr.heap.size + 1 < w4.heap.size + 1 := by omega); (try have : wr.heap.size + 1 < w4.heap.size + 1 + 1 := by omega); (try have : wr.heap.size + 1 < w4.heap.size + 1 + 1 + 1 := by omega)
          have HO5 : Hid (Own w4 w3.heap.size 78 9 (.slice a4 xs4.length cap4) ((leftM xs2 (j + 1)).map matchCells)) := by
            rw [HLx.out, ← HX4.out]; exact HO4
          clear HO HLx HX4 HO4
          go_wp2
          go_roundw
          case rel => exact ⟨j + 1, by omega, by go_num, by rw [← HKN.out], HO5, by (repeat' (first | (with_reducible exact Below.refl _ _) | (with_reducible assumption) | (with_reducible refine Below.alloc ?_ ?_ _) | (with_reducible refine Below.drew ?_) | (with_reducible refine Below.stepG ?_ (by assumption) ?_) | (with_reducible refine Below.setCell ?_ ?_ _) | omega | (dsimp only; omega) | (simp; done) | (simp; omega)))⟩
          case measure => simp [intOf]; omega
    · obtain rfl : j = xs2.length := by omega
      have HO3 := HO.out
      rw [← HIL.out]
      obtain ⟨a4, cap4, hv4, hcap5, hcap6⟩ := HO3.sl.shape
      rw [List.length_map] at hv4
      subst hv4
      have hll := leftM_len (l := xs2) xs2.length (Nat.le_refl _)
      generalize leftM xs2 xs2.length = LL at *
      have HL3 := Lib.hid HO3.sl
      have hbw : Below w.heap.size w wr := hb0.trans (hbr.mono hb0.size)
      have HS4 := Lib.hid (HS3.out.below hbr)
      have hzw := hbw.size
      have HLS2 : classC LL n m = classC xs2 n m := by have := HLS.out; rwa [List.take_length] at this
      have C1 := Lib.hid (fun w hs => classed_any a1 cap1 xs2 n m w hs (by omega) HOK.out hn hm)
      have C2 := Lib.hid (fun w hs => classed_any a4 cap4 LL n m w hs (by omega) HLM.out hn hm)
      rw [HLS2] at C2
      generalize classC xs2 n m = cc at *
      generalize classI xs2 n m = i1 at *
      generalize classI LL n m = i2 at *
      clear HO HO3 hcap5 hkl HLS HLS2 HLM HI HIL hbr hb0 HS3 hn hm hzr
      go_wp2_with (first | ((with_reducible refine (NF.out _).mono ?_); rintro e w4 ⟨rfl, hb4⟩; (repeat (with_reducible (replace hb4 := Below.undrew hb4))); obtain ⟨hc4, hf4⟩ := bcell hb4; have hz4 := hb4.size; (repeat (first | rw [World.size_alloc] at hz4 | rw [World.size_drew] at hz4 | rw [World.size_setCell] at hz4)); (try have : w.heap.size < w4.heap.size := by omega); (try have : w.heap.size < w4.heap.size + 1 := by omega); (try have : w.heap.size < w4.heap.size + 1 + 1 := by omega); (try have : w.heap.size < w4.heap.size + 1 + 1 + 1 := by omega); (try have : w1.heap.size < w4.heap.size := by omega); (try have : w1.heap.size < w4.heap.size + 1 := by omega); (try have : w1.heap.size < w4.heap.size + 1 + 1 := by omega); (try have : w1.heap.size < w4.heap.size + 1 + 1 + 1 := by omega); (try have : w3.heap.size < w4.heap.size := by omega); (try have : w3.heap.size < w4.heap.size + 1 := by omega); (try have : w3.heap.size < w4.heap.size + 1 + 1 := by omega); (try have : w3.heap.size < w4.heap.size + 1 + 1 + 1 := by omega); (try have : wr.heap.size < w4.heap.size := by omega); (try have : wr.heap.size < w4.heap.size + 1 := by omega); (try have : wr.heap.size < w4.heap.size + 1 + 1 := by omega); (try have : wr.heap.size < w4.heap.size + 1 + 1 + 1 := by omega); (try have : wr.heap.size + 1 < w4.heap.size := by omega); (try have : wr.heap.size + 1 < w4.heap.size + 1 := by omega); (try have : wr.heap.size + 1 < w4.heap.size + 1 + 1 := by omega); (try have : wr.heap.size + 1 < w4.heap.size + 1 + 1 + 1 := by omega)))
      refine (C1.out _ (HS4.out.below (by (repeat' (first | (with_reducible exact Below.refl _ _) | (with_reducible assumption) | (with_reducible refine Below.alloc ?_ ?_ _) | (with_reducible refine Below.drew ?_) | (with_reducible refine Below.stepG ?_ (by assumption) ?_) | (with_reducible refine Below.setCell ?_ ?_ _) | omega | (dsimp only; omega) | (simp; done) | (simp; omega)))))).mono ?_; rintro e w5 ⟨rfl, hb5⟩; (repeat (with_reducible (replace hb5 := Below.undrew hb5))); obtain ⟨hc5, hf5⟩ := bcell hb5; have hz5 := hb5.size; (repeat (first | rw [World.size_alloc] at hz5 | rw [World.size_drew] at hz5 | rw [World.size_setCell] at hz5)); (try have : w.heap.size < w5.heap.size := by omega); (try have : w.heap.size < w5.heap.size + 1 := by omega); (try have : w.heap.size < w5.heap.size + 1 + 1 := by omega); (try have : w.heap.size < w5.heap.size + 1 + 1 + 1 := by omega); (try have : w1.heap.size < w5.heap.size := by omega); (try have : w1.heap.size < w5.heap.size + 1 := by omega); (try have : w1.heap.size < w5.heap.size + 1 + 1 := by omega); (try have : w1.heap.size < w5.heap.size + 1 + 1 + 1 := by omega); (try have : w3.heap.size < w5.heap.size := by omega); (try have : w3.heap.size < w5.heap.size + 1 := by omega); (try have : w3.heap.size < w5.heap.size + 1 + 1 := by omega); (try have : w3.heap.size < w5.heap.size + 1 + 1 + 1 := by omega); (try have : wr.heap.size < w5.heap.size := by omega); (try have : wr.heap.size < w5.heap.size + 1 := by omega); (try have : wr.heap.size < w5.heap.size + 1 + 1 := by omega); (try have : wr.heap.size < w5.heap.size + 1 + 1 + 1 := by omega); (try have : wr.heap.size + 1 < w5.heap.size := by omega); (try have : wr.heap.size + 1 < w5.heap.size + 1 := by omega); (try have : wr.heap.size + 1 < w5.heap.size + 1 + 1 := by omega); (try have : wr.heap.size + 1 < w5.heap.size + 1 + 1 + 1 := by omega); (try have : w4.heap.size < w5.heap.size := by omega); (try have : w4.heap.size < w5.heap.size + 1 := by omega); (try have : w4.heap.size < w5.heap.size + 1 + 1 := by omega); (try have : w4.heap.size < w5.heap.size + 1 + 1 + 1 := by omega)
      have F0 : w5.cell? ⟨w4.heap.size, 0, none⟩ = some (.bool false) := by rw [hc5 _ _ (by simp)]; simp
      have F1 : w5.cell? ⟨w4.heap.size, 1, none⟩ = some (.int .u64 (hiOf false n)) := by rw [hc5 _ _ (by simp)]; simp
      have F2 : w5.cell? ⟨w4.heap.size, 2, none⟩ = some (.int .u64 (loOf n)) := by rw [hc5 _ _ (by simp)]; simp
      have F3 : w5.cell? ⟨w4.heap.size, 3, none⟩ = some (.bool false) := by rw [hc5 _ _ (by simp)]; simp
      have F4 : w5.cell? ⟨w4.heap.size, 4, none⟩ = some (.int .u64 (hiOf false m)) := by rw [hc5 _ _ (by simp)]; simp
      have F5 : w5.cell? ⟨w4.heap.size, 5, none⟩ = some (.int .u64 (loOf m)) := by rw [hc5 _ _ (by simp)]; simp
      clear hc5
      go_wp2_with fail
      refine (C2.out _ (HL3.out.below (by (repeat' (first | (with_reducible exact Below.refl _ _) | (with_reducible assumption) | (with_reducible refine Below.alloc ?_ ?_ _) | (with_reducible refine Below.drew ?_) | (with_reducible refine Below.stepG ?_ (by assumption) ?_) | (with_reducible refine Below.setCell ?_ ?_ _) | omega | (dsimp only; omega) | (simp; done) | (simp; omega)))))).mono ?_; rintro e w6 ⟨rfl, hb6⟩; (repeat (with_reducible (replace hb6 := Below.undrew hb6))); obtain ⟨hc6, hf6⟩ := bcell hb6; have hz6 := hb6.size; (repeat (first | rw [World.size_alloc] at hz6 | rw [World.size_drew] at hz6 | rw [World.size_setCell] at hz6)); (try have : w.heap.size < w6.heap.size := by omega); (try have : w.heap.size < w6.heap.size + 1 := by omega); (try have : w.heap.size < w6.heap.size + 1 + 1 := by omega); (try have : w.heap.size < w6.heap.size + 1 + 1 + 1 := by omega); (try have : w1.heap.size < w6.heap.size := by omega); (try have : w1.heap.size < w6.heap.size + 1 := by omega); (try have : w1.heap.size < w6.heap.size + 1 + 1 := by omega); (try have : w1.heap.size < w6.heap.size + 1 + 1 + 1 := by omega); (try have : w3.heap.size < w6.heap.size := by omega); (try have : w3.heap.size < w6.heap.size + 1 := by omega); (try have : w3.heap.size < w6.heap.size + 1 + 1 := by omega); (try have : w3.heap.size < w6.heap.size + 1 + 1 + 1 := by omega); (try have : wr.heap.size < w6.heap.size := by omega); (try have : wr.heap.size < w6.heap.size + 1 := by omega); (try have : wr.heap.size < w6.heap.size + 1 + 1 := by omega); (try have : wr.heap.size < w6.heap.size + 1 + 1 + 1 := by omega); (try have : wr.heap.size + 1 < w6.heap.size := by omega); (try have : wr.heap.size + 1 < w6.heap.size + 1 := by omega); (try have : wr.heap.size + 1 < w6.heap.size + 1 + 1 := by omega); (try have : wr.heap.size + 1 < w6.heap.size + 1 + 1 + 1 := by omega); (try have : w4.heap.size < w6.heap.size := by omega); (try have : w4.heap.size < w6.heap.size + 1 := by omega); (try have : w4.heap.size < w6.heap.size + 1 + 1 := by omega); (try have : w4.heap.size < w6.heap.size + 1 + 1 + 1 := by omega); (try have : w5.heap.size < w6.heap.size := by omega); (try have : w5.heap.size < w6.heap.size + 1 := by omega); (try have : w5.heap.size < w6.heap.size + 1 + 1 := by omega); (try have : w5.heap.size < w6.heap.size + 1 + 1 + 1 := by omega)
      have HS6 := Lib.hid (HS4.out.below (w' := w6) (by (repeat' (first | (with_reducible exact Below.refl _ _) | (with_reducible assumption) | (with_reducible refine Below.alloc ?_ ?_ _) | (with_reducible refine Below.drew ?_) | (with_reducible refine Below.stepG ?_ (by assumption) ?_) | (with_reducible refine Below.setCell ?_ ?_ _) | omega | (dsimp only; omega) | (simp; done) | (simp; omega)))))
      have hbx : Below w.heap.size w w6 := by (repeat' (first | (with_reducible exact Below.refl _ _) | (with_reducible assumption) | (with_reducible refine Below.alloc ?_ ?_ _) | (with_reducible refine Below.drew ?_) | (with_reducible refine Below.stepG ?_ (by assumption) ?_) | (with_reducible refine Below.setCell ?_ ?_ _) | omega | (dsimp only; omega) | (simp; done) | (simp; omega)))
      have hzx := hbx.size
      clear hb4 hb5 hb6 hc4 hc6 hf4 hf5 hf6 HS4 HL3 C1 C2 hbw NF
      by_cases h0 : xs2 = []
      · subst h0
        go_wp2
        go_returns
        exact ⟨rfl, hbx⟩
      · have h1 : 0 < xs2.length := List.length_pos_iff.2 h0
        have hd : ((xs2.length : Int) == 0) = false := by rw [beq_eq_false_iff_ne]; omega
        have p0 := Int.emod_nonneg at_ (show (xs2.length : Int) ≠ 0 by omega)
        have p1 := Int.emod_lt_of_pos at_ (show (0 : Int) < xs2.length by omega)
        have Q1 := Lib.hid (fun w => picked_any at_ xs2.length w (by omega) (by omega))
        obtain ⟨i, hi⟩ := Int.eq_ofNat_of_zero_le p0
        rw [hi] at Q1 p1
        have hil : i < xs2.length := by omega
        obtain ⟨q, hq⟩ : ∃ q, xs2[i]? = some q := ⟨_, List.getElem?_eq_getElem hil⟩
        have HQ := Lib.hid hq
        have HMEM := Lib.hid (List.mem_of_getElem? hq)
        clear hi p0 hq h0
        go_wp2_with (at_builtin; refine stop_at ?_; intro G hG)
        rw [← hG.out]; clear hG G
        refine wpList_append_any rfl _ _ 66 78 9 72 _ rfl eiMatch w6.heap.size _ ((([] : List MatchD)).map matchCells) rfl (Own.nil _ _ _ _) _ ((xs2).map matchCells) rfl (HS6.out) (by intro c hc; obtain ⟨r, _, rfl⟩ := List.mem_map.1 hc; exact matchCells_one r) (by skip; first | omega | (simp; omega)) (by decide) (by first | omega | (simp; done) | (simp; omega)) ?_
        intro v7 w7 hown7 hb7
        rw [← List.map_append] at hown7
        obtain ⟨xs7, hxs7⟩ : ∃ x : List MatchD, x = (([] : List MatchD)) ++ (xs2) := ⟨_, rfl⟩
        rw [← hxs7] at hown7
        have hl7 : xs7.length = (([] : List MatchD)).length + (xs2).length := by rw [hxs7, List.length_append]
        have HX7 := Lib.hid hxs7
        clear hxs7
        have HL7 := Lib.hid hl7
        clear hl7
        obtain ⟨a7, cap7, rfl⟩ := hown7.shape
        rw [List.length_map] at hown7 ⊢
        have HO7 := Lib.hid hown7
        clear hown7
        obtain ⟨hc7, hf7⟩ := bcellB hb7; have hz7 := hb7.size; (repeat (first | rw [World.size_alloc] at hz7 | rw [World.size_drew] at hz7 | rw [World.size_setCell] at hz7)); (try have : w.heap.size < w7.heap.size := by omega); (try have : w.heap.size < w7.heap.size + 1 := by omega); (try have : w.heap.size < w7.heap.size + 1 + 1 := by omega); (try have : w.heap.size < w7.heap.size + 1 + 1 + 1 := by omega); (try have : w1.heap.size < w7.heap.size := by omega); (try have : w1.heap.size < w7.heap.size + 1 := by omega); (try have : w1.heap.size < w7.heap.size + 1 + 1 := by omega); (try have : w1.heap.size < w7.heap.size + 1 + 1 + 1 := by omega); (try have : w3.heap.size < w7.heap.size := by omega); (try have : w3.heap.size < w7.heap.size + 1 := by omega); (try have : w3.heap.size < w7.heap.size + 1 + 1 := by omega); (try have : w3.heap.size < w7.heap.size + 1 + 1 + 1 := by omega); (try have : wr.heap.size < w7.heap.size := by omega); (try have : wr.heap.size < w7.heap.size + 1 := by omega); (try have : wr.heap.size < w7.heap.size + 1 + 1 := by omega); (try have : wr.heap.size < w7.heap.size + 1 + 1 + 1 := by omega); (try have : wr.heap.size + 1 < w7.heap.size := by omega); (try have : wr.heap.size + 1 < w7.heap.size + 1 := by omega); (try have : wr.heap.size + 1 < w7.heap.size + 1 + 1 := by omega); (try have : wr.heap.size + 1 < w7.heap.size + 1 + 1 + 1 := by omega); (try have : w4.heap.size < w7.heap.size := by omega); (try have : w4.heap.size < w7.heap.size + 1 := by omega); (try have : w4.heap.size < w7.heap.size + 1 + 1 := by omega); (try have : w4.heap.size < w7.heap.size + 1 + 1 + 1 := by omega); (try have : w5.heap.size < w7.heap.size := by omega); (try have : w5.heap.size < w7.heap.size + 1 := by omega); (try have : w5.heap.size < w7.heap.size + 1 + 1 := by omega); (try have : w5.heap.size < w7.heap.size + 1 + 1 + 1 := by omega); (try have : w6.heap.size < w7.heap.size := by omega); (try have : w6.heap.size < w7.heap.size + 1 := by omega); (try have : w6.heap.size < w7.heap.size + 1 + 1 := by omega); (try have : w6.heap.size < w7.heap.size + 1 + 1 + 1 := by omega)
        obtain ⟨b, off, rfl, hb, d0, d1, d2, d3, d4, d5, d6, d7, d8⟩ := Sl.mat HS6.out (w' := w7) (by (repeat' (first | (with_reducible exact Below.refl _ _) | (with_reducible assumption) | (with_reducible refine Below.alloc ?_ ?_ _) | (with_reducible refine Below.drew ?_) | (with_reducible refine Below.stepG ?_ (by assumption) ?_) | (with_reducible refine Below.setCell ?_ ?_ _) | omega | (dsimp only; omega) | (simp; done) | (simp; omega)))) HQ.out
        obtain rfl : xs7 = xs2 := by rw [HX7.out]; rfl
        clear hc7 hf7
        go_wp2_with (first | ((with_reducible refine (Q1.out _).mono ?_); rintro e w' ⟨rfl, rfl⟩) | (at_builtin; refine stop_at ?_; intro G hG))
        rw [← hG.out]; clear hG G
        refine wpList_append_any rfl _ _ 66 78 9 72 _ rfl eiMatch w6.heap.size _ ((xs7).map matchCells) rfl (by ((repeat (first | (with_reducible refine Own.alloc ?_ _) | (with_reducible refine Own.dr ?_))); exact HO7.out)) _ (([q]).map matchCells) rfl (sl_mat q (by simp)) (by intro c hc; obtain ⟨r, _, rfl⟩ := List.mem_map.1 hc; exact matchCells_one r) (by skip; first | omega | (simp; omega)) (by decide) (by first | omega | (simp; done) | (simp; omega)) ?_
        intro v8 w8 hown8 hb8
        rw [← List.map_append] at hown8
        obtain ⟨xs8, hxs8⟩ : ∃ x : List MatchD, x = (xs7) ++ ([q]) := ⟨_, rfl⟩
        rw [← hxs8] at hown8
        have hl8 : xs8.length = (xs7).length + ([q]).length := by rw [hxs8, List.length_append]
        have HX8 := Lib.hid hxs8
        clear hxs8
        have HL8 := Lib.hid hl8
        clear hl8
        obtain ⟨a8, cap8, rfl⟩ := hown8.shape
        rw [List.length_map] at hown8 ⊢
        have HO8 := Lib.hid hown8
        clear hown8
        obtain ⟨hc8, hf8⟩ := bcellB hb8; have hz8 := hb8.size; (repeat (first | rw [World.size_alloc] at hz8 | rw [World.size_drew] at hz8 | rw [World.size_setCell] at hz8)); (try have : w.heap.size < w8.heap.size := by omega); (try have : w.heap.size < w8.heap.size + 1 := by omega); (try have : w.heap.size < w8.heap.size + 1 + 1 := by omega); (try have : w.heap.size < w8.heap.size + 1 + 1 + 1 := by omega); (try have : w1.heap.size < w8.heap.size := by omega); (try have : w1.heap.size < w8.heap.size + 1 := by omega); (try have : w1.heap.size < w8.heap.size + 1 + 1 := by omega); (try have : w1.heap.size < w8.heap.size + 1 + 1 + 1 := by omega); (try have : w3.heap.size < w8.heap.size := by omega); (try have : w3.heap.size < w8.heap.size + 1 := by omega); (try have : w3.heap.size < w8.heap.size + 1 + 1 := by omega); (try have : w3.heap.size < w8.heap.size + 1 + 1 + 1 := by omega); (try have : wr.heap.size < w8.heap.size := by omega); (try have : wr.heap.size < w8.heap.size + 1 := by omega); (try have : wr.heap.size < w8.heap.size + 1 + 1 := by omega); (try have : wr.heap.size < w8.heap.size + 1 + 1 + 1 := by omega); (try have : wr.heap.size + 1 < w8.heap.size := by omega); (try have : wr.heap.size + 1 < w8.heap.size + 1 := by omega); (try have : wr.heap.size + 1 < w8.heap.size + 1 + 1 := by omega); (try have : wr.heap.size + 1 < w8.heap.size + 1 + 1 + 1 := by omega); (try have : w4.heap.size < w8.heap.size := by omega); (try have : w4.heap.size < w8.heap.size + 1 := by omega); (try have : w4.heap.size < w8.heap.size + 1 + 1 := by omega); (try have : w4.heap.size < w8.heap.size + 1 + 1 + 1 := by omega); (try have : w5.heap.size < w8.heap.size := by omega); (try have : w5.heap.size < w8.heap.size + 1 := by omega); (try have : w5.heap.size < w8.heap.size + 1 + 1 := by omega); (try have : w5.heap.size < w8.heap.size + 1 + 1 + 1 := by omega); (try have : w6.heap.size < w8.heap.size := by omega); (try have : w6.heap.size < w8.heap.size + 1 := by omega); (try have : w6.heap.size < w8.heap.size + 1 + 1 := by omega); (try have : w6.heap.size < w8.heap.size + 1 + 1 + 1 := by omega)
        clear d0 d1 d2 d3 d4 d5 d6 d7 d8
        have hl8 : xs8.length ≤ 30 := by have := HL8.out; simp only [List.length_singleton] at this; omega
        have hok8 : ∀ q ∈ xs8, MatchD.ok q := by
          intro z hz
          rw [HX8.out] at hz
          rcases List.mem_append.1 hz with h | h
          · exact HOK.out z h
          · simp at h; subst h; exact HOK.out _ HMEM.out
        obtain ⟨xs, hxs⟩ := hids_again (l := xs7) (q := q) HOK.out HMEM.out
        rw [← HX8.out] at hxs
        have HXS := Lib.hid hxs
        clear hxs
        go_wp2_with fail
        refine (hidden_any a8 cap8 xs8 _ (HO8.out.sl.below (by (repeat' (first | (with_reducible exact Below.refl _ _) | (with_reducible assumption) | (with_reducible refine Below.alloc ?_ ?_ _) | (with_reducible refine Below.drew ?_) | (with_reducible refine Below.stepG ?_ (by assumption) ?_) | (with_reducible refine Below.setCell ?_ ?_ _) | omega | (dsimp only; omega) | (simp; done) | (simp; omega))))) hl8 hok8).mono ?_
        rintro e w9 ⟨v9, rfl, hown9, hb9⟩
        rw [HXS.out] at hown9
        have hbe : Below w.heap.size w w9 := by (repeat' (first | (with_reducible exact Below.refl _ _) | (with_reducible assumption) | (with_reducible refine Below.alloc ?_ ?_ _) | (with_reducible refine Below.drew ?_) | (with_reducible refine Below.stepG ?_ (by assumption) ?_) | (with_reducible refine Below.setCell ?_ ?_ _) | omega | (dsimp only; omega) | (simp; done) | (simp; omega)))
        have h9 : xs.length ≤ 31 := by
          have := hids_len xs8 xs8.length
          rw [HXS.out] at this
          simp at this; omega
        obtain ⟨g, gc, rfl, hg1, hg2, _, _, _, hg3⟩ := hown9.at (by simp)
        have e9 := hg3 xs.length (natC xs7.length) (by simp) 0 _ rfl
        rw [List.length_map, List.length_append, List.length_singleton]
        rw [Nat.mul_one, Nat.add_zero] at e9
        clear hg3 hown9 HXS
        have hw9 : wrap64 (((xs.length + 1 : Nat) : Int) - 1) = (xs.length : Int) := by rw [show (((xs.length + 1 : Nat) : Int) - 1) = (xs.length : Int) by omega]; exact wrap64_in (by omega) (by omega)
        go_wp2
        all_goals go_returns
        all_goals exact ⟨rfl, hbe⟩
end Go.Proofs.Ytlcacocecdnpnaa
