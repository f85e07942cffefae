
/- TopDelta: the walk. -/
import Derived.Test.YtoecmoicaklbaaaTDP
import Derived.Test.YtoecmoicaklbaaaSm2
import Derived.Test.YtoecmoicaklbaaaWt
set_option linter.unusedVariables false
set_option linter.unusedSimpArgs false
namespace Go.Proofs.Ytoecmoicaklbaaa
open Go Go.RowKit Go.Sort Wc Wk

theorem own_newA {W : World} {B sz b : Nat} {c : List Value} {cs : Array Value} {E : TypeId} (hb : b = W.heap.size) (hB : B ≤ b) (hcs : cs = c.toArray) (hc : c.length = sz) (hm : sz ≤ 1000) : Wk.Own (W.alloc (.cells cs E)) B E sz (.slice (some ⟨b, 0, none⟩) 1 1) [c] := by
  subst hcs
  exact own_newW hb hB hc hm

set_option maxRecDepth 100000 in
set_option maxHeartbeats 8000000 in
theorem topDelta_walk (a0 : Option Addr) (len0 cap0 : Nat) (z0 : List RawJ) (hz nn : Int) (w : World) (h0 : IsJobs w a0 len0 cap0 z0) (hh : -9223372036854775808 ≤ hz ∧ hz ≤ 9223372036854775807) (hk : -9223372036854775808 ≤ nn ∧ nn ≤ 9223372036854775807) :
    Calls Try.prog 5 #[.slice a0 len0 cap0, .int .i64 hz, .int .i64 nn] w fun e w' => e = .returned (.bool true) ∧ Below w.heap.size w w' := by
  have H0 := Lib.hid h0
  have P1 := Lib.hid (fun w => picked_any hz 5 w (by decide) (by decide))
  have q1 := Int.emod_nonneg hz (show (5 : Int) ≠ 0 by decide)
  have l1 := Int.emod_lt_of_pos hz (show (0 : Int) < 5 by decide)
  obtain ⟨h, e1⟩ := Int.eq_ofNat_of_zero_le q1
  rw [e1] at P1 l1
  have hlt : h < 5 := by omega
  have ew1 : IntKind.i64.wrap (1 + (h : Int)) = 1 + (h : Int) := IntWalk.i64_in _ (by omega)
  clear e1 q1 hh h0
  have HFT := Lib.hid (topActs_fit z0 hlt)
  have HAL := Lib.hid (topActs_len z0 h)
  have HTZ := Lib.hid (topActs_zero z0 hlt)
  have HTA := Lib.hid (show topActs z0 h = [(⟨1, 0, 0, 1 + h, 0⟩ : ActD)] ++ actsOf z0 45 from rfl)
  have HW := Lib.hid (Below.refl w.heap.size w)
  generalize topActs z0 h = al at *
  clear hlt
  go_enter Try.func5, Try.ntmps5
  go_wp2_with (((with_reducible refine (P1.out _).mono ?_); rintro e w' ⟨rfl, rfl⟩))
  obtain ⟨Y, hY⟩ : ∃ Y, Y = w.alloc (.cells #[.int .i64 1, .bool false, .int .u64 0, .int .u64 0, .int .i64 0, .int .i64 (1 + (h : Int)), .bool false, .int .u64 0, .int .u64 0] 32) := ⟨_, rfl⟩
  have HO0 : Wk.Own Y w.heap.size 32 9 (.slice (some ⟨w.heap.size, 0, none⟩) 1 1) [actCells ⟨1, 0, 0, 1 + h, 0⟩] := by
    rw [hY]; exact own_newA rfl (Nat.le_refl _) (by simp [actCells]; decide) rfl (by decide)
  have hwY : Below w.heap.size w Y := by rw [hY]; exact (Below.refl _ _).alloc (Nat.le_refl _) _
  rw [← hY]
  have HOY := Lib.hid HO0
  have HWY := Lib.hid hwY
  have hzY := hwY.size
  have HJ := Lib.hid (H0.out.below hwY)
  clear hY HO0 hwY HW H0
  obtain ⟨P, hP⟩ : ∃ P, P = w.heap.size := ⟨_, rfl⟩
  rw [← hP] at HOY
  have HP := Lib.hid hP
  simp only [← hP]
  clear hP
  refine (acts_any a0 len0 cap0 z0 45 Y HJ.out (by decide)).mono ?_
  rintro e w1 ⟨v1, rfl, ho1, hb1⟩
  (repeat (with_reducible (replace hb1 := Below.undrew hb1))); obtain ⟨hc1, hf1⟩ := bcell hb1; have hz1 := hb1.size; (repeat (first | rw [World.size_alloc] at hz1 | rw [World.size_drew] at hz1 | rw [World.size_setCell] at hz1)); (try have : w.heap.size < w1.heap.size := by omega); (try have : w.heap.size < w1.heap.size + 1 := by omega); (try have : w.heap.size < w1.heap.size + 1 + 1 := by omega); (try have : w.heap.size < w1.heap.size + 1 + 1 + 1 := by omega)
  obtain ⟨aa, ac, rfl⟩ := ho1.shape
  rw [List.length_map] at ho1 ⊢
  have HA1 := Lib.hid ho1
  have HO1 := Lib.hid (HOY.out.below hb1)
  have HW1 := Lib.hid (HWY.out.trans (hb1.mono hzY))
  have hal45 := actsOf_len z0 45
  have hP1 : P ≤ w1.heap.size := by rw [HP.out]; omega
  clear ho1 hb1 hc1 hf1 HJ HOY HWY
  go_wp2_with (at_builtin; refine stop_at ?_; intro G hG)
  rw [← hG.out]; clear hG G
  refine wpList_append_any rfl _ _ 39 32 9 72 _ rfl eiAct P _ (([(⟨1, 0, 0, 1 + h, 0⟩ : ActD)]).map actCells) rfl (HO1.out) _ ((actsOf z0 45).map actCells) rfl (HA1.out.sl) (by intro c hc; obtain ⟨r, _, rfl⟩ := List.mem_map.1 hc; exact actCells_one r) (by have h9 := hal45; (try simp only [List.length_map, List.length_cons, List.length_nil]); first | omega | (simp; omega)) (by decide) (by first | omega | (simp; done) | (simp; omega)) ?_
  intro v2 w2 hown2 hb2
  rw [← List.map_append] at hown2
  obtain ⟨xs2, hxs2⟩ : ∃ x : List ActD, x = ([(⟨1, 0, 0, 1 + h, 0⟩ : ActD)]) ++ (actsOf z0 45) := ⟨_, rfl⟩
  rw [← hxs2] at hown2
  have hl2 : xs2.length = ([(⟨1, 0, 0, 1 + h, 0⟩ : ActD)]).length + (actsOf z0 45).length := by rw [hxs2, List.length_append]
  have HX2 := Lib.hid hxs2
  clear hxs2
  have HL2 := Lib.hid hl2
  clear hl2
  obtain ⟨a2, cap2, rfl⟩ := hown2.shape
  rw [List.length_map] at hown2 ⊢
  have HO2 := Lib.hid hown2
  clear hown2
  obtain ⟨hc2, hf2⟩ := bcellB hb2; have hz2 := hb2.size; (repeat (first | rw [World.size_alloc] at hz2 | rw [World.size_drew] at hz2 | rw [World.size_setCell] at hz2)); (try have : w.heap.size < w2.heap.size := by omega); (try have : w.heap.size < w2.heap.size + 1 := by omega); (try have : w.heap.size < w2.heap.size + 1 + 1 := by omega); (try have : w.heap.size < w2.heap.size + 1 + 1 + 1 := by omega)
  have hx := HX2.out
  rw [← HTA.out] at hx
  subst hx
  have HW2 := Lib.hid (HW1.out.trans ((by rw [HP.out] at hb2; exact hb2) : Below w.heap.size w1 w2))
  have HW := HW2
  have HSl := Lib.hid HO2.out.sl
  clear hb2 hc2 hf2 HA1 HO1 HW1 HTA HO2 HL2 HX2 hal45
  go_wp2_with fail
  refine (routesTop_any a2 cap2 xs2.length xs2 w2 rfl HSl.out (by have := HAL.out; omega) HFT.out).mono ?_
  rintro e w3 ⟨v3, rfl, ho, hb⟩
  have HTr := Lib.hid (tend_ok TabOk.nil HFT.out)
  have HTL := Lib.hid (Nat.le_trans (tend_len TabOk.nil HFT.out) (by simpa using HAL.out) : (tend [] xs2).length ≤ 46)
  generalize tend [] xs2 = Lr at *
  replace HW := Lib.hid (HW.out.trans (hb.mono HW.out.size))
  obtain ⟨ar, cr, rfl⟩ := ho.shape
  rw [List.length_map] at ho ⊢
  have ur := ho.sl.lens.2.1
  have vr := ho.sl.lens.2.2
  have HSr := Lib.hid ho.sl
  obtain ⟨nr, hnr⟩ : ∃ n, n = (Lr).length := ⟨_, rfl⟩
  rw [← hnr] at HSr ur ⊢
  have HNr := Lib.hid hnr
  clear hnr
  clear ho hb
  have hLr : nr ≤ 46 := by rw [HNr.out]; exact HTL.out
  have HRr := Lib.hid (RtOk.of_tab HTr.out)
  have HPAr := Lib.hid (putAll_srt HTr.out)
  clear HSl HFT HAL HTL
  go_wp2_with (at_builtin; refine stop_at ?_; intro G hG)
  rw [← hG.out]; clear hG G
  refine wpList_append_any rfl _ _ 43 49 5 40 _ rfl eiRoute _ (.slice none 0 0) [] rfl (Wk.Own.nil _ _ _ _) (.slice ar nr cr) ((Lr).map routeCells) rfl HSr.out (by intro c hc; obtain ⟨r, _, rfl⟩ := List.mem_map.1 hc; exact routeCells_one r) (by have := HNr.out; simp; omega) (by decide) (Nat.le_refl _) ?_
  intro v4 w4 ho hb
  rw [List.nil_append] at ho
  replace HSr := Lib.hid (HSr.out.below hb)
  replace HW := Lib.hid (HW.out.trans (hb.mono HW.out.size))
  obtain ⟨ac1, cc1, rfl⟩ := ho.shape
  rw [List.length_map] at ho ⊢
  have uc1 := ho.sl.lens.2.1
  have vc1 := ho.sl.lens.2.2
  have HSc1 := Lib.hid ho.sl
  obtain ⟨nc1, hnc1⟩ : ∃ n, n = (Lr).length := ⟨_, rfl⟩
  rw [← hnc1] at HSc1 uc1 ⊢
  have HNc1 := Lib.hid hnc1
  clear hnc1
  have hqc1 : nc1 = nr := by rw [HNc1.out, HNr.out]
  rw [hqc1] at HSc1 uc1 ⊢
  clear hqc1 HNc1
  have HNc1 := HNr
  clear ho hb
  go_wp2_with fail
  refine (fewest_ret ac1 cc1 _ Lr w4 HNc1.out HSc1.out HRr.out HTZ.out).mono ?_
  rintro e w5 ⟨v5, ys, rfl, hsr, ho, hb⟩
  have HLK := Lib.hid (few_like HRr.out hsr HTZ.out)
  have HRf := Lib.hid (few_ok HRr.out hsr HTZ.out)
  have HFP := Lib.hid (few_pos HRr.out hsr HTZ.out)
  have HFL := Lib.hid (Nat.le_trans (few_len ys) (Nat.le_of_eq hsr.1.length_eq))
  clear hsr
  generalize fewL ys = Lf at *
  clear ys
  replace HSr := Lib.hid (HSr.out.below hb)
  replace HSc1 := Lib.hid (HSc1.out.below hb)
  replace HW := Lib.hid (HW.out.trans (hb.mono HW.out.size))
  obtain ⟨af, cf, rfl⟩ := ho.shape
  rw [List.length_map] at ho ⊢
  have uf := ho.sl.lens.2.1
  have vf := ho.sl.lens.2.2
  have HSf := Lib.hid ho.sl
  obtain ⟨nf, hnf⟩ : ∃ n, n = (Lf).length := ⟨_, rfl⟩
  rw [← hnf] at HSf uf ⊢
  have HNf := Lib.hid hnf
  clear hnf
  clear ho hb
  have hLf : nf ≤ 46 := by rw [HNf.out]; have := HFL.out; have := HNr.out; omega
  have HTF := Lib.hid (put_tab HRf.out)
  have HPL := Lib.hid (putAll_ok _ HRf.out rfl).2.2.2
  have HPF := Lib.hid (putAll_srt HTF.out)
  have HRX := Lib.hid (RtOk.of_tab HTF.out)
  have HLKX := Lib.hid ((likeB_iff HRX.out HRr.out).2 (like_put HRf.out HLK.out))
  obtain ⟨Lx, hLx⟩ : ∃ X, X = putAll Lf := ⟨_, rfl⟩
  have HLX := Lib.hid hLx.symm
  rw [← hLx] at HTF HPL HPF HRX HLKX
  clear hLx
  clear HSc1
  go_wp2_with (at_builtin; refine stop_at ?_; intro G hG)
  rw [← hG.out]; clear hG G
  refine wpList_append_any rfl _ _ 43 49 5 40 _ rfl eiRoute _ (.slice none 0 0) [] rfl (Wk.Own.nil _ _ _ _) (.slice ar nr cr) ((Lr).map routeCells) rfl HSr.out (by intro c hc; obtain ⟨r, _, rfl⟩ := List.mem_map.1 hc; exact routeCells_one r) (by have := HNr.out; simp; omega) (by decide) (Nat.le_refl _) ?_
  intro v6 w6 ho hb
  rw [List.nil_append] at ho
  replace HSr := Lib.hid (HSr.out.below hb)
  replace HSf := Lib.hid (HSf.out.below hb)
  replace HW := Lib.hid (HW.out.trans (hb.mono HW.out.size))
  obtain ⟨ac2, cc2, rfl⟩ := ho.shape
  rw [List.length_map] at ho ⊢
  have uc2 := ho.sl.lens.2.1
  have vc2 := ho.sl.lens.2.2
  have HSc2 := Lib.hid ho.sl
  obtain ⟨nc2, hnc2⟩ : ∃ n, n = (Lr).length := ⟨_, rfl⟩
  rw [← hnc2] at HSc2 uc2 ⊢
  have HNc2 := Lib.hid hnc2
  clear hnc2
  have hqc2 : nc2 = nr := by rw [HNc2.out, HNr.out]
  rw [hqc2] at HSc2 uc2 ⊢
  clear hqc2 HNc2
  have HNc2 := HNr
  clear ho hb
  go_wp2_with (at_builtin; refine stop_at ?_; intro G hG)
  rw [← hG.out]; clear hG G
  refine wpList_append_any rfl _ _ 43 49 5 40 _ rfl eiRoute _ (.slice none 0 0) [] rfl (Wk.Own.nil _ _ _ _) (.slice af nf cf) ((Lf).map routeCells) rfl HSf.out (by intro c hc; obtain ⟨r, _, rfl⟩ := List.mem_map.1 hc; exact routeCells_one r) (by have := HNf.out; simp; omega) (by decide) (Nat.le_refl _) ?_
  intro v7 w7 ho hb
  rw [List.nil_append] at ho
  replace HSr := Lib.hid (HSr.out.below hb)
  replace HSf := Lib.hid (HSf.out.below hb)
  replace HSc2 := Lib.hid (HSc2.out.below hb)
  replace HW := Lib.hid (HW.out.trans (hb.mono HW.out.size))
  obtain ⟨ac3, cc3, rfl⟩ := ho.shape
  rw [List.length_map] at ho ⊢
  have uc3 := ho.sl.lens.2.1
  have vc3 := ho.sl.lens.2.2
  have HSc3 := Lib.hid ho.sl
  obtain ⟨nc3, hnc3⟩ : ∃ n, n = (Lf).length := ⟨_, rfl⟩
  rw [← hnc3] at HSc3 uc3 ⊢
  have HNc3 := Lib.hid hnc3
  clear hnc3
  have hqc3 : nc3 = nf := by rw [HNc3.out, HNf.out]
  rw [hqc3] at HSc3 uc3 ⊢
  clear hqc3 HNc3
  have HNc3 := HNf
  clear ho hb
  go_wp2_with fail
  refine (ddiff_any ac2 cc2 _ ac3 cc3 _ Lr Lf w7 HNc2.out HNc3.out HSc2.out HSc3.out HRr.out HRf.out).mono ?_
  rintro e w8 ⟨v8, rfl, ho, hb⟩
  rw [HPAr.out, HLX.out] at ho
  replace HSr := Lib.hid (HSr.out.below hb)
  replace HSf := Lib.hid (HSf.out.below hb)
  replace HSc2 := Lib.hid (HSc2.out.below hb)
  replace HSc3 := Lib.hid (HSc3.out.below hb)
  replace HW := Lib.hid (HW.out.trans (hb.mono HW.out.size))
  obtain ⟨ad, cd, rfl⟩ := ho.shape
  rw [List.length_map] at ho ⊢
  have ud := ho.sl.lens.2.1
  have vd := ho.sl.lens.2.2
  have HSd := Lib.hid ho.sl
  obtain ⟨nd, hnd⟩ : ∃ n, n = (diffL Lr Lx).length := ⟨_, rfl⟩
  rw [← hnd] at HSd ud ⊢
  have HNd := Lib.hid hnd
  clear hnd
  clear ho hb
  have hdl : nd ≤ 92 := by rw [HNd.out]; have := diff_len Lr Lx; have := HPL.out; have := HNr.out; have := HNf.out; omega
  have HDO := Lib.hid (diff_ok HTr.out HTF.out)
  have HDA := Lib.hid (dif_all HTr.out HTF.out)
  clear HSc2
  clear HSc3
  go_wp2_with (at_builtin; refine stop_at ?_; intro G hG)
  rw [← hG.out]; clear hG G
  refine wpList_append_any rfl _ _ 43 49 5 40 _ rfl eiRoute _ (.slice none 0 0) [] rfl (Wk.Own.nil _ _ _ _) (.slice af nf cf) ((Lf).map routeCells) rfl HSf.out (by intro c hc; obtain ⟨r, _, rfl⟩ := List.mem_map.1 hc; exact routeCells_one r) (by have := HNf.out; simp; omega) (by decide) (Nat.le_refl _) ?_
  intro v9 w9 ho hb
  rw [List.nil_append] at ho
  replace HSr := Lib.hid (HSr.out.below hb)
  replace HSf := Lib.hid (HSf.out.below hb)
  replace HSd := Lib.hid (HSd.out.below hb)
  replace HW := Lib.hid (HW.out.trans (hb.mono HW.out.size))
  obtain ⟨ac4, cc4, rfl⟩ := ho.shape
  rw [List.length_map] at ho ⊢
  have uc4 := ho.sl.lens.2.1
  have vc4 := ho.sl.lens.2.2
  have HSc4 := Lib.hid ho.sl
  obtain ⟨nc4, hnc4⟩ : ∃ n, n = (Lf).length := ⟨_, rfl⟩
  rw [← hnc4] at HSc4 uc4 ⊢
  have HNc4 := Lib.hid hnc4
  clear hnc4
  have hqc4 : nc4 = nf := by rw [HNc4.out, HNf.out]
  rw [hqc4] at HSc4 uc4 ⊢
  clear hqc4 HNc4
  have HNc4 := HNf
  clear ho hb
  go_wp2_with (at_builtin; refine stop_at ?_; intro G hG)
  rw [← hG.out]; clear hG G
  refine wpList_append_any rfl _ _ 43 49 5 40 _ rfl eiRoute _ (.slice none 0 0) [] rfl (Wk.Own.nil _ _ _ _) (.slice ar nr cr) ((Lr).map routeCells) rfl HSr.out (by intro c hc; obtain ⟨r, _, rfl⟩ := List.mem_map.1 hc; exact routeCells_one r) (by have := HNr.out; simp; omega) (by decide) (Nat.le_refl _) ?_
  intro v10 w10 ho hb
  rw [List.nil_append] at ho
  replace HSr := Lib.hid (HSr.out.below hb)
  replace HSf := Lib.hid (HSf.out.below hb)
  replace HSd := Lib.hid (HSd.out.below hb)
  replace HSc4 := Lib.hid (HSc4.out.below hb)
  replace HW := Lib.hid (HW.out.trans (hb.mono HW.out.size))
  obtain ⟨ac5, cc5, rfl⟩ := ho.shape
  rw [List.length_map] at ho ⊢
  have uc5 := ho.sl.lens.2.1
  have vc5 := ho.sl.lens.2.2
  have HSc5 := Lib.hid ho.sl
  obtain ⟨nc5, hnc5⟩ : ∃ n, n = (Lr).length := ⟨_, rfl⟩
  rw [← hnc5] at HSc5 uc5 ⊢
  have HNc5 := Lib.hid hnc5
  clear hnc5
  have hqc5 : nc5 = nr := by rw [HNc5.out, HNr.out]
  rw [hqc5] at HSc5 uc5 ⊢
  clear hqc5 HNc5
  have HNc5 := HNr
  clear ho hb
  go_wp2_with fail
  refine (ddiff_any ac4 cc4 _ ac5 cc5 _ Lf Lr w10 HNc4.out HNc5.out HSc4.out HSc5.out HRf.out HRr.out).mono ?_
  rintro e w11 ⟨v11, rfl, ho, hb⟩
  rw [HPAr.out, HLX.out] at ho
  replace HSr := Lib.hid (HSr.out.below hb)
  replace HSf := Lib.hid (HSf.out.below hb)
  replace HSd := Lib.hid (HSd.out.below hb)
  replace HSc4 := Lib.hid (HSc4.out.below hb)
  replace HSc5 := Lib.hid (HSc5.out.below hb)
  replace HW := Lib.hid (HW.out.trans (hb.mono HW.out.size))
  obtain ⟨ab, cb, rfl⟩ := ho.shape
  rw [List.length_map] at ho ⊢
  have ub := ho.sl.lens.2.1
  have vb := ho.sl.lens.2.2
  have HSb := Lib.hid ho.sl
  obtain ⟨nb, hnb⟩ : ∃ n, n = (diffL Lx Lr).length := ⟨_, rfl⟩
  rw [← hnb] at HSb ub ⊢
  have HNb := Lib.hid hnb
  clear hnb
  clear ho hb
  have hbl : nb ≤ 92 := by rw [HNb.out]; have := diff_len Lx Lr; have := HPL.out; have := HNr.out; have := HNf.out; omega
  have HBO := Lib.hid (diff_ok HTF.out HTr.out)
  have HBA := Lib.hid (dif_all HTF.out HTr.out)
  clear HSc4
  clear HSc5
  go_wp2_with (at_builtin; refine stop_at ?_; intro G hG)
  rw [← hG.out]; clear hG G
  refine wpList_append_any rfl _ _ 43 49 5 40 _ rfl eiRoute _ (.slice none 0 0) [] rfl (Wk.Own.nil _ _ _ _) (.slice ar nr cr) ((Lr).map routeCells) rfl HSr.out (by intro c hc; obtain ⟨r, _, rfl⟩ := List.mem_map.1 hc; exact routeCells_one r) (by have := HNr.out; simp; omega) (by decide) (Nat.le_refl _) ?_
  intro v12 w12 ho hb
  rw [List.nil_append] at ho
  replace HSr := Lib.hid (HSr.out.below hb)
  replace HSf := Lib.hid (HSf.out.below hb)
  replace HSd := Lib.hid (HSd.out.below hb)
  replace HSb := Lib.hid (HSb.out.below hb)
  replace HW := Lib.hid (HW.out.trans (hb.mono HW.out.size))
  obtain ⟨ac6, cc6, rfl⟩ := ho.shape
  rw [List.length_map] at ho ⊢
  have uc6 := ho.sl.lens.2.1
  have vc6 := ho.sl.lens.2.2
  have HSc6 := Lib.hid ho.sl
  obtain ⟨nc6, hnc6⟩ : ∃ n, n = (Lr).length := ⟨_, rfl⟩
  rw [← hnc6] at HSc6 uc6 ⊢
  have HNc6 := Lib.hid hnc6
  clear hnc6
  have hqc6 : nc6 = nr := by rw [HNc6.out, HNr.out]
  rw [hqc6] at HSc6 uc6 ⊢
  clear hqc6 HNc6
  have HNc6 := HNr
  clear ho hb
  go_wp2_with fail
  refine (dapply_any ac6 cc6 _ ad cd _ Lr (diffL Lr Lx) w12 HNc6.out HNd.out HSc6.out HSd.out HRr.out (by rw [← HNd.out]; omega) HDO.out (by rw [HPAr.out]; exact HDA.out.1)).mono ?_
  rintro e w13 ⟨v13, rfl, ho, hb⟩
  rw [HPAr.out, HDA.out.2] at ho
  replace HSr := Lib.hid (HSr.out.below hb)
  replace HSf := Lib.hid (HSf.out.below hb)
  replace HSd := Lib.hid (HSd.out.below hb)
  replace HSb := Lib.hid (HSb.out.below hb)
  replace HSc6 := Lib.hid (HSc6.out.below hb)
  replace HW := Lib.hid (HW.out.trans (hb.mono HW.out.size))
  obtain ⟨ax, cx, rfl⟩ := ho.shape
  rw [List.length_map] at ho ⊢
  have ux := ho.sl.lens.2.1
  have vx := ho.sl.lens.2.2
  have HSx := Lib.hid ho.sl
  obtain ⟨nx, hnx⟩ : ∃ n, n = (Lx).length := ⟨_, rfl⟩
  rw [← hnx] at HSx ux ⊢
  have HNx := Lib.hid hnx
  clear hnx
  clear ho hb
  have HXL : Hid (nx = nf) := Lib.hid (by rw [HNx.out, HPL.out, HNf.out])
  have hx46 : nx ≤ 46 := by rw [HXL.out]; exact hLf
  clear HSc6
  clear HSd
  go_wp2_with (at_builtin; refine stop_at ?_; intro G hG)
  rw [← hG.out]; clear hG G
  refine wpList_append_any rfl _ _ 43 49 5 40 _ rfl eiRoute _ (.slice none 0 0) [] rfl (Wk.Own.nil _ _ _ _) (.slice ax nx cx) ((Lx).map routeCells) rfl HSx.out (by intro c hc; obtain ⟨r, _, rfl⟩ := List.mem_map.1 hc; exact routeCells_one r) (by have := HNx.out; simp; omega) (by decide) (Nat.le_refl _) ?_
  intro v14 w14 ho hb
  rw [List.nil_append] at ho
  replace HSr := Lib.hid (HSr.out.below hb)
  replace HSf := Lib.hid (HSf.out.below hb)
  replace HSb := Lib.hid (HSb.out.below hb)
  replace HSx := Lib.hid (HSx.out.below hb)
  replace HW := Lib.hid (HW.out.trans (hb.mono HW.out.size))
  obtain ⟨ac7, cc7, rfl⟩ := ho.shape
  rw [List.length_map] at ho ⊢
  have uc7 := ho.sl.lens.2.1
  have vc7 := ho.sl.lens.2.2
  have HSc7 := Lib.hid ho.sl
  obtain ⟨nc7, hnc7⟩ : ∃ n, n = (Lx).length := ⟨_, rfl⟩
  rw [← hnc7] at HSc7 uc7 ⊢
  have HNc7 := Lib.hid hnc7
  clear hnc7
  have hqc7 : nc7 = nx := by rw [HNc7.out, HNx.out]
  rw [hqc7] at HSc7 uc7 ⊢
  clear hqc7 HNc7
  have HNc7 := HNx
  clear ho hb
  go_wp2_with fail
  refine (dapply_any ac7 cc7 _ ab cb _ Lx (diffL Lx Lr) w14 HNc7.out HNb.out HSc7.out HSb.out HRX.out (by rw [← HNb.out]; omega) HBO.out (by rw [HPF.out]; exact HBA.out.1)).mono ?_
  rintro e w15 ⟨v15, rfl, ho, hb⟩
  rw [HPF.out, HBA.out.2] at ho
  replace HSr := Lib.hid (HSr.out.below hb)
  replace HSf := Lib.hid (HSf.out.below hb)
  replace HSb := Lib.hid (HSb.out.below hb)
  replace HSx := Lib.hid (HSx.out.below hb)
  replace HSc7 := Lib.hid (HSc7.out.below hb)
  replace HW := Lib.hid (HW.out.trans (hb.mono HW.out.size))
  obtain ⟨ay, cy, rfl⟩ := ho.shape
  rw [List.length_map] at ho ⊢
  have uy := ho.sl.lens.2.1
  have vy := ho.sl.lens.2.2
  have HSy := Lib.hid ho.sl
  obtain ⟨ny, hny⟩ : ∃ n, n = (Lr).length := ⟨_, rfl⟩
  rw [← hny] at HSy uy ⊢
  have HNy := Lib.hid hny
  clear hny
  clear ho hb
  clear HSc7
  clear HSb
  have hPx : 0 < nx := by rw [HXL.out, HNf.out]; exact HFP.out
  go_wp2_with fail
  refine (fsame_any ax ar cx cr nx nr Lx Lr w15 HNx.out HNr.out HSx.out HSr.out HRX.out HRr.out hPx).mono ?_
  rintro e w16 ⟨rfl, hb⟩
  rw [HLKX.out]
  replace HSr := Lib.hid (HSr.out.below hb)
  replace HSf := Lib.hid (HSf.out.below hb)
  replace HSx := Lib.hid (HSx.out.below hb)
  replace HSy := Lib.hid (HSy.out.below hb)
  replace HW := Lib.hid (HW.out.trans (hb.mono HW.out.size))
  clear hb
  go_wp2_with fail
  refine (sameTop_yes _ _ _ _ _ _ Lr w16 HNy.out HNr.out HSy.out HSr.out).mono ?_
  rintro e w17 ⟨rfl, hb⟩
  replace HSr := Lib.hid (HSr.out.below hb)
  replace HSf := Lib.hid (HSf.out.below hb)
  replace HSx := Lib.hid (HSx.out.below hb)
  replace HSy := Lib.hid (HSy.out.below hb)
  replace HW := Lib.hid (HW.out.trans (hb.mono HW.out.size))
  clear hb
  clear HSr HSx HSy HSf
  have hxl := HXL.out
  subst hxl
  go_wp2
  go_returns
  exact ⟨by simp, HW.out⟩
end Go.Proofs.Ytoecmoicaklbaaa
