
/- DeltaBack: the walk. -/
import Derived.Test.YteadfobfenopkaaDelX
set_option linter.unusedVariables false
set_option linter.unusedSimpArgs false
namespace Go.Proofs.Yteadfobfenopkaa
open Go Go.RowKit Go.Sort Wc Wk

theorem diff_nil {L M : List (Nat × Nat × Nat)} (t : TabOk L) (s : TabOk M) (h : (diffL L M).length = 0) : L = M := by
  have := (dif_all t s).2
  rw [List.eq_nil_of_length_eq_zero h] at this
  exact this

set_option maxRecDepth 100000 in
set_option maxHeartbeats 8000000 in
theorem deltaBack_walk (a0 : Option Addr) (len0 cap0 : Nat) (z0 : List RawJ) (a1 : Option Addr) (len1 cap1 : Nat) (z1 : List RawJ) (ct : Int) (w : World) (h0 : IsJobs w a0 len0 cap0 z0) (h1 : IsJobs w a1 len1 cap1 z1) (hk : -9223372036854775808 ≤ ct ∧ ct ≤ 9223372036854775807) :
    Calls Try.prog 6 #[.slice a0 len0 cap0, .slice a1 len1 cap1, .int .i64 ct] w fun e w' => e = .returned (.bool true) ∧ Below w.heap.size w w' := by
  have H0 := Lib.hid h0
  have H1 := Lib.hid h1
  have HW := Lib.hid (Below.refl w.heap.size w)
  clear h0 h1
  go_enter Try.func6, Try.ntmps6
  go_wp2_with fail
  refine (acts_any a0 len0 cap0 z0 40 w H0.out (by decide)).mono ?_
  rintro e w1 ⟨v1, rfl, ho, hb⟩
  have HFTp := Lib.hid (fun x (hx : x ∈ actsOf z0 40) => actsOf_fit x hx)
  have hbp : (actsOf z0 40).length ≤ 40 := actsOf_len z0 40
  generalize actsOf z0 40 = alp at *
  replace H0 := Lib.hid (H0.out.below hb)
  replace H1 := Lib.hid (H1.out.below hb)
  replace HW := Lib.hid (HW.out.trans (hb.mono HW.out.size))
  obtain ⟨ap, cp, rfl⟩ := ho.shape
  rw [List.length_map] at ho ⊢
  have up := ho.sl.lens.2.1
  have vp := ho.sl.lens.2.2
  have HSp := Lib.hid ho.sl
  obtain ⟨np, hnp⟩ : ∃ n, n = (alp).length := ⟨_, rfl⟩
  rw [← hnp] at HSp up ⊢
  have HNp := Lib.hid hnp
  clear hnp
  have hqp : np ≤ 40 := by rw [HNp.out]; exact hbp
  clear ho hb
  go_wp2_with fail
  refine (routesOf_any ap cp np alp w1 HNp.out HSp.out (by have := HNp.out; omega) HFTp.out).mono ?_
  rintro e w2 ⟨v2, rfl, ho, hb⟩
  have HTa := Lib.hid (tend_ok TabOk.nil HFTp.out)
  have HLQa := Lib.hid (tend_len (L := []) TabOk.nil HFTp.out)
  generalize tend [] alp = La at *
  replace HSp := Lib.hid (HSp.out.below hb)
  replace H0 := Lib.hid (H0.out.below hb)
  replace H1 := Lib.hid (H1.out.below hb)
  replace HW := Lib.hid (HW.out.trans (hb.mono HW.out.size))
  obtain ⟨aa, ca, rfl⟩ := ho.shape
  rw [List.length_map] at ho ⊢
  have ua := ho.sl.lens.2.1
  have va := ho.sl.lens.2.2
  have HSa := Lib.hid ho.sl
  obtain ⟨na, hna⟩ : ∃ n, n = (La).length := ⟨_, rfl⟩
  rw [← hna] at HSa ua ⊢
  have HNa := Lib.hid hna
  clear hna
  clear ho hb
  have hLa : na ≤ 60 := by rw [HNa.out]; exact HTa.out.len
  have HRa := Lib.hid (RtOk.of_tab HTa.out)
  have HPAa := Lib.hid (putAll_srt HTa.out)
  clear HSp
  go_wp2_with fail
  refine (acts_any a1 len1 cap1 z1 40 w2 H1.out (by decide)).mono ?_
  rintro e w3 ⟨v3, rfl, ho, hb⟩
  have HFTq := Lib.hid (fun x (hx : x ∈ actsOf z1 40) => actsOf_fit x hx)
  have hbq : (actsOf z1 40).length ≤ 40 := actsOf_len z1 40
  generalize actsOf z1 40 = alq at *
  replace HSa := Lib.hid (HSa.out.below hb)
  replace H0 := Lib.hid (H0.out.below hb)
  replace H1 := Lib.hid (H1.out.below hb)
  replace HW := Lib.hid (HW.out.trans (hb.mono HW.out.size))
  obtain ⟨aq, cq, rfl⟩ := ho.shape
  rw [List.length_map] at ho ⊢
  have uq := ho.sl.lens.2.1
  have vq := ho.sl.lens.2.2
  have HSq := Lib.hid ho.sl
  obtain ⟨nq, hnq⟩ : ∃ n, n = (alq).length := ⟨_, rfl⟩
  rw [← hnq] at HSq uq ⊢
  have HNq := Lib.hid hnq
  clear hnq
  have hqq : nq ≤ 40 := by rw [HNq.out]; exact hbq
  clear ho hb
  go_wp2_with fail
  refine (routesOf_any aq cq nq alq w3 HNq.out HSq.out (by have := HNq.out; omega) HFTq.out).mono ?_
  rintro e w4 ⟨v4, rfl, ho, hb⟩
  have HTb := Lib.hid (tend_ok TabOk.nil HFTq.out)
  have HLQb := Lib.hid (tend_len (L := []) TabOk.nil HFTq.out)
  generalize tend [] alq = Lb at *
  replace HSa := Lib.hid (HSa.out.below hb)
  replace HSq := Lib.hid (HSq.out.below hb)
  replace H0 := Lib.hid (H0.out.below hb)
  replace H1 := Lib.hid (H1.out.below hb)
  replace HW := Lib.hid (HW.out.trans (hb.mono HW.out.size))
  obtain ⟨ab, cb, rfl⟩ := ho.shape
  rw [List.length_map] at ho ⊢
  have ub := ho.sl.lens.2.1
  have vb := ho.sl.lens.2.2
  have HSb := Lib.hid ho.sl
  obtain ⟨nb, hnb⟩ : ∃ n, n = (Lb).length := ⟨_, rfl⟩
  rw [← hnb] at HSb ub ⊢
  have HNb := Lib.hid hnb
  clear hnb
  clear ho hb
  have hLb : nb ≤ 60 := by rw [HNb.out]; exact HTb.out.len
  have HRb := Lib.hid (RtOk.of_tab HTb.out)
  have HPAb := Lib.hid (putAll_srt HTb.out)
  have hqa : na ≤ 40 := by rw [HNa.out]; have := HLQa.out; have := HNp.out; simp at *; omega
  have hqb : nb ≤ 40 := by rw [HNb.out]; have := HLQb.out; have := HNq.out; simp at *; omega
  clear HSq
  go_wp2_with (at_builtin; refine stop_at ?_; intro G hG)
  rw [← hG.out]; clear hG G
  refine wpList_append_any rfl _ _ 41 53 5 40 _ rfl eiRoute _ (.slice none 0 0) [] rfl (Wk.Own.nil _ _ _ _) (.slice aa na ca) ((La).map routeCells) rfl HSa.out (by intro c hc; obtain ⟨r, _, rfl⟩ := List.mem_map.1 hc; exact routeCells_one r) (by have := HNa.out; simp; omega) (by decide) (Nat.le_refl _) ?_
  intro v5 w5 ho hb
  rw [List.nil_append] at ho
  replace HSa := Lib.hid (HSa.out.below hb)
  replace HSb := Lib.hid (HSb.out.below hb)
  replace HW := Lib.hid (HW.out.trans (hb.mono HW.out.size))
  obtain ⟨ac1, cc1, rfl⟩ := ho.shape
  rw [List.length_map] at ho ⊢
  have uc1 := ho.sl.lens.2.1
  have vc1 := ho.sl.lens.2.2
  have HSc1 := Lib.hid ho.sl
  obtain ⟨nc1, hnc1⟩ : ∃ n, n = (La).length := ⟨_, rfl⟩
  rw [← hnc1] at HSc1 uc1 ⊢
  have HNc1 := Lib.hid hnc1
  clear hnc1
  have hqc1 : nc1 = na := by rw [HNc1.out, HNa.out]
  rw [hqc1] at HSc1 uc1 ⊢
  clear hqc1 HNc1
  have HNc1 := HNa
  clear ho hb
  go_wp2_with (at_builtin; refine stop_at ?_; intro G hG)
  rw [← hG.out]; clear hG G
  refine wpList_append_any rfl _ _ 41 53 5 40 _ rfl eiRoute _ (.slice none 0 0) [] rfl (Wk.Own.nil _ _ _ _) (.slice ab nb cb) ((Lb).map routeCells) rfl HSb.out (by intro c hc; obtain ⟨r, _, rfl⟩ := List.mem_map.1 hc; exact routeCells_one r) (by have := HNb.out; simp; omega) (by decide) (Nat.le_refl _) ?_
  intro v6 w6 ho hb
  rw [List.nil_append] at ho
  replace HSa := Lib.hid (HSa.out.below hb)
  replace HSb := Lib.hid (HSb.out.below hb)
  replace HSc1 := Lib.hid (HSc1.out.below hb)
  replace HW := Lib.hid (HW.out.trans (hb.mono HW.out.size))
  obtain ⟨ac2, cc2, rfl⟩ := ho.shape
  rw [List.length_map] at ho ⊢
  have uc2 := ho.sl.lens.2.1
  have vc2 := ho.sl.lens.2.2
  have HSc2 := Lib.hid ho.sl
  obtain ⟨nc2, hnc2⟩ : ∃ n, n = (Lb).length := ⟨_, rfl⟩
  rw [← hnc2] at HSc2 uc2 ⊢
  have HNc2 := Lib.hid hnc2
  clear hnc2
  have hqc2 : nc2 = nb := by rw [HNc2.out, HNb.out]
  rw [hqc2] at HSc2 uc2 ⊢
  clear hqc2 HNc2
  have HNc2 := HNb
  clear ho hb
  go_wp2_with fail
  refine (ddiff_any ac1 cc1 _ ac2 cc2 _ La Lb w6 HNc1.out HNc2.out HSc1.out HSc2.out HRa.out HRb.out).mono ?_
  rintro e w7 ⟨v7, rfl, ho, hb⟩
  rw [HPAa.out, HPAb.out] at ho
  have HOd0 := Lib.hid ho
  replace HSa := Lib.hid (HSa.out.below hb)
  replace HSb := Lib.hid (HSb.out.below hb)
  replace HSc1 := Lib.hid (HSc1.out.below hb)
  replace HSc2 := Lib.hid (HSc2.out.below hb)
  replace HW := Lib.hid (HW.out.trans (hb.mono HW.out.size))
  obtain ⟨ad, cd, rfl⟩ := ho.shape
  rw [List.length_map] at ho ⊢
  have ud := ho.sl.lens.2.1
  have vd := ho.sl.lens.2.2
  have HSd := Lib.hid ho.sl
  obtain ⟨nd, hnd⟩ : ∃ n, n = (diffL La Lb).length := ⟨_, rfl⟩
  rw [← hnd] at HSd ud ⊢
  have HNd := Lib.hid hnd
  clear hnd
  clear ho hb
  clear HSc1
  clear HSc2
  have HOd : Hid (Wk.Own w7 w6.heap.size 35 9 (.slice ad nd cd) ((diffL La Lb).map actCells)) := Lib.hid (by have := HOd0.out; rw [List.length_map, ← HNd.out] at this; exact this)
  clear HOd0
  have hqd : nd ≤ 80 := by rw [HNd.out]; have := diff_len La Lb; have := HNa.out; have := HNb.out; omega
  go_wp2_with (at_builtin; refine stop_at ?_; intro G hG)
  rw [← hG.out]; clear hG G
  refine wpList_append_any rfl _ _ 41 53 5 40 _ rfl eiRoute _ (.slice none 0 0) [] rfl (Wk.Own.nil _ _ _ _) (.slice aa na ca) ((La).map routeCells) rfl HSa.out (by intro c hc; obtain ⟨r, _, rfl⟩ := List.mem_map.1 hc; exact routeCells_one r) (by have := HNa.out; simp; omega) (by decide) (Nat.le_refl _) ?_
  intro v8 w8 ho hb
  rw [List.nil_append] at ho
  replace HSa := Lib.hid (HSa.out.below hb)
  replace HSb := Lib.hid (HSb.out.below hb)
  replace HSd := Lib.hid (HSd.out.below hb)
  replace HOd := Lib.hid (HOd.out.below hb)
  replace HW := Lib.hid (HW.out.trans (hb.mono HW.out.size))
  obtain ⟨ac3, cc3, rfl⟩ := ho.shape
  rw [List.length_map] at ho ⊢
  have uc3 := ho.sl.lens.2.1
  have vc3 := ho.sl.lens.2.2
  have HSc3 := Lib.hid ho.sl
  obtain ⟨nc3, hnc3⟩ : ∃ n, n = (La).length := ⟨_, rfl⟩
  rw [← hnc3] at HSc3 uc3 ⊢
  have HNc3 := Lib.hid hnc3
  clear hnc3
  have hqc3 : nc3 = na := by rw [HNc3.out, HNa.out]
  rw [hqc3] at HSc3 uc3 ⊢
  clear hqc3 HNc3
  have HNc3 := HNa
  clear ho hb
  go_wp2_with (at_builtin; refine stop_at ?_; intro G hG)
  rw [← hG.out]; clear hG G
  refine wpList_append_any rfl _ _ 28 35 9 72 _ rfl eiAct _ (.slice none 0 0) [] rfl (Wk.Own.nil _ _ _ _) (.slice ad nd cd) ((diffL La Lb).map actCells) rfl HSd.out (by intro c hc; obtain ⟨r, _, rfl⟩ := List.mem_map.1 hc; exact actCells_one r) (by have := HNd.out; simp; omega) (by decide) (Nat.le_refl _) ?_
  intro v9 w9 ho hb
  rw [List.nil_append] at ho
  replace HSa := Lib.hid (HSa.out.below hb)
  replace HSb := Lib.hid (HSb.out.below hb)
  replace HSd := Lib.hid (HSd.out.below hb)
  replace HSc3 := Lib.hid (HSc3.out.below hb)
  replace HOd := Lib.hid (HOd.out.below hb)
  replace HW := Lib.hid (HW.out.trans (hb.mono HW.out.size))
  obtain ⟨ac4, cc4, rfl⟩ := ho.shape
  rw [List.length_map] at ho ⊢
  have uc4 := ho.sl.lens.2.1
  have vc4 := ho.sl.lens.2.2
  have HSc4 := Lib.hid ho.sl
  obtain ⟨nc4, hnc4⟩ : ∃ n, n = (diffL La Lb).length := ⟨_, rfl⟩
  rw [← hnc4] at HSc4 uc4 ⊢
  have HNc4 := Lib.hid hnc4
  clear hnc4
  have hqc4 : nc4 = nd := by rw [HNc4.out, HNd.out]
  rw [hqc4] at HSc4 uc4 ⊢
  clear hqc4 HNc4
  have HNc4 := HNd
  clear ho hb
  go_wp2_with fail
  refine (dapply_any ac3 cc3 _ ac4 cc4 _ La (diffL La Lb) w9 HNc3.out HNc4.out HSc3.out HSc4.out HRa.out (by rw [← HNd.out]; omega) (diff_ok HTa.out HTb.out) (by rw [HPAa.out]; exact (dif_all HTa.out HTb.out).1)).mono ?_
  rintro e w10 ⟨v10, rfl, ho, hb⟩
  rw [HPAa.out, (dif_all HTa.out HTb.out).2] at ho
  replace HSa := Lib.hid (HSa.out.below hb)
  replace HSb := Lib.hid (HSb.out.below hb)
  replace HSd := Lib.hid (HSd.out.below hb)
  replace HSc3 := Lib.hid (HSc3.out.below hb)
  replace HSc4 := Lib.hid (HSc4.out.below hb)
  replace HOd := Lib.hid (HOd.out.below hb)
  replace HW := Lib.hid (HW.out.trans (hb.mono HW.out.size))
  obtain ⟨ac, cc, rfl⟩ := ho.shape
  rw [List.length_map] at ho ⊢
  have uc := ho.sl.lens.2.1
  have vc := ho.sl.lens.2.2
  have HSc := Lib.hid ho.sl
  obtain ⟨nc, hnc⟩ : ∃ n, n = (Lb).length := ⟨_, rfl⟩
  rw [← hnc] at HSc uc ⊢
  have HNc := Lib.hid hnc
  clear hnc
  clear ho hb
  clear HSc3
  clear HSc4
  go_wp2_with fail
  refine (same_yes _ _ _ _ _ _ Lb w10 HNc.out HNb.out HSc.out HSb.out).mono ?_
  rintro e w11 ⟨rfl, hb⟩
  replace HSa := Lib.hid (HSa.out.below hb)
  replace HSb := Lib.hid (HSb.out.below hb)
  replace HSd := Lib.hid (HSd.out.below hb)
  replace HSc := Lib.hid (HSc.out.below hb)
  replace HOd := Lib.hid (HOd.out.below hb)
  replace HW := Lib.hid (HW.out.trans (hb.mono HW.out.size))
  clear hb
  clear HSc
  by_cases hd0 : nd = 0
  · have HLL := Lib.hid (diff_nil HTa.out HTb.out (by rw [← HNd.out]; exact hd0))
    subst hd0
    go_wp2_with fail
    refine (same_yes _ _ _ _ _ _ La w11 HNa.out (by rw [HLL.out]; exact HNb.out) HSa.out (by rw [HLL.out]; exact HSb.out)).mono ?_
    rintro e w12 ⟨rfl, hb⟩
    replace HSa := Lib.hid (HSa.out.below hb)
    replace HSb := Lib.hid (HSb.out.below hb)
    replace HW := Lib.hid (HW.out.trans (hb.mono HW.out.size))
    clear hb
    go_wp2
    go_returns
    exact ⟨rfl, HW.out⟩
  · have hd1 : ((nd : Int) == 0) = false := by rw [beq_eq_false_iff_ne]; omega
    have hd2 : ¬ ((nd : Int) = 0) := by omega
    have hdp : 0 < nd := by omega
    have PK := Lib.hid (fun w => picked_any ct (nd : Int) w (by omega) (by omega))
    have t0 := Int.emod_nonneg ct (show (nd : Int) ≠ 0 by omega)
    have t1 := Int.emod_lt_of_pos ct (show (0 : Int) < (nd : Int) by omega)
    obtain ⟨k, hk⟩ := Int.eq_ofNat_of_zero_le t0
    rw [hk] at PK t1
    clear hk t0 hd0
    have hkn : k < nd := by omega
    clear t1
    obtain ⟨HTK0, hs1⟩ := act_take HOd.out k (by omega)
    obtain ⟨ae, ce, HDR0, hs2⟩ := act_drop HOd.out (k + 1) (by omega)
    rw [show ((k + 1 : Nat) : Int) = (k : Int) + 1 by omega] at HDR0
    have HS1 := Lib.hid hs1
    have HS2 := Lib.hid hs2
    have HLE := Lib.hid (dif_less HTa.out HTb.out (by rw [← HNb.out]; omega) (i := k) (by rw [← HNd.out]; omega))
    have HF := Lib.hid (show ∀ x ∈ (diffL La Lb).take k ++ (diffL La Lb).drop (k + 1), x.fit ∧ (x.kind = 1 ∨ x.kind = 2) from fun x hx => diff_ok HTa.out HTb.out x (by
      rcases List.mem_append.1 hx with hx | hx
      · exact List.mem_of_mem_take hx
      · exact List.mem_of_mem_drop hx))
    have HL1 := Lib.hid (show k = ((diffL La Lb).take k).length by rw [List.length_take, ← HNd.out]; omega)
    have HL2 := Lib.hid (show nd - (k + 1) = ((diffL La Lb).drop (k + 1)).length by rw [List.length_drop, ← HNd.out])
    clear hs1 hs2
    generalize (diffL La Lb).take k = D1 at *
    generalize (diffL La Lb).drop (k + 1) = D2 at *
    generalize hq2 : nd - (k + 1) = q2 at *
    have hq25 : q2 + k ≤ 80 := by omega
    have hk80 : k ≤ 80 := by omega
    clear hq2
    go_wp2_with ((with_reducible refine (PK.out _).mono ?_); rintro e w' ⟨rfl, rfl⟩)
    go_upto_region 10 with fail
    go_cut [16] (fun vl wx => ∃ al cl, vl = .slice al (D1 ++ D2).length cl ∧ Hid (Wk.Own wx w11.heap.size 35 9 (.slice al (D1 ++ D2).length cl) ((D1 ++ D2).map actCells)) ∧ Hid (Below w11.heap.size w11 wx))
    case first =>
      have ew1 : IntKind.i64.wrap ((k : Int) + 1) = (k : Int) + 1 := IntWalk.i64_in _ (by omega)
      have hzw : w11.heap.size ≤ w11.heap.size := Nat.le_refl _
      refine wp_region_held_drew (S := (fun w' => Below w11.heap.size w11 w')) (by kernel_rfl) ?_ (fun hHeld => ?_)
      · ((try dsimp only); (repeat' (first | (with_reducible exact Below.refl _ _) | (with_reducible assumption) | (with_reducible refine Below.alloc ?_ ?_ _) | (with_reducible refine Below.drew ?_) | (with_reducible refine Below.stepG ?_ (by assumption) ?_) | (with_reducible refine Below.setCell ?_ ?_ _) | omega | (dsimp only; omega) | (simp; done) | (simp; omega))))
      (refine wpAnyH_take (i := 0) (oi := _) (v := ?_) (by simp only [List.getElem?_toArray, List.getElem?_cons_zero, List.getElem?_cons_succ]; rfl) (by kernel_rfl) (by decide +kernel) (by decide +kernel) (by exact fun _ _ _ h => h) (Or.inl ⟨by rfl, ?_⟩) (by assumption) ?_; rotate_left; (· ((intro w hSw); (have hSc := Below.cellAt hSw); clear hSw; go_simp; (try with_reducible rfl))); (try simp only [Act.put, List.setIfInBounds_toArray, List.set_cons_zero, List.set_cons_succ]))
      (refine wpAnyH_take (i := 1) (oi := _) (v := ?_) (by simp only [List.getElem?_toArray, List.getElem?_cons_zero, List.getElem?_cons_succ]; rfl) (by kernel_rfl) (by decide +kernel) (by decide +kernel) (by exact fun _ _ _ h => h) (Or.inl ⟨by rfl, ?_⟩) (by assumption) ?_; rotate_left; (· ((intro w hSw); (have hSc := Below.cellAt hSw); clear hSw; go_simp; (try with_reducible rfl))); (try simp only [Act.put, List.setIfInBounds_toArray, List.set_cons_zero, List.set_cons_succ]))
      (refine wpAnyH_take (i := 2) (oi := _) (v := ?_) (by simp only [List.getElem?_toArray, List.getElem?_cons_zero, List.getElem?_cons_succ]; rfl) (by kernel_rfl) (by decide +kernel) (by decide +kernel) (by exact fun _ _ _ h => h) (Or.inl ⟨by rfl, ?_⟩) (by assumption) ?_; rotate_left; (· ((intro w hSw); (have hSc := Below.cellAt hSw); clear hSw; go_simp; (try with_reducible rfl))); (try simp only [Act.put, List.setIfInBounds_toArray, List.set_cons_zero, List.set_cons_succ]))
      (refine wpAnyH_take (i := 4) (oi := _) (v := ?_) (by simp only [List.getElem?_toArray, List.getElem?_cons_zero, List.getElem?_cons_succ]; rfl) (by kernel_rfl) (by decide +kernel) (by decide +kernel) (by exact fun _ _ _ h => h) (Or.inl ⟨by rfl, ?_⟩) (by assumption) ?_; rotate_left; (· ((intro w hSw); (have hSc := Below.cellAt hSw); clear hSw; go_simp; (try with_reducible rfl))); (try simp only [Act.put, List.setIfInBounds_toArray, List.set_cons_zero, List.set_cons_succ]))
      (refine wpAnyH_take (i := 5) (oi := _) (v := ?_) (by simp only [List.getElem?_toArray, List.getElem?_cons_zero, List.getElem?_cons_succ]; rfl) (by kernel_rfl) (by decide +kernel) (by decide +kernel) (by exact fun _ _ _ h => h) (Or.inl ⟨by rfl, ?_⟩) (by assumption) ?_; rotate_left; (· ((intro w hSw); (have hSc := Below.cellAt hSw); clear hSw; go_simp; (try with_reducible rfl))); (try simp only [Act.put, List.setIfInBounds_toArray, List.set_cons_zero, List.set_cons_succ]))
      (refine wpAnyH_take (i := 6) (oi := _) (v := ?_) (by simp only [List.getElem?_toArray, List.getElem?_cons_zero, List.getElem?_cons_succ]; rfl) (by kernel_rfl) (by decide +kernel) (by decide +kernel) (by exact fun _ _ _ h => h) (Or.inl ⟨by rfl, ?_⟩) (by assumption) ?_; rotate_left; (· ((intro w hSw); (have hSc := Below.cellAt hSw); clear hSw; go_simp; (try with_reducible rfl))); (try simp only [Act.put, List.setIfInBounds_toArray, List.set_cons_zero, List.set_cons_succ]))
      (refine wpAnyH_take (i := 7) (oi := _) (v := ?_) (by simp only [List.getElem?_toArray, List.getElem?_cons_zero, List.getElem?_cons_succ]; rfl) (by kernel_rfl) (by decide +kernel) (by decide +kernel) (by exact fun _ _ _ h => h) (Or.inl ⟨by rfl, ?_⟩) (by assumption) ?_; rotate_left; (· ((intro w hSw); (have hSc := Below.cellAt hSw); clear hSw; go_simp; (try with_reducible rfl))); (try simp only [Act.put, List.setIfInBounds_toArray, List.set_cons_zero, List.set_cons_succ]))
      repeat' (first
        | (refine wpAnyH_take (i := 9) (oi := _) (v := ?_) (by simp only [List.getElem?_toArray, List.getElem?_cons_zero, List.getElem?_cons_succ]; rfl) (by kernel_rfl) (by decide +kernel) (by decide +kernel) (by exact fun _ _ _ h => h) (Or.inl ⟨by rfl, ?_⟩) (by assumption) ?_; rotate_left; (· ((intro w hSw); (have hSc := Below.cellAt hSw); clear hSw; go_simp; (try with_reducible rfl))); (try simp only [Act.put, List.setIfInBounds_toArray, List.set_cons_zero, List.set_cons_succ]))
        | (refine wpAnyH_ready (rs := [3]) (by decide +kernel) (by simp) (AllReadyH.cons (by simp only [List.getElem?_toArray, List.getElem?_cons_zero, List.getElem?_cons_succ]; rfl) (fun K hK => ?_) AllReadyH.nil); all_goals ((first | (refine step_append_any rfl (.const (.slice none 0 0)) (.tmp 79) 28 35 9 72 _ rfl eiAct _ (.slice none 0 0) [] rfl (Wk.Own.nil _ _ _ _) (.slice ad k cd) (D1.map actCells) rfl (HS1.out.below (by (repeat' (first | (with_reducible exact Below.refl _ _) | (with_reducible assumption) | (with_reducible refine Below.alloc ?_ ?_ _) | (with_reducible refine Below.drew ?_) | (with_reducible refine Below.stepG ?_ (by assumption) ?_) | (with_reducible refine Below.setCell ?_ ?_ _) | omega | (dsimp only; omega) | (simp; done) | (simp; omega))))) (by intro c hc; obtain ⟨r, _, rfl⟩ := List.mem_map.1 hc; exact actCells_one r) (by have := HL1.out; simp; omega) (by decide) (Nat.le_refl _) ?_; intro vA wA hownA hbA; have hsA := hbA.size; (try simp at hsA)) | (refine step_append_any rfl (.tmp 80) (.tmp 84) 28 35 9 72 _ rfl eiAct _ vA ([] ++ D1.map actCells) rfl (hownA.below (by (repeat' (first | (with_reducible exact Below.refl _ _) | (with_reducible assumption) | (with_reducible refine Below.alloc ?_ ?_ _) | (with_reducible refine Below.drew ?_) | (with_reducible refine Below.stepG ?_ (by assumption) ?_) | (with_reducible refine Below.setCell ?_ ?_ _) | omega | (dsimp only; omega) | (simp; done) | (simp; omega))))) (.slice ae q2 ce) (D2.map actCells) rfl (HS2.out.below (by (repeat' (first | (with_reducible exact Below.refl _ _) | (with_reducible assumption) | (with_reducible refine Below.alloc ?_ ?_ _) | (with_reducible refine Below.drew ?_) | (with_reducible refine Below.stepG ?_ (by assumption) ?_) | (with_reducible refine Below.setCell ?_ ?_ _) | omega | (dsimp only; omega) | (simp; done) | (simp; omega))))) (by intro c hc; obtain ⟨r, _, rfl⟩ := List.mem_map.1 hc; exact actCells_one r) (by have := HL1.out; have := HL2.out; simp; omega) (by decide) (by first | omega | (simp; omega)) ?_; intro vB wB hownB hbB; have hsB := hbB.size; (try simp at hsB)) | (go_simp; (first | fail | skip))); (refine hK.out _ _ ?_ (fun hHeld => ?_)); (· ((try dsimp only); (repeat' (first | (with_reducible exact Below.refl _ _) | (with_reducible assumption) | (with_reducible refine Below.alloc ?_ ?_ _) | (with_reducible refine Below.drew ?_) | (with_reducible refine Below.stepG ?_ (by assumption) ?_) | (with_reducible refine Below.setCell ?_ ?_ _) | omega | (dsimp only; omega) | (simp; done) | (simp; omega))))); (clear hK K; (try simp only [Act.put, List.setIfInBounds_toArray, List.set_cons_zero, List.set_cons_succ]))))
        | (refine wpAnyH_ready (rs := [8]) (by decide +kernel) (by simp) (AllReadyH.cons (by simp only [List.getElem?_toArray, List.getElem?_cons_zero, List.getElem?_cons_succ]; rfl) (fun K hK => ?_) AllReadyH.nil); all_goals ((first | (refine step_append_any rfl (.const (.slice none 0 0)) (.tmp 79) 28 35 9 72 _ rfl eiAct _ (.slice none 0 0) [] rfl (Wk.Own.nil _ _ _ _) (.slice ad k cd) (D1.map actCells) rfl (HS1.out.below (by (repeat' (first | (with_reducible exact Below.refl _ _) | (with_reducible assumption) | (with_reducible refine Below.alloc ?_ ?_ _) | (with_reducible refine Below.drew ?_) | (with_reducible refine Below.stepG ?_ (by assumption) ?_) | (with_reducible refine Below.setCell ?_ ?_ _) | omega | (dsimp only; omega) | (simp; done) | (simp; omega))))) (by intro c hc; obtain ⟨r, _, rfl⟩ := List.mem_map.1 hc; exact actCells_one r) (by have := HL1.out; simp; omega) (by decide) (Nat.le_refl _) ?_; intro vA wA hownA hbA; have hsA := hbA.size; (try simp at hsA)) | (refine step_append_any rfl (.tmp 80) (.tmp 84) 28 35 9 72 _ rfl eiAct _ vA ([] ++ D1.map actCells) rfl (hownA.below (by (repeat' (first | (with_reducible exact Below.refl _ _) | (with_reducible assumption) | (with_reducible refine Below.alloc ?_ ?_ _) | (with_reducible refine Below.drew ?_) | (with_reducible refine Below.stepG ?_ (by assumption) ?_) | (with_reducible refine Below.setCell ?_ ?_ _) | omega | (dsimp only; omega) | (simp; done) | (simp; omega))))) (.slice ae q2 ce) (D2.map actCells) rfl (HS2.out.below (by (repeat' (first | (with_reducible exact Below.refl _ _) | (with_reducible assumption) | (with_reducible refine Below.alloc ?_ ?_ _) | (with_reducible refine Below.drew ?_) | (with_reducible refine Below.stepG ?_ (by assumption) ?_) | (with_reducible refine Below.setCell ?_ ?_ _) | omega | (dsimp only; omega) | (simp; done) | (simp; omega))))) (by intro c hc; obtain ⟨r, _, rfl⟩ := List.mem_map.1 hc; exact actCells_one r) (by have := HL1.out; have := HL2.out; simp; omega) (by decide) (by first | omega | (simp; omega)) ?_; intro vB wB hownB hbB; have hsB := hbB.size; (try simp at hsB)) | (go_simp; (first | fail | skip))); (refine hK.out _ _ ?_ (fun hHeld => ?_)); (· ((try dsimp only); (repeat' (first | (with_reducible exact Below.refl _ _) | (with_reducible assumption) | (with_reducible refine Below.alloc ?_ ?_ _) | (with_reducible refine Below.drew ?_) | (with_reducible refine Below.stepG ?_ (by assumption) ?_) | (with_reducible refine Below.setCell ?_ ?_ _) | omega | (dsimp only; omega) | (simp; done) | (simp; omega))))); (clear hK K; (try simp only [Act.put, List.setIfInBounds_toArray, List.set_cons_zero, List.set_cons_succ]))))
        | (refine wpAnyH_done (by decide +kernel) ?_ _)
        | fail)
      all_goals go_wp2_with fail
      all_goals go_meet
      all_goals
        have hfin : Wk.Own wB w11.heap.size 35 9 vB ((D1 ++ D2).map actCells) := by
          have := hownB.base (B := w11.heap.size) (by first | exact Nat.le_refl _ | omega | (simp; omega))
          rw [List.nil_append, ← List.map_append] at this
          exact this
        obtain ⟨aB, cB, hsh⟩ := hfin.shape
        rw [List.length_map] at hsh
        subst hsh
        exact ⟨aB, cB, rfl, Lib.hid hfin, Lib.hid (by (repeat' (first | (with_reducible exact Below.refl _ _) | (with_reducible assumption) | (with_reducible refine Below.alloc ?_ ?_ _) | (with_reducible refine Below.drew ?_) | (with_reducible refine Below.stepG ?_ (by assumption) ?_) | (with_reducible refine Below.setCell ?_ ?_ _) | omega | (dsimp only; omega) | (simp; done) | (simp; omega))))⟩
    case rest =>
      obtain ⟨al, cl, rfl, ho_, hb_⟩ := hcut
      obtain ⟨X, hwc⟩ : ∃ X : World, X = wc := ⟨_, rfl⟩
      subst hwc
      have ho := ho_.out
      have hb := hb_.out
      clear ho_ hb_ HTK0 HDR0 HS1 HS2 HOd HSd
      replace HSa := Lib.hid (HSa.out.below hb)
      replace HSb := Lib.hid (HSb.out.below hb)
      replace HW := Lib.hid (HW.out.trans (hb.mono HW.out.size))
      have ul := ho.sl.lens.2.1
      have vl := ho.sl.lens.2.2
      have HSl := Lib.hid ho.sl
      have hql : (D1 ++ D2).length ≤ 80 := by have := HL1.out; have := HL2.out; simp; omega
      generalize D1 ++ D2 = D at *
      obtain ⟨nl, hnl⟩ : ∃ n, n = D.length := ⟨_, rfl⟩
      rw [← hnl] at HSl ul hql ⊢
      have HNl := Lib.hid hnl
      clear hnl ho hb
      go_wp2_with (at_builtin; refine stop_at ?_; intro G hG)
      rw [← hG.out]; clear hG G
      refine wpList_append_any rfl _ _ 41 53 5 40 _ rfl eiRoute _ (.slice none 0 0) [] rfl (Wk.Own.nil _ _ _ _) (.slice aa na ca) ((La).map routeCells) rfl HSa.out (by intro c hc; obtain ⟨r, _, rfl⟩ := List.mem_map.1 hc; exact routeCells_one r) (by have := HNa.out; simp; omega) (by decide) (Nat.le_refl _) ?_
      intro v13 w13 ho hb
      rw [List.nil_append] at ho
      replace HSa := Lib.hid (HSa.out.below hb)
      replace HSb := Lib.hid (HSb.out.below hb)
      replace HSl := Lib.hid (HSl.out.below hb)
      replace HW := Lib.hid (HW.out.trans (hb.mono HW.out.size))
      obtain ⟨ac5, cc5, rfl⟩ := ho.shape
      rw [List.length_map] at ho ⊢
      have uc5 := ho.sl.lens.2.1
      have vc5 := ho.sl.lens.2.2
      have HSc5 := Lib.hid ho.sl
      obtain ⟨nc5, hnc5⟩ : ∃ n, n = (La).length := ⟨_, rfl⟩
      rw [← hnc5] at HSc5 uc5 ⊢
      have HNc5 := Lib.hid hnc5
      clear hnc5
      have hqc5 : nc5 = na := by rw [HNc5.out, HNa.out]
      rw [hqc5] at HSc5 uc5 ⊢
      clear hqc5 HNc5
      have HNc5 := HNa
      clear ho hb
      go_wp2_with fail
      refine (dapply_any ac5 cc5 _ al cl _ La D w13 HNc5.out HNl.out HSc5.out HSl.out HRa.out (by rw [← HNl.out]; omega) HF.out (by rw [HPAa.out]; exact HLE.out.1)).mono ?_
      rintro e w14 ⟨v14, rfl, ho, hb⟩
      rw [HPAa.out] at ho
      replace HSa := Lib.hid (HSa.out.below hb)
      replace HSb := Lib.hid (HSb.out.below hb)
      replace HSl := Lib.hid (HSl.out.below hb)
      replace HSc5 := Lib.hid (HSc5.out.below hb)
      replace HW := Lib.hid (HW.out.trans (hb.mono HW.out.size))
      obtain ⟨aw, cw, rfl⟩ := ho.shape
      rw [List.length_map] at ho ⊢
      have uw := ho.sl.lens.2.1
      have vw := ho.sl.lens.2.2
      have HSw := Lib.hid ho.sl
      obtain ⟨nw, hnw⟩ : ∃ n, n = (tend La D).length := ⟨_, rfl⟩
      rw [← hnw] at HSw uw ⊢
      have HNw := Lib.hid hnw
      clear hnw
      clear ho hb
      go_wp2_with fail
      refine (same_any _ _ _ _ _ _ (tend La D) Lb w14 HNw.out HNb.out HSw.out HSb.out HLE.out.2.2.vp HTb.out.vp).mono ?_
      rintro e w15 ⟨rfl, hb⟩
      rw [decide_eq_false HLE.out.2.1]
      replace HSa := Lib.hid (HSa.out.below hb)
      replace HSb := Lib.hid (HSb.out.below hb)
      replace HSl := Lib.hid (HSl.out.below hb)
      replace HSc5 := Lib.hid (HSc5.out.below hb)
      replace HSw := Lib.hid (HSw.out.below hb)
      replace HW := Lib.hid (HW.out.trans (hb.mono HW.out.size))
      clear hb
      go_wp2
      go_returns
      exact ⟨rfl, HW.out⟩
end Go.Proofs.Yteadfobfenopkaa
