
/- TopQueue: the walk. -/
import Derived.Test.YtllemhknmleklaaTQP
import Derived.Test.YtllemhknmleklaaQTab
import Derived.Test.YtllemhknmleklaaQ6
import Derived.Test.YtllemhknmleklaaPrI
import Derived.Test.YtllemhknmleklaaAp
import Derived.Test.YtllemhknmleklaaMkA
set_option linter.unusedVariables false
set_option linter.unusedSimpArgs false
namespace Go.Proofs.Ytllemhknmleklaa
open Go Go.RowKit Go.Sort Wc Wk

theorem eiAskT : EI Try.prog 41 47 14 112 (.agg #[.int .i64 0, .int .i64 0, .bool false, .int .u64 0, .int .u64 0, .int .i64 0, .bool false, .int .u64 0, .int .u64 0, .int .i64 0, .int .i64 0, .bool false, .int .u64 0, .int .u64 0]) := ⟨by kernel_rfl, by kernel_rfl, rfl, by decide⟩
theorem eiPickT : EI Try.prog 42 3 1 8 (.int .i64 0) := ⟨by kernel_rfl, by kernel_rfl, rfl, by decide⟩
theorem pickOneT (n : Nat) : ∀ u ∈ pickCells n, u.oneCell' = true := by
  intro u hu
  simp [pickCells] at hu
  subst hu
  rfl
def askW (x : ActD) : AskD := ⟨false, 0, 0, x⟩
/-- Asks of a writer and its picks, both of the call's own. -/
structure TwoAP (B : Nat) (w : World) (va vp : Value) (xs : List ActD) : Prop where
  oa : Wk.Own w B 47 14 va ((xs.map askW).map askCells)
  op : Wk.Own w B 3 1 vp ((List.replicate (4 * xs.length) 4).map pickCells)
  ap : Apart va vp
theorem TwoAP.below {B : Nat} {w w' : World} {va vp : Value} {xs : List ActD} (h : TwoAP B w va vp xs) (hb : Below w.heap.size w w') : TwoAP B w' va vp xs := ⟨h.oa.below hb, h.op.below hb, h.ap⟩

set_option maxRecDepth 100000 in
set_option maxHeartbeats 8000000 in
theorem topQueue_walk (a0 : Option Addr) (len0 cap0 : Nat) (z0 : List RawJ) (nn : Int) (w : World) (h0 : IsJobs w a0 len0 cap0 z0) (hk : -9223372036854775808 ≤ nn ∧ nn ≤ 9223372036854775807) :
    Calls Try.prog 3 #[.slice a0 len0 cap0, .int .i64 nn] w fun e w' => e = .returned (.bool true) ∧ Below w.heap.size w w' := by
  have H0 := Lib.hid h0
  have NR := Lib.hid (fun w => nearA_any nn w)
  have HFX := Lib.hid (nearA_fits nn)
  clear h0 hk
  go_enter Try.func3, Try.ntmps3
  go_wp2_with fail
  refine (queue_any a0 len0 cap0 z0 30 w H0.out (by decide)).mono ?_
  rintro e w1 ⟨v1, qs, rfl, ho1, hq1, hl1, hb1⟩
  have HO1 := Lib.hid (ho1.below ((Below.refl _ _).alloc (Nat.le_refl _) (.cells #[.int .i64 2, .int .i64 0, .bool false, .int .u64 0, .int .u64 0, .int .i64 0, .int .i64 0, .bool false, .int .u64 0, .int .u64 0, .int .i64 8] 33)))
  have HB1 := Lib.hid hb1
  have hz1 := hb1.size
  have HQ1 := Lib.hid hq1
  clear ho1 hb1 hq1 H0
  go_wp2_with (at_builtin; refine stop_at ?_; intro G hG)
  rw [← hG.out]; clear hG G
  refine wpList_append_rows rfl _ _ 23 33 11 88 _ rfl eiJob w.heap.size _ (qs.map jobCells) rfl HO1.out _ ([(⟨false, actZ, 8⟩ : JobD)].map jobCells) rfl (sl_many (n := 1) (xs := [(⟨false, actZ, 8⟩ : JobD)].map jobCells) rfl (by intro c hc; obtain ⟨j, _, rfl⟩ := List.mem_map.1 hc; rfl) rfl rfl (by decide)) (by intro c hc; obtain ⟨r, _, rfl⟩ := List.mem_map.1 hc; exact jobCells_one r) (by simp; omega) (by decide) (by simp; omega) (by simp) ?_
  intro v2 w2 ho2 _ hb2
  rw [← List.map_append] at ho2
  obtain ⟨js, hjs⟩ : ∃ js : List JobD, js = qs ++ [⟨false, actZ, 8⟩] := ⟨_, rfl⟩
  rw [← hjs] at ho2
  have hjl : js.length ≤ 31 := by rw [hjs]; simp; omega
  have HJK := Lib.hid (show ∀ j ∈ js, JobD.ok j from fun j hj => by
    rw [hjs] at hj
    rcases List.mem_append.1 hj with g | g
    · exact HQ1.out j g
    · simp at g; subst g; exact .inr ⟨rfl, rfl, by decide, by decide⟩)
  obtain ⟨a2, c2, rfl⟩ := ho2.shape
  rw [List.length_map] at ho2 ⊢
  have HS := Lib.hid ho2.sl
  have u2 := ho2.sl.lens.2.1
  have t2 := ho2.sl.lens.2.2
  have HW := Lib.hid ((HB1.out.alloc hz1 (.cells #[.int .i64 2, .int .i64 0, .bool false, .int .u64 0, .int .u64 0, .int .i64 0, .int .i64 0, .bool false, .int .u64 0, .int .u64 0, .int .i64 8] 33)).trans (hb2.mono (Nat.le_refl _)))
  clear ho2 hb2 hjs HO1 HB1 HQ1 hz1 hl1
  go_wp2_with (at_builtin; refine stop_at ?_; intro G hG)
  rw [← hG.out]; clear hG G
  refine wpList_append_any rfl _ _ 23 33 11 88 _ rfl eiJob _ (.slice none 0 0) [] rfl (Wk.Own.nil _ _ _ _) (.slice a2 js.length c2) (js.map jobCells) rfl HS.out (by intro c hc; obtain ⟨r, _, rfl⟩ := List.mem_map.1 hc; exact jobCells_one r) (by simp; omega) (by decide) (Nat.le_refl _) ?_
  intro v3 w3 ho3 hb3
  rw [List.nil_append] at ho3
  obtain ⟨a3, c3, rfl⟩ := ho3.shape
  rw [List.length_map] at ho3 ⊢
  have HS3 := Lib.hid ho3.sl
  replace HS := Lib.hid (HS.out.below hb3)
  replace HW := Lib.hid (HW.out.trans (hb3.mono HW.out.size))
  clear ho3 hb3
  go_wp2_with fail
  refine (qplay_any a3 c3 js w3 HS3.out (by omega) HJK.out).mono ?_
  rintro e w4 ⟨v4, vs4, rfl, HD4, hb4⟩
  obtain ⟨da, dc, rfl⟩ := HD4.shape
  have hdl : (qrun [] js).length = js.length := qrun_len _ _
  have HAC := Lib.hid (qrun_acts (q := []) (l := js) (by simp) HJK.out)
  have HPU := Lib.hid (show pulls [] js = actsIn (qrun [] js) from rfl)
  have hpl := pulls_len js []
  rw [hdl] at HD4 ⊢
  have HD := Lib.hid HD4
  replace HS := Lib.hid (HS.out.below hb4)
  replace HW := Lib.hid (HW.out.trans (hb4.mono HW.out.size))
  clear HD4 hb4 HS3
  go_wp2_with (at_builtin; refine stop_at ?_; intro G hG)
  rw [← hG.out]; clear hG G
  refine wpList_append_any rfl _ _ 23 33 11 88 _ rfl eiJob _ (.slice none 0 0) [] rfl (Wk.Own.nil _ _ _ _) (.slice a2 js.length c2) (js.map jobCells) rfl HS.out (by intro c hc; obtain ⟨r, _, rfl⟩ := List.mem_map.1 hc; exact jobCells_one r) (by simp; omega) (by decide) (Nat.le_refl _) ?_
  intro v5 w5 ho5 hb5
  rw [List.nil_append] at ho5
  obtain ⟨a5, c5, rfl⟩ := ho5.shape
  rw [List.length_map] at ho5 ⊢
  have HS5 := Lib.hid ho5.sl
  replace HD := Lib.hid (HD.out.below hb5)
  replace HW := Lib.hid (HW.out.trans (hb5.mono HW.out.size))
  clear ho5 hb5 HS
  go_wp2_with fail
  refine (qtable_any a5 c5 js.length js w5 rfl HS5.out (by omega) HJK.out).mono ?_
  rintro e w6 ⟨v6, rfl, ho6, hb6⟩
  replace HD := Lib.hid (HD.out.below hb6)
  replace HW := Lib.hid (HW.out.trans (hb6.mono HW.out.size))
  have HAO := Lib.hid (show ∀ x ∈ pulls [] js, x.ok from fun x hx => by
    rw [HPU.out] at hx
    unfold actsIn at hx
    obtain ⟨d, hd, hx⟩ := List.mem_flatMap.1 hx
    exact HAC.out d hd x hx)
  have HTB := Lib.hid (tend_ok TabOk.nil (l := pulls [] js) (fun x hx => okA_fit (HAO.out x hx)))
  obtain ⟨ra, rc, rfl⟩ := ho6.shape
  rw [List.length_map] at ho6 ⊢
  have HR := Lib.hid ho6.sl
  obtain ⟨A, hA⟩ : ∃ A, A = pulls [] js := ⟨_, rfl⟩
  rw [← hA] at HR HAO HTB HPU hpl ⊢
  obtain ⟨M, hM⟩ : ∃ M, M = tend [] A := ⟨_, rfl⟩
  rw [← hM] at HR HTB ⊢
  have HM := Lib.hid hM
  obtain ⟨ds, hds⟩ : ∃ ds, ds = qrun [] js := ⟨_, rfl⟩
  rw [← hds] at HD HAC HPU hdl
  have HDL := Lib.hid hdl
  obtain ⟨N, hN⟩ : ∃ N, N = js.length := ⟨_, rfl⟩
  rw [← hN] at HD HDL hpl hjl u2 ⊢
  have hA31 : A.length ≤ 31 := by simp at hpl; omega
  clear ho6 hb6 hA hM hds hdl hN hpl HS5 HJK
  obtain ⟨X, hX⟩ : ∃ X : World, X = w6 := ⟨_, rfl⟩
  subst hX
  have HA0 := Lib.hid (show actsIn (ds.take N) = A by rw [HPU.out, List.take_of_length_le (by rw [HDL.out]; exact Nat.le_refl _)])
  have HAM := Lib.hid (show ∀ m, (actsIn (ds.take m)).length ≤ A.length from fun m => by
    rw [HPU.out]
    obtain ⟨t, ht⟩ : ∃ t, ds = ds.take m ++ t := ⟨ds.drop m, (List.take_append_drop m ds).symm⟩
    conv => rhs; rw [ht]
    unfold actsIn
    rw [List.flatMap_append, List.length_append]
    exact Nat.le_add_right _ _)
  go_wp2_with fail
  go_loopw [10, 11, 12] (fun va vp i wr => ∃ m : Nat, m ≤ N ∧ i = .int .i64 m ∧ Hid (TwoAP X.heap.size wr va vp (actsIn (ds.take m))) ∧ Hid (Below X.heap.size X wr)) (fun _ _ i _ => N - (intOf i).toNat)
  case atStart => exact ⟨0, Nat.zero_le _, rfl, ⟨Wk.Own.nil _ _ _ _, Wk.Own.nil _ _ _ _, Apart.nil none _⟩, Below.refl _ _⟩
  case round =>
    obtain ⟨m, hm, rfl, HT, HB⟩ := hrel
    by_cases hlt : m < N
    · obtain ⟨d, hd⟩ : ∃ d, ds[m]? = some d := ⟨_, List.getElem?_eq_getElem (by rw [HDL.out]; exact hlt)⟩
      have HSN := Lib.hid (actsIn_snoc hd)
      have HOPN := Lib.hid (fun (W : World) (hW : Below X.heap.size X W) => HD.out.opened hW hd)
      have hln1 := HAM.out (m + 1)
      rw [HSN.out, List.length_append] at hln1
      obtain ⟨dl, hdl⟩ : ∃ dl, dl = d.acts := ⟨_, rfl⟩
      rw [← hdl] at HSN HOPN hln1
      obtain ⟨F, hF⟩ : ∃ F, F = actsIn (ds.take m) := ⟨_, rfl⟩
      rw [← hF] at HT HSN hln1
      clear hd hdl hF
      go_wp2_with fail
      go_loopw [10, 11, 13] (fun va vp i wr => ∃ k : Nat, k ≤ dl.length ∧ i = .int .i64 k ∧ Hid (TwoAP X.heap.size wr va vp (F ++ dl.take k)) ∧ Hid (Below X.heap.size X wr)) (fun _ _ i _ => dl.length - (intOf i).toNat)
      case atStart => exact ⟨0, Nat.zero_le _, rfl, Lib.hid (by rw [List.take_zero, List.append_nil]; exact HT.out), HB⟩
      case round =>
        clear HT HB
        obtain ⟨k, hk, rfl, HT, HB⟩ := hrel
        have hzr := HB.out.size
        obtain ⟨g, a, c, rfl, hg, e0, e1, e2, hown⟩ := HOPN.out _ HB.out
        have uo := hown.sl.lens.2.1
        have vo := hown.sl.lens.2.2
        have hg2 : g < wr.heap.size := by omega
        by_cases hlt2 : k < dl.length
        · obtain ⟨x, hx⟩ : ∃ x, dl[k]? = some x := ⟨_, List.getElem?_eq_getElem hlt2⟩
          obtain ⟨b, off, rfl, hb, hcs⟩ := Sl.at hown.sl (i := k) (c := actCells x) (by rw [List.getElem?_map, hx]; rfl)
          have d0 := hcs 0 _ rfl
          have d1 := hcs 1 _ rfl
          have d2 := hcs 2 _ rfl
          have d3 := hcs 3 _ rfl
          have d4 := hcs 4 _ rfl
          have d5 := hcs 5 _ rfl
          have d6 := hcs 6 _ rfl
          have d7 := hcs 7 _ rfl
          have d8 := hcs 8 _ rfl
          rw [Nat.add_zero] at d0
          have HTT := Lib.hid (show F ++ dl.take (k + 1) = (F ++ dl.take k) ++ [x] by rw [List.take_add_one, hx, List.append_assoc]; rfl)
          have hln : (F ++ dl.take k).length ≤ 31 := by rw [List.length_append, List.length_take]; omega
          have HLN := Lib.hid hln
          generalize F ++ dl.take k = E at *
          clear hx hcs hown hln
          go_wp2_with (at_builtin; refine stop_at ?_; intro G hG)
          rw [← hG.out]; clear hG G
          refine wpList_append_at rfl _ _ 41 47 14 112 _ rfl eiAskT X.heap.size _ ((E.map askW).map askCells) rfl (HT.out.oa.alloc _) _ [askCells (askW x)] rfl (sl_many (n := 1) (xs := [askCells (askW x)]) rfl (by intro c hc; simp at hc; subst hc; rfl) rfl rfl (by decide)) (by intro c hc; simp at hc; subst hc; exact askCells_one _) (by have := HLN.out; simp; omega) (by decide) (by simp; omega) (by simp) ?_
          intro vA w5 hoA hgA hbA hatA
          rw [show (E.map askW).map askCells ++ [askCells (askW x)] = ((E ++ [x]).map askW).map askCells by simp] at hoA
          have HT5 := Lib.hid (show Wk.Own w5 X.heap.size 47 14 vA (((E ++ [x]).map askW).map askCells) ∧ Wk.Own w5 X.heap.size 3 1 u11 ((List.replicate (4 * E.length) 4).map pickCells) ∧ Apart vA u11 from ⟨hoA, (HT.out.ap.symm).keeps (HT.out.op.alloc _) hgA, ((HT.out.ap.symm).grown (HT.out.op.alloc _) hatA).symm⟩)
          have HB5 : Hid (Below X.heap.size X w5) := Lib.hid ((HB.out.alloc hzr _).trans (hbA.mono (Nat.le_refl _)))
          have hz5 := HB5.out.size
          clear hoA hgA hbA hatA HT HB hzr d0 d1 d2 d3 d4 d5 d6 d7 d8 e0 e1 e2
          go_wp2_with (at_builtin; refine wpList_append_at rfl _ _ 42 3 1 8 _ rfl eiPickT X.heap.size _ ((List.replicate (4 * E.length) 4).map pickCells) rfl (HT5.out.2.1.alloc _) _ ([4, 4, 4, 4].map pickCells) rfl (sl_many (n := 4) (xs := [4, 4, 4, 4].map pickCells) rfl (by intro c hc; obtain ⟨j, _, rfl⟩ := List.mem_map.1 hc; rfl) rfl rfl (by decide)) (by intro c hc; obtain ⟨r, _, rfl⟩ := List.mem_map.1 hc; exact pickOneT r) (by have := HLN.out; simp; omega) (by decide) (by simp; omega) (by simp) ?_; intro vC w7 hoC hgC hbC hatC; go_frame)
          rw [← List.map_append, show List.replicate (4 * E.length) 4 ++ [4, 4, 4, 4] = List.replicate (4 * (E ++ [x]).length) 4 by rw [show [4, 4, 4, 4] = List.replicate 4 4 from rfl, List.replicate_append_replicate]; congr 1; simp; omega] at hoC
          have HT7 := Lib.hid (show TwoAP X.heap.size w7 vA vC (F ++ dl.take (k + 1)) by rw [HTT.out]; exact ⟨HT5.out.2.2.keeps (HT5.out.1.alloc _) hgC, hoC, HT5.out.2.2.grown (HT5.out.1.alloc _) hatC⟩)
          have HB7 : Hid (Below X.heap.size X w7) := Lib.hid ((HB5.out.alloc hz5 _).trans (hbC.mono (Nat.le_refl _)))
          clear hoC hgC hbC hatC HT5 HB5 hz5
          go_roundw
          case rel => exact ⟨k + 1, by omega, by go_num, HT7, HB7⟩
          case measure => simp [intOf]; omega
        · obtain rfl : k = dl.length := by omega
          have HT7 := Lib.hid (show TwoAP X.heap.size wr u10 u11 (actsIn (ds.take (m + 1))) by
            rw [HSN.out]
            have := HT.out
            rw [List.take_of_length_le (Nat.le_refl _)] at this
            exact this)
          clear hown
          go_wp2_with fail
          go_roundw
          case rel => exact ⟨m + 1, by omega, by go_num, HT7, HB⟩
          case measure => simp [intOf]; omega
    · obtain rfl : m = N := by omega
      rw [HA0.out] at HT
      obtain ⟨q, hq⟩ : ∃ q : AskD, q = ⟨true, 0, nearA nn, actZ⟩ := ⟨_, rfl⟩
      have hbo : ∀ x ∈ A.map askW, AskD.ok x := fun x hx => by
        obtain ⟨y, hy, rfl⟩ := List.mem_map.1 hx
        exact .inr ⟨rfl, rfl, rfl, HAO.out y hy⟩
      have hbw : ∀ x ∈ A.map askW, x.rd = false := fun x hx => by
        obtain ⟨y, hy, rfl⟩ := List.mem_map.1 hx
        rfl
      have hAA : (A.map askW).map (fun x => x.act) = A := by rw [List.map_map]; show A.map (fun x => x) = A; exact List.map_id' A
      have hlaw := alone_at (r := 0) (by decide) hbo hbw HFX.out
      rw [hAA, List.length_map, ← hq] at hlaw
      have HLAW := Lib.hid hlaw
      have HQOK := Lib.hid (show ∀ x ∈ A.map askW ++ [q], AskD.ok x from fun x hx => by
        rcases List.mem_append.1 hx with hx | hx
        · exact hbo x hx
        · simp at hx; subst hx; rw [hq]; exact .inl ⟨rfl, (by show 0 < 4; decide), HFX.out, rfl⟩)
      have HQC := Lib.hid (show [askCells q] = [askCells ⟨true, 0, nearA nn, actZ⟩] by rw [hq])
      clear hq hbo hbw hlaw hAA HAC HPU HDL HA0 HAM HAO HD
      obtain ⟨V, hV⟩ : ∃ V : World, V = wr := ⟨_, rfl⟩
      subst hV
      go_upto_region 17 with ((with_reducible refine (NR.out _).mono ?_); rintro e w4 ⟨rfl, hb4⟩; (repeat (with_reducible (replace hb4 := Below.undrew hb4))); obtain ⟨hc4, hf4⟩ := bcell hb4; have hz4 := hb4.size; (repeat (first | rw [World.size_alloc] at hz4 | rw [World.size_drew] at hz4 | rw [World.size_setCell] at hz4)); (try have : b < w4.heap.size := by omega); (try have : b < w4.heap.size + 1 := by omega); (try have : b < w4.heap.size + 1 + 1 := by omega); (try have : b < w4.heap.size + 1 + 1 + 1 := by omega); (try have : w.heap.size < w4.heap.size := by omega); (try have : w.heap.size < w4.heap.size + 1 := by omega); (try have : w.heap.size < w4.heap.size + 1 + 1 := by omega); (try have : w.heap.size < w4.heap.size + 1 + 1 + 1 := by omega); (try have : w1.heap.size < w4.heap.size := by omega); (try have : w1.heap.size < w4.heap.size + 1 := by omega); (try have : w1.heap.size < w4.heap.size + 1 + 1 := by omega); (try have : w1.heap.size < w4.heap.size + 1 + 1 + 1 := by omega); (try have : wr.heap.size < w4.heap.size := by omega); (try have : wr.heap.size < w4.heap.size + 1 := by omega); (try have : wr.heap.size < w4.heap.size + 1 + 1 := by omega); (try have : wr.heap.size < w4.heap.size + 1 + 1 + 1 := by omega))
      generalize nearA nn = ad at *
      have HT4 := Lib.hid (HT.out.below (w' := w4.alloc (.cells #[.bool false, .int .u64 (hiOf false ad), .int .u64 (loOf ad)] 27)) (hb4.alloc hb4.size _))
      have g0 : (w4.alloc (.cells #[.bool false, .int .u64 (hiOf false ad), .int .u64 (loOf ad)] 27)).cell? ⟨w4.heap.size, 0, none⟩ = some (.bool false) := by simp
      have g1 : (w4.alloc (.cells #[.bool false, .int .u64 (hiOf false ad), .int .u64 (loOf ad)] 27)).cell? ⟨w4.heap.size, 1, none⟩ = some (.int .u64 (hiOf false ad)) := by simp
      have g2 : (w4.alloc (.cells #[.bool false, .int .u64 (hiOf false ad), .int .u64 (loOf ad)] 27)).cell? ⟨w4.heap.size, 2, none⟩ = some (.int .u64 (loOf ad)) := by simp
      have HG := Lib.hid (show (w4.alloc (.cells #[.bool false, .int .u64 (hiOf false ad), .int .u64 (loOf ad)] 27)).cell? ⟨w4.heap.size, 0, none⟩ = some (.bool false) ∧ (w4.alloc (.cells #[.bool false, .int .u64 (hiOf false ad), .int .u64 (loOf ad)] 27)).cell? ⟨w4.heap.size, 1, none⟩ = some (.int .u64 (hiOf false ad)) ∧ (w4.alloc (.cells #[.bool false, .int .u64 (hiOf false ad), .int .u64 (loOf ad)] 27)).cell? ⟨w4.heap.size, 2, none⟩ = some (.int .u64 (loOf ad)) from ⟨g0, g1, g2⟩)
      have hPs : w4.heap.size < (w4.alloc (.cells #[.bool false, .int .u64 (hiOf false ad), .int .u64 (loOf ad)] 27)).heap.size := by simp
      have HNA := Lib.hid (show ∀ k, u10.ownBlock = some k → k ≠ w4.heap.size from fun k hk e => by
        have h1 := (HT.out.oa.lt k hk).2
        have h2 := hb4.size
        omega)
      have HNP := Lib.hid (show ∀ k, u11.ownBlock = some k → k ≠ w4.heap.size from fun k hk e => by
        have h1 := (HT.out.op.lt k hk).2
        have h2 := hb4.size
        omega)
      have HB4 := Lib.hid (show Below X.heap.size X (w4.alloc (.cells #[.bool false, .int .u64 (hiOf false ad), .int .u64 (loOf ad)] 27)) from (HB.out.trans (hb4.mono HB.out.size)).alloc (Nat.le_trans HB.out.size hb4.size) _)
      obtain ⟨P, hP⟩ : ∃ P, P = w4.heap.size := ⟨_, rfl⟩
      rw [← hP] at g0 g1 g2 hPs HG HNA HNP ⊢
      clear hP hb4 hc4 hf4 hz4 HB HT NR
      generalize w4.alloc (.cells #[.bool false, .int .u64 (hiOf false ad), .int .u64 (loOf ad)] 27) = Y at *
      obtain ⟨as_, has⟩ : ∃ l : List AskD, l = A.map askW ++ [q] := ⟨_, rfl⟩
      obtain ⟨ps, hps⟩ : ∃ l : List Nat, l = List.replicate (4 * A.length) 4 ++ [0, 0, 0, 0] := ⟨_, rfl⟩
      have hz := HB4.out.size
      go_wp2_with (at_builtin; refine stop_at ?_; intro G hG)
      rw [← hG.out]; clear hG G
      refine wpList_append_at rfl _ _ 41 47 14 112 _ rfl eiAskT X.heap.size _ ((A.map askW).map askCells) rfl (HT4.out.oa.alloc _) _ [askCells ⟨true, 0, ad, actZ⟩] rfl (sl_many (n := 1) (xs := [askCells ⟨true, 0, ad, actZ⟩]) rfl (by intro c hc; simp at hc; subst hc; rfl) rfl rfl (by decide)) (by intro c hc; simp at hc; subst hc; exact askCells_one _) (by simp; omega) (by decide) (by simp; omega) (by simp) ?_
      intro vA w5 hoA hgA hbA hatA
      rw [← HQC.out, show (A.map askW).map askCells ++ [askCells q] = as_.map askCells by rw [has]; simp] at hoA
      have HB5 := Lib.hid ((HB4.out.alloc hz (.cells (askCells ⟨true, 0, ad, actZ⟩).toArray 47)).trans (hbA.mono (Nat.le_refl _)))
      have hz5 := HB5.out.size
      have HT5 := Lib.hid (show Wk.Own w5 X.heap.size 3 1 u11 ((List.replicate (4 * A.length) 4).map pickCells) ∧ Apart vA u11 from ⟨(HT4.out.ap.symm).keeps (HT4.out.op.alloc _) hgA, ((HT4.out.ap.symm).grown (HT4.out.op.alloc _) hatA).symm⟩)
      have HOA := Lib.hid hoA
      have hP5 : ∀ o, w5.cell? ⟨P, o, none⟩ = Y.cell? ⟨P, o, none⟩ := fun o => (World.cell?_of_block (a := ⟨P, o, none⟩) (hgA.block P (by simp; omega) (fun e => HNA.out _ e.symm rfl))).trans (((Below.refl Y.heap.size Y).alloc (Nat.le_refl _) _).cell (p := ⟨P, o, none⟩) hPs)
      have HP5 := Lib.hid hP5
      have hPs5 : P < w5.heap.size := by have := hbA.size; simp at this; omega
      clear hoA hgA hbA hatA hP5 HT4 HB4 g0 g1 g2
      go_wp2_with (at_builtin; refine stop_at ?_; intro G hG)
      rw [← hG.out]; clear hG G
      refine wpList_append_at rfl _ _ 42 3 1 8 _ rfl eiPickT X.heap.size _ ((List.replicate (4 * A.length) 4).map pickCells) rfl (HT5.out.1.alloc _) _ ([0, 0, 0, 0].map pickCells) rfl (sl_many (n := 4) (xs := [0, 0, 0, 0].map pickCells) rfl (by intro c hc; obtain ⟨j, _, rfl⟩ := List.mem_map.1 hc; rfl) rfl rfl (by decide)) (by intro c hc; obtain ⟨r, _, rfl⟩ := List.mem_map.1 hc; exact pickOneT r) (by simp; omega) (by decide) (by simp; omega) (by simp) ?_
      intro vC w6 hoC hgC hbC hatC
      rw [← List.map_append, ← hps] at hoC
      have HB6 := Lib.hid ((HB5.out.alloc hz5 (.cells #[.int .i64 0, .int .i64 0, .int .i64 0, .int .i64 0] 3)).trans (hbC.mono (Nat.le_refl _)))
      have hoA := HT5.out.2.keeps (HOA.out.alloc _) hgC
      have hP6 : ∀ o, w6.cell? ⟨P, o, none⟩ = Y.cell? ⟨P, o, none⟩ := fun o => (World.cell?_of_block (a := ⟨P, o, none⟩) (hgC.block P (by simp; omega) (fun e => HNP.out _ e.symm rfl))).trans ((((Below.refl w5.heap.size w5).alloc (Nat.le_refl _) _).cell (p := ⟨P, o, none⟩) hPs5).trans (HP5.out o))
      have hPs6 : P < w6.heap.size := by have := hbC.size; simp at this; omega
      obtain ⟨aA, cA, rfl⟩ := hoA.shape
      obtain ⟨aC, cC, rfl⟩ := hoC.shape
      rw [List.length_map] at hoA hoC
      simp only [List.length_map]
      have HSA := Lib.hid hoA.sl
      have HSC := Lib.hid hoC.sl
      have HASL := Lib.hid (show as_.length = A.length + 1 by rw [has]; simp)
      have hasl : as_.length ≤ 32 := by rw [has]; simp; omega
      have hps180 : ps.length ≤ 180 := by rw [hps]; simp; omega
      have uA := hoA.sl.lens.2.1
      have vA := hoA.sl.lens.2.2
      have uC := hoC.sl.lens.2.1
      have vC := hoC.sl.lens.2.2
      have HW6 := Lib.hid (HW.out.trans (HB6.out.mono HW.out.size))
      have HR6 := Lib.hid (HR.out.below HB6.out)
      have HP6 := Lib.hid hP6
      rw [← has, ← hps] at HLAW
      rw [← has] at HQOK
      have HQ4 := Lib.hid (show ∀ x ∈ ps, x ≤ 4 from fun x hx => by
        rw [hps] at hx
        rcases List.mem_append.1 hx with g | g
        · rw [(List.mem_replicate.1 g).2]; exact Nat.le_refl _
        · simp at g; omega)
      clear hoA hoC hgC hbC hatC hP6 HT5 HB5 HB6 HOA HP5 has hps hz5 hPs5 HQC HNA HNP hz hPs HR
      go_wp2_with fail
      refine (pPlay_any aA aC cA cC as_ ps w6 HSA.out HSC.out (by omega) (by omega) HQOK.out HQ4.out).mono ?_
      rintro e w7 ⟨v7, rfl, ho7, hb7⟩
      obtain ⟨l1, l2, l3⟩ := HLAW.out
      rw [l3] at ho7
      rw [l1]
      obtain ⟨aS, cS, rfl⟩ := ho7.shape
      have HSS := Lib.hid ho7.sl
      replace HR6 := Lib.hid (HR6.out.below hb7)
      replace HW6 := Lib.hid (HW6.out.trans (hb7.mono HW6.out.size))
      replace HP6 := Lib.hid (fun o => (hb7.cell (p := ⟨P, o, none⟩) hPs6).trans (HP6.out o))
      have hPs7 : P < w7.heap.size := Nat.lt_of_lt_of_le hPs6 hb7.size
      clear ho7 hb7 l1 l2 l3 HLAW hPs6 HSA HSC HQ4 HQOK
      have p0 := (HP6.out 0).trans HG.out.1
      have p1 := (HP6.out 1).trans HG.out.2.1
      have p2 := (HP6.out 2).trans HG.out.2.2
      have TL := Lib.hid (tlook_any ra rc M.length ad M w7 rfl HR6.out (RtOk.of_tab HTB.out) HFX.out)
      rw [putAll_srt HTB.out] at TL
      rw [← HM.out] at HSS
      generalize (goesL M ad).1 = hop at *
      generalize (goesL M ad).2 = wid at *
      generalize M.length = ml at *
      clear HR6 HTB HM HFX HP6 HG
      go_wp2_with fail
      refine TL.out.mono ?_
      rintro e w8 ⟨rfl, hb8⟩
      replace HSS := Lib.hid (HSS.out.below hb8)
      replace HW6 := Lib.hid (HW6.out.trans (hb8.mono HW6.out.size))
      clear hb8 TL p0 p1 p2
      go_upto_region 21 with fail
      have q0 : (w8.alloc (.cells #[.int .i64 0, .int .i64 hop, .int .i64 wid] 53)).cell? ⟨w8.heap.size, 0, none⟩ = some (.int .i64 0) := by simp
      have q1 : (w8.alloc (.cells #[.int .i64 0, .int .i64 hop, .int .i64 wid] 53)).cell? ⟨w8.heap.size, 1, none⟩ = some (.int .i64 hop) := by simp
      have q2 : (w8.alloc (.cells #[.int .i64 0, .int .i64 hop, .int .i64 wid] 53)).cell? ⟨w8.heap.size, 2, none⟩ = some (.int .i64 wid) := by simp
      have hQs : w8.heap.size < (w8.alloc (.cells #[.int .i64 0, .int .i64 hop, .int .i64 wid] 53)).heap.size := by simp
      have HSS2 := Lib.hid (HSS.out.below (w' := w8.alloc (.cells #[.int .i64 0, .int .i64 hop, .int .i64 wid] 53)) ((Below.refl _ _).alloc (Nat.le_refl _) _))
      have HW8 := Lib.hid (HW6.out.alloc HW6.out.size (.cells #[.int .i64 0, .int .i64 hop, .int .i64 wid] 53))
      obtain ⟨Q, hQ⟩ : ∃ Q, Q = w8.heap.size := ⟨_, rfl⟩
      rw [← hQ] at q0 q1 q2 hQs ⊢
      generalize w8.alloc (.cells #[.int .i64 0, .int .i64 hop, .int .i64 wid] 53) = Z at *
      obtain ⟨bs, os, rfl, hbs, hcs⟩ := Sl.at HSS2.out (i := 0) (c := seenCells ⟨0, hop, wid, A.length⟩) rfl
      have s0 := hcs 0 _ rfl
      have s1 := hcs 1 _ rfl
      have s2 := hcs 2 _ rfl
      have s3 := hcs 3 _ rfl
      have s4 := hcs 4 _ rfl
      dsimp only at s0 s1 s2 s3 s4
      have ew : IntKind.i64.wrap ((as_.length : Int) - 1) = (A.length : Int) := by have := HASL.out; rw [IntKind.wrap_i64]; omega
      generalize as_.length = L1 at *
      generalize A.length = K at *
      clear hcs HSS HSS2 hQ HW6
      refine wp_region_qb (by kernel_rfl) (by kernel_rfl) (fun kq => ?_)
      repeat (first | go_big_quiet_step (fail) | quiet_step (fail))
      clear kq
      refine wpQuiet_nil ?_; intro w9 hb9; (repeat (with_reducible (replace hb9 := Below.undrew hb9))); obtain ⟨hc9, hf9⟩ := bcell hb9; have hz9 := hb9.size; (repeat (first | rw [World.size_alloc] at hz9 | rw [World.size_drew] at hz9 | rw [World.size_setCell] at hz9)); (try have : b < w9.heap.size := by omega); (try have : b < w9.heap.size + 1 := by omega); (try have : b < w9.heap.size + 1 + 1 := by omega); (try have : b < w9.heap.size + 1 + 1 + 1 := by omega); (try have : w.heap.size < w9.heap.size := by omega); (try have : w.heap.size < w9.heap.size + 1 := by omega); (try have : w.heap.size < w9.heap.size + 1 + 1 := by omega); (try have : w.heap.size < w9.heap.size + 1 + 1 + 1 := by omega); (try have : w1.heap.size < w9.heap.size := by omega); (try have : w1.heap.size < w9.heap.size + 1 := by omega); (try have : w1.heap.size < w9.heap.size + 1 + 1 := by omega); (try have : w1.heap.size < w9.heap.size + 1 + 1 + 1 := by omega); (try have : wr.heap.size < w9.heap.size := by omega); (try have : wr.heap.size < w9.heap.size + 1 := by omega); (try have : wr.heap.size < w9.heap.size + 1 + 1 := by omega); (try have : wr.heap.size < w9.heap.size + 1 + 1 + 1 := by omega)
      go_wp2_with fail
      go_returns
      exact ⟨rfl, HW8.out.trans (hb9.mono HW8.out.size)⟩
end Go.Proofs.Ytllemhknmleklaa
