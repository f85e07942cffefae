
/- DeltaNone: the walk. -/
import Derived.Test.YteadfobfenopkaaDelX
set_option linter.unusedVariables false
set_option linter.unusedSimpArgs false
namespace Go.Proofs.Yteadfobfenopkaa
open Go Go.RowKit Go.Sort Wc Wk

theorem RtOk.rev {l : List (Nat × Nat × Nat)} (h : RtOk l) : RtOk l.reverse :=
  ⟨fun x hx => h.vp x (List.mem_reverse.1 hx), fun x hx => h.lo x (List.mem_reverse.1 hx), fun x hx => h.hi x (List.mem_reverse.1 hx), by
    rw [List.pairwise_reverse]
    exact h.keys.imp (fun {x y} g e => g ⟨e.1.symm, e.2.symm⟩), by rw [List.length_reverse]; exact h.len⟩
def rot (L : List (Nat × Nat × Nat)) (t m : Nat) : List (Nat × Nat × Nat) := (around L t m).reverse
theorem rot_succ (L : List (Nat × Nat × Nat)) (t m : Nat) : rot L t (m + 1) = rot L t m ++ [L.getD ((m + t) % L.length) (0, 0, 0)] := by
  unfold rot; rw [around_succ, List.reverse_cons]
theorem rot_len (L : List (Nat × Nat × Nat)) (t m : Nat) : (rot L t m).length = m := by unfold rot; rw [List.length_reverse, around_len]
theorem rot_ok {L : List (Nat × Nat × Nat)} (h : RtOk L) (t : Nat) : RtOk (rot L t L.length) := (around_ok h t L.length (Nat.le_refl _)).1.rev
theorem rtok_nil : RtOk [] := ⟨fun x h => (List.not_mem_nil h).elim, fun x h => (List.not_mem_nil h).elim, fun x h => (List.not_mem_nil h).elim, List.Pairwise.nil, Nat.zero_le _⟩
theorem rtok_one : RtOk [(0, 0, 3)] := ⟨fun x h => by
  simp at h; subst h; exact vp00, fun x h => by
  simp at h; subst h; decide, fun x h => by
  simp at h; subst h; decide, List.pairwise_singleton _ _, by decide⟩
theorem diff_one : diffL (putAll []) (putAll [(0, 0, 3)]) = [putAct (0, 0, 3)] := by rfl
theorem rot_all {L : List (Nat × Nat × Nat)} (t : TabOk L) (s : Nat) : putAll (rot L s L.length) = L := by
  have h := (around_ok (RtOk.of_tab t) s L.length (Nat.le_refl _)).1
  have e := around_all t s
  rw [tend_puts _ h rfl] at e
  obtain ⟨s1, _, m1, _⟩ := putAll_ok _ h rfl
  obtain ⟨s2, _, m2, _⟩ := putAll_ok _ h.rev rfl
  refine (sorted_ext s2 t.srt (fun x => ?_))
  unfold rot
  rw [m2, List.mem_reverse, ← m1, e]

set_option maxRecDepth 100000 in
set_option maxHeartbeats 4000000 in
theorem deltaNone_walk (a0 : Option Addr) (len0 cap0 : Nat) (z0 : List RawJ) (a1 : Option Addr) (len1 cap1 : Nat) (z1 : List RawJ) (tn : Int) (w : World) (h0 : IsJobs w a0 len0 cap0 z0) (h1 : IsJobs w a1 len1 cap1 z1) (hk : -9223372036854775808 ≤ tn ∧ tn ≤ 9223372036854775807) :
    Calls Try.prog 5 #[.slice a0 len0 cap0, .slice a1 len1 cap1, .int .i64 tn] w fun e w' => e = .returned (.bool true) ∧ Below w.heap.size w w' := by
  have H0 := Lib.hid h0
  have H1 := Lib.hid h1
  have HW := Lib.hid (Below.refl w.heap.size w)
  clear h0 h1
  go_enter Try.func5, Try.ntmps5
  go_wp2_with fail
  refine (acts_any a0 len0 cap0 z0 40 w H0.out (by decide)).mono ?_
  rintro e w1 ⟨v1, rfl, ho, hb⟩
  have HFTp := Lib.hid (fun x (hx : x ∈ actsOf z0 40) => actsOf_fit x hx)
  have hbp : (actsOf z0 40).length ≤ 40 := actsOf_len z0 40
  generalize actsOf z0 40 = alp at *
  replace H0 := Lib.hid (H0.out.below hb)
  replace H1 := Lib.hid (H1.out.below hb)
  replace HW := Lib.hid (HW.out.trans (hb.mono HW.out.size))
  obtain ⟨ap, cp, rfl⟩ := ho.shape
  rw [List.length_map] at ho ⊢
  have up := ho.sl.lens.2.1
  have vp := ho.sl.lens.2.2
  have HSp := Lib.hid ho.sl
  obtain ⟨np, hnp⟩ : ∃ n, n = (alp).length := ⟨_, rfl⟩
  rw [← hnp] at HSp up ⊢
  have HNp := Lib.hid hnp
  clear hnp
  have hqp : np ≤ 40 := by rw [HNp.out]; exact hbp
  clear ho hb
  go_wp2_with fail
  refine (routesOf_any ap cp np alp w1 HNp.out HSp.out (by have := HNp.out; omega) HFTp.out).mono ?_
  rintro e w2 ⟨v2, rfl, ho, hb⟩
  have HTa := Lib.hid (tend_ok TabOk.nil HFTp.out)
  generalize tend [] alp = La at *
  replace HSp := Lib.hid (HSp.out.below hb)
  replace H0 := Lib.hid (H0.out.below hb)
  replace H1 := Lib.hid (H1.out.below hb)
  replace HW := Lib.hid (HW.out.trans (hb.mono HW.out.size))
  obtain ⟨aa, ca, rfl⟩ := ho.shape
  rw [List.length_map] at ho ⊢
  have ua := ho.sl.lens.2.1
  have va := ho.sl.lens.2.2
  have HSa := Lib.hid ho.sl
  obtain ⟨na, hna⟩ : ∃ n, n = (La).length := ⟨_, rfl⟩
  rw [← hna] at HSa ua ⊢
  have HNa := Lib.hid hna
  clear hna
  clear ho hb
  have hLa : na ≤ 60 := by rw [HNa.out]; exact HTa.out.len
  have HRa := Lib.hid (RtOk.of_tab HTa.out)
  have HPAa := Lib.hid (putAll_srt HTa.out)
  clear HSp
  go_wp2_with fail
  refine (acts_any a1 len1 cap1 z1 40 w2 H1.out (by decide)).mono ?_
  rintro e w3 ⟨v3, rfl, ho, hb⟩
  have HFTq := Lib.hid (fun x (hx : x ∈ actsOf z1 40) => actsOf_fit x hx)
  have hbq : (actsOf z1 40).length ≤ 40 := actsOf_len z1 40
  generalize actsOf z1 40 = alq at *
  replace HSa := Lib.hid (HSa.out.below hb)
  replace H0 := Lib.hid (H0.out.below hb)
  replace H1 := Lib.hid (H1.out.below hb)
  replace HW := Lib.hid (HW.out.trans (hb.mono HW.out.size))
  obtain ⟨aq, cq, rfl⟩ := ho.shape
  rw [List.length_map] at ho ⊢
  have uq := ho.sl.lens.2.1
  have vq := ho.sl.lens.2.2
  have HSq := Lib.hid ho.sl
  obtain ⟨nq, hnq⟩ : ∃ n, n = (alq).length := ⟨_, rfl⟩
  rw [← hnq] at HSq uq ⊢
  have HNq := Lib.hid hnq
  clear hnq
  have hqq : nq ≤ 40 := by rw [HNq.out]; exact hbq
  clear ho hb
  go_wp2_with fail
  refine (routesOf_any aq cq nq alq w3 HNq.out HSq.out (by have := HNq.out; omega) HFTq.out).mono ?_
  rintro e w4 ⟨v4, rfl, ho, hb⟩
  have HTb := Lib.hid (tend_ok TabOk.nil HFTq.out)
  generalize tend [] alq = Lb at *
  replace HSa := Lib.hid (HSa.out.below hb)
  replace HSq := Lib.hid (HSq.out.below hb)
  replace H0 := Lib.hid (H0.out.below hb)
  replace H1 := Lib.hid (H1.out.below hb)
  replace HW := Lib.hid (HW.out.trans (hb.mono HW.out.size))
  obtain ⟨ab, cb, rfl⟩ := ho.shape
  rw [List.length_map] at ho ⊢
  have ub := ho.sl.lens.2.1
  have vb := ho.sl.lens.2.2
  have HSb := Lib.hid ho.sl
  obtain ⟨nb, hnb⟩ : ∃ n, n = (Lb).length := ⟨_, rfl⟩
  rw [← hnb] at HSb ub ⊢
  have HNb := Lib.hid hnb
  clear hnb
  clear ho hb
  have hLb : nb ≤ 60 := by rw [HNb.out]; exact HTb.out.len
  have HRb := Lib.hid (RtOk.of_tab HTb.out)
  have HPAb := Lib.hid (putAll_srt HTb.out)
  clear HSq
  obtain ⟨X, hX⟩ : ∃ X : World, X = w4 := ⟨_, rfl⟩
  subst hX
  have hzX := HW.out.size
  have PK := Lib.hid (fun w (h : 1 ≤ (na : Int)) => picked_any tn na w h (by omega))
  go_wp2_with fail
  go_loopw [11, 12] (fun v i wr => ∃ m : Nat, m ≤ na ∧ i = .int .i64 m ∧ Hid (Wk.Own wr X.heap.size 53 5 v ((rot La (tn % na).toNat m).map routeCells)) ∧ Hid (Below X.heap.size X wr)) (fun _ i _ => na - (intOf i).toNat)
  case atStart => exact ⟨0, Nat.zero_le _, rfl, Wk.Own.nil _ _ _ _, Below.refl _ _⟩
  case round =>
    obtain ⟨m, hm, rfl, HV, HB⟩ := hrel
    have hzr := HB.out.size
    by_cases hlt : m < na
    · have t0 := Int.emod_nonneg tn (show (na : Int) ≠ 0 by omega)
      have t1 := Int.emod_lt_of_pos tn (show (0 : Int) < na by omega)
      obtain ⟨t, ht⟩ := Int.eq_ofNat_of_zero_le t0
      have PK1 := Lib.hid (fun w => PK.out w (by omega))
      rw [ht] at PK1 t1
      have htn : (tn % (na : Int)).toNat = t := by rw [ht]; rfl
      rw [htn] at HV
      have HTN := Lib.hid htn
      clear htn t0 ht
      have hj : (m + t) % na < na := Nat.mod_lt _ (by omega)
      have ej : (((m + t : Nat) : Int)) % (na : Int) = (((m + t) % na : Nat) : Int) := by omega
      have hj0 : 0 ≤ ((m : Int) + (t : Int)) % (na : Int) := Int.emod_nonneg _ (by omega)
      have hj1 : ((m : Int) + (t : Int)) % (na : Int) < (na : Int) := Int.emod_lt_of_pos _ (by omega)
      obtain ⟨x, hx⟩ : ∃ x, La[(m + t) % na]? = some x := ⟨_, List.getElem?_eq_getElem (by rw [← HNa.out]; exact hj)⟩
      have HAR : Hid (rot La t (m + 1) = rot La t m ++ [x]) := Lib.hid (by rw [rot_succ, ← HNa.out, List.getD_eq_getElem?_getD, hx]; rfl)
      obtain ⟨b, off, rfl, hb, d0, d1, d2, d3, d4⟩ := Sl.route HSa.out HB.out hx
      have HLA := Lib.hid (rot_len La t m)
      clear hx
      generalize rot La t m = R at *
      go_wp2_with (first | ((with_reducible refine (PK1.out _).mono ?_); rintro e w' ⟨rfl, rfl⟩) | (at_builtin; refine stop_at ?_; intro G hG))
      rw [← hG.out]; clear hG G
      refine wpList_append_any rfl _ _ 41 53 5 40 _ rfl eiRoute X.heap.size _ (R.map routeCells) rfl (HV.out.alloc _) _ [routeCells x] rfl (sl_new (c := routeCells x) (by simp) rfl) (by intro c hc; simp at hc; subst hc; exact routeCells_one _) (by have := HLA.out; simp; omega) (by decide) (by simp; omega) ?_
      intro v5 w5 hown5 hb5
      have HV5 := Lib.hid (show Wk.Own w5 X.heap.size 53 5 v5 ((rot La t (m + 1)).map routeCells) by rw [HAR.out, List.map_append]; exact hown5)
      have HB5 := Lib.hid ((HB.out.alloc hzr _).trans hb5)
      clear hown5 hb5
      go_wp2_with fail
      go_roundw
      case rel => exact ⟨m + 1, by omega, by go_num, by rw [HTN.out]; exact HV5, HB5⟩
      case measure => simp [intOf]; omega
    · obtain rfl : m = na := by omega
      have HRO := Lib.hid (rot_ok HRa.out (tn % (m : Int)).toNat)
      have HRA := Lib.hid (rot_all HTa.out (tn % (m : Int)).toNat)
      have HRL := Lib.hid (rot_len La (tn % (m : Int)).toNat m)
      rw [← HNa.out] at HRO HRA
      generalize rot La (tn % (m : Int)).toNat m = R at *
      have ho := HV.out
      have hb := HB.out
      clear HV HB
      replace HSa := Lib.hid (HSa.out.below hb)
      replace HSb := Lib.hid (HSb.out.below hb)
      replace HW := Lib.hid (HW.out.trans (hb.mono HW.out.size))
      obtain ⟨ao, co, rfl⟩ := ho.shape
      rw [List.length_map] at ho ⊢
      have uo := ho.sl.lens.2.1
      have vo := ho.sl.lens.2.2
      have HSo := Lib.hid ho.sl
      obtain ⟨no, hno⟩ : ∃ n, n = (R).length := ⟨_, rfl⟩
      rw [← hno] at HSo uo ⊢
      have HNo := Lib.hid hno
      clear hno
      clear ho hb
      have hqo : m = no := by rw [HNo.out, HRL.out]
      subst hqo
      go_wp2_with (at_builtin; refine stop_at ?_; intro G hG)
      rw [← hG.out]; clear hG G
      refine wpList_append_any rfl _ _ 41 53 5 40 _ rfl eiRoute _ (.slice none 0 0) [] rfl (Wk.Own.nil _ _ _ _) (.slice aa m ca) ((La).map routeCells) rfl HSa.out (by intro c hc; obtain ⟨r, _, rfl⟩ := List.mem_map.1 hc; exact routeCells_one r) (by have := HNa.out; simp; omega) (by decide) (Nat.le_refl _) ?_
      intro v6 w6 ho hb
      rw [List.nil_append] at ho
      replace HSa := Lib.hid (HSa.out.below hb)
      replace HSb := Lib.hid (HSb.out.below hb)
      replace HSo := Lib.hid (HSo.out.below hb)
      replace HW := Lib.hid (HW.out.trans (hb.mono HW.out.size))
      obtain ⟨ac1, cc1, rfl⟩ := ho.shape
      rw [List.length_map] at ho ⊢
      have uc1 := ho.sl.lens.2.1
      have vc1 := ho.sl.lens.2.2
      have HSc1 := Lib.hid ho.sl
      obtain ⟨nc1, hnc1⟩ : ∃ n, n = (La).length := ⟨_, rfl⟩
      rw [← hnc1] at HSc1 uc1 ⊢
      have HNc1 := Lib.hid hnc1
      clear hnc1
      have hqc1 : nc1 = m := by rw [HNc1.out, HNa.out]
      rw [hqc1] at HSc1 uc1 ⊢
      clear hqc1 HNc1
      have HNc1 := HNa
      clear ho hb
      go_wp2_with (at_builtin; refine stop_at ?_; intro G hG)
      rw [← hG.out]; clear hG G
      refine wpList_append_any rfl _ _ 41 53 5 40 _ rfl eiRoute _ (.slice none 0 0) [] rfl (Wk.Own.nil _ _ _ _) (.slice ab nb cb) ((Lb).map routeCells) rfl HSb.out (by intro c hc; obtain ⟨r, _, rfl⟩ := List.mem_map.1 hc; exact routeCells_one r) (by have := HNb.out; simp; omega) (by decide) (Nat.le_refl _) ?_
      intro v7 w7 ho hb
      rw [List.nil_append] at ho
      replace HSa := Lib.hid (HSa.out.below hb)
      replace HSb := Lib.hid (HSb.out.below hb)
      replace HSo := Lib.hid (HSo.out.below hb)
      replace HSc1 := Lib.hid (HSc1.out.below hb)
      replace HW := Lib.hid (HW.out.trans (hb.mono HW.out.size))
      obtain ⟨ac2, cc2, rfl⟩ := ho.shape
      rw [List.length_map] at ho ⊢
      have uc2 := ho.sl.lens.2.1
      have vc2 := ho.sl.lens.2.2
      have HSc2 := Lib.hid ho.sl
      obtain ⟨nc2, hnc2⟩ : ∃ n, n = (Lb).length := ⟨_, rfl⟩
      rw [← hnc2] at HSc2 uc2 ⊢
      have HNc2 := Lib.hid hnc2
      clear hnc2
      have hqc2 : nc2 = nb := by rw [HNc2.out, HNb.out]
      rw [hqc2] at HSc2 uc2 ⊢
      clear hqc2 HNc2
      have HNc2 := HNb
      clear ho hb
      go_wp2_with fail
      refine (ddiff_any ac1 cc1 _ ac2 cc2 _ La Lb w7 HNc1.out HNc2.out HSc1.out HSc2.out HRa.out HRb.out).mono ?_
      rintro e w8 ⟨v8, rfl, ho, hb⟩
      rw [HPAa.out, HPAb.out] at ho
      replace HSa := Lib.hid (HSa.out.below hb)
      replace HSb := Lib.hid (HSb.out.below hb)
      replace HSo := Lib.hid (HSo.out.below hb)
      replace HSc1 := Lib.hid (HSc1.out.below hb)
      replace HSc2 := Lib.hid (HSc2.out.below hb)
      replace HW := Lib.hid (HW.out.trans (hb.mono HW.out.size))
      obtain ⟨ax, cx, rfl⟩ := ho.shape
      rw [List.length_map] at ho ⊢
      have ux := ho.sl.lens.2.1
      have vx := ho.sl.lens.2.2
      have HSx := Lib.hid ho.sl
      obtain ⟨nx, hnx⟩ : ∃ n, n = (diffL La Lb).length := ⟨_, rfl⟩
      rw [← hnx] at HSx ux ⊢
      have HNx := Lib.hid hnx
      clear hnx
      clear ho hb
      clear HSc1
      clear HSc2
      go_wp2_with (at_builtin; refine stop_at ?_; intro G hG)
      rw [← hG.out]; clear hG G
      refine wpList_append_any rfl _ _ 41 53 5 40 _ rfl eiRoute _ (.slice none 0 0) [] rfl (Wk.Own.nil _ _ _ _) (.slice ab nb cb) ((Lb).map routeCells) rfl HSb.out (by intro c hc; obtain ⟨r, _, rfl⟩ := List.mem_map.1 hc; exact routeCells_one r) (by have := HNb.out; simp; omega) (by decide) (Nat.le_refl _) ?_
      intro v9 w9 ho hb
      rw [List.nil_append] at ho
      replace HSa := Lib.hid (HSa.out.below hb)
      replace HSb := Lib.hid (HSb.out.below hb)
      replace HSo := Lib.hid (HSo.out.below hb)
      replace HSx := Lib.hid (HSx.out.below hb)
      replace HW := Lib.hid (HW.out.trans (hb.mono HW.out.size))
      obtain ⟨ac3, cc3, rfl⟩ := ho.shape
      rw [List.length_map] at ho ⊢
      have uc3 := ho.sl.lens.2.1
      have vc3 := ho.sl.lens.2.2
      have HSc3 := Lib.hid ho.sl
      obtain ⟨nc3, hnc3⟩ : ∃ n, n = (Lb).length := ⟨_, rfl⟩
      rw [← hnc3] at HSc3 uc3 ⊢
      have HNc3 := Lib.hid hnc3
      clear hnc3
      have hqc3 : nc3 = nb := by rw [HNc3.out, HNb.out]
      rw [hqc3] at HSc3 uc3 ⊢
      clear hqc3 HNc3
      have HNc3 := HNb
      clear ho hb
      go_wp2_with fail
      refine (ddiff_any ao co _ ac3 cc3 _ R Lb w9 HNo.out HNc3.out HSo.out HSc3.out HRO.out HRb.out).mono ?_
      rintro e w10 ⟨v10, rfl, ho, hb⟩
      rw [HRA.out, HPAb.out] at ho
      replace HSa := Lib.hid (HSa.out.below hb)
      replace HSb := Lib.hid (HSb.out.below hb)
      replace HSo := Lib.hid (HSo.out.below hb)
      replace HSx := Lib.hid (HSx.out.below hb)
      replace HSc3 := Lib.hid (HSc3.out.below hb)
      replace HW := Lib.hid (HW.out.trans (hb.mono HW.out.size))
      obtain ⟨ay, cy, rfl⟩ := ho.shape
      rw [List.length_map] at ho ⊢
      have uy := ho.sl.lens.2.1
      have vy := ho.sl.lens.2.2
      have HSy := Lib.hid ho.sl
      obtain ⟨ny, hny⟩ : ∃ n, n = (diffL La Lb).length := ⟨_, rfl⟩
      rw [← hny] at HSy uy ⊢
      have HNy := Lib.hid hny
      clear hny
      clear ho hb
      clear HSc3
      go_wp2_with (at_builtin; refine stop_at ?_; intro G hG)
      rw [← hG.out]; clear hG G
      refine wpList_append_any rfl _ _ 41 53 5 40 _ rfl eiRoute _ (.slice none 0 0) [] rfl (Wk.Own.nil _ _ _ _) (.slice aa m ca) ((La).map routeCells) rfl HSa.out (by intro c hc; obtain ⟨r, _, rfl⟩ := List.mem_map.1 hc; exact routeCells_one r) (by have := HNa.out; simp; omega) (by decide) (Nat.le_refl _) ?_
      intro v11 w11 ho hb
      rw [List.nil_append] at ho
      replace HSa := Lib.hid (HSa.out.below hb)
      replace HSb := Lib.hid (HSb.out.below hb)
      replace HSo := Lib.hid (HSo.out.below hb)
      replace HSx := Lib.hid (HSx.out.below hb)
      replace HSy := Lib.hid (HSy.out.below hb)
      replace HW := Lib.hid (HW.out.trans (hb.mono HW.out.size))
      obtain ⟨ac4, cc4, rfl⟩ := ho.shape
      rw [List.length_map] at ho ⊢
      have uc4 := ho.sl.lens.2.1
      have vc4 := ho.sl.lens.2.2
      have HSc4 := Lib.hid ho.sl
      obtain ⟨nc4, hnc4⟩ : ∃ n, n = (La).length := ⟨_, rfl⟩
      rw [← hnc4] at HSc4 uc4 ⊢
      have HNc4 := Lib.hid hnc4
      clear hnc4
      have hqc4 : nc4 = m := by rw [HNc4.out, HNa.out]
      rw [hqc4] at HSc4 uc4 ⊢
      clear hqc4 HNc4
      have HNc4 := HNa
      clear ho hb
      go_wp2_with (at_builtin; refine stop_at ?_; intro G hG)
      rw [← hG.out]; clear hG G
      refine wpList_append_any rfl _ _ 41 53 5 40 _ rfl eiRoute _ (.slice none 0 0) [] rfl (Wk.Own.nil _ _ _ _) (.slice ao m co) ((R).map routeCells) rfl HSo.out (by intro c hc; obtain ⟨r, _, rfl⟩ := List.mem_map.1 hc; exact routeCells_one r) (by have := HNo.out; simp; omega) (by decide) (Nat.le_refl _) ?_
      intro v12 w12 ho hb
      rw [List.nil_append] at ho
      replace HSa := Lib.hid (HSa.out.below hb)
      replace HSb := Lib.hid (HSb.out.below hb)
      replace HSo := Lib.hid (HSo.out.below hb)
      replace HSx := Lib.hid (HSx.out.below hb)
      replace HSy := Lib.hid (HSy.out.below hb)
      replace HSc4 := Lib.hid (HSc4.out.below hb)
      replace HW := Lib.hid (HW.out.trans (hb.mono HW.out.size))
      obtain ⟨ac5, cc5, rfl⟩ := ho.shape
      rw [List.length_map] at ho ⊢
      have uc5 := ho.sl.lens.2.1
      have vc5 := ho.sl.lens.2.2
      have HSc5 := Lib.hid ho.sl
      obtain ⟨nc5, hnc5⟩ : ∃ n, n = (R).length := ⟨_, rfl⟩
      rw [← hnc5] at HSc5 uc5 ⊢
      have HNc5 := Lib.hid hnc5
      clear hnc5
      have hqc5 : nc5 = m := by rw [HNc5.out, HNo.out]
      rw [hqc5] at HSc5 uc5 ⊢
      clear hqc5 HNc5
      have HNc5 := HNo
      clear ho hb
      go_wp2_with fail
      refine (ddiff_any ac4 cc4 _ ac5 cc5 _ La R w12 HNc4.out HNc5.out HSc4.out HSc5.out HRa.out HRO.out).mono ?_
      rintro e w13 ⟨v13, rfl, ho, hb⟩
      rw [HPAa.out, HRA.out] at ho
      replace HSa := Lib.hid (HSa.out.below hb)
      replace HSb := Lib.hid (HSb.out.below hb)
      replace HSo := Lib.hid (HSo.out.below hb)
      replace HSx := Lib.hid (HSx.out.below hb)
      replace HSy := Lib.hid (HSy.out.below hb)
      replace HSc4 := Lib.hid (HSc4.out.below hb)
      replace HSc5 := Lib.hid (HSc5.out.below hb)
      replace HW := Lib.hid (HW.out.trans (hb.mono HW.out.size))
      obtain ⟨az, cz, rfl⟩ := ho.shape
      rw [List.length_map] at ho ⊢
      have uz := ho.sl.lens.2.1
      have vz := ho.sl.lens.2.2
      have HSz := Lib.hid ho.sl
      obtain ⟨nz, hnz⟩ : ∃ n, n = (diffL La La).length := ⟨_, rfl⟩
      rw [← hnz] at HSz uz ⊢
      have HNz := Lib.hid hnz
      clear hnz
      clear ho hb
      clear HSc4
      clear HSc5
      have hz0 : nz = 0 := by rw [HNz.out, diff_self HTa.out]; rfl
      subst hz0
      have hxy : nx = ny := by rw [HNx.out, HNy.out]
      subst hxy
      have hqx : nx ≤ 120 := by
        rw [HNx.out]
        have := diff_len La Lb
        have := HTa.out.len
        have := HTb.out.len
        omega
      obtain ⟨X, hX⟩ : ∃ X : World, X = w13 := ⟨_, rfl⟩
      subst hX
      have hBX : Below X.heap.size X (X.alloc (.cells (routeCells (0, 0, 3)).toArray 53)) := (Below.refl _ _).alloc (Nat.le_refl _) _
      have HBX := Lib.hid hBX
      clear hBX
      go_wp2_with fail
      refine (ddiff_any none 0 0 (some ⟨X.heap.size, 0, none⟩) 1 1 [] [(0, 0, 3)] _ rfl rfl (Sl.empty _ _ _ _ (by decide)) (sl_new (c := routeCells (0, 0, 3)) rfl rfl) rtok_nil rtok_one).mono ?_
      rintro e wd ⟨vd, rfl, ho, hb⟩
      rw [diff_one] at ho
      have HBd := Lib.hid (HBX.out.trans (hb.mono HBX.out.size))
      obtain ⟨ad, cd, rfl⟩ := ho.shape
      replace HSx := Lib.hid (HSx.out.below HBd.out)
      replace HSy := Lib.hid (HSy.out.below HBd.out)
      replace HW := Lib.hid (HW.out.trans (HBd.out.mono HW.out.size))
      have hzd := HW.out.size
      clear ho hb HSa HSb HSo HSz HBX HBd
      generalize diffL La Lb = D at *
      go_wp2_with fail
      go_loopw [21] (fun i wr => ∃ m : Nat, m ≤ nx ∧ i = .int .i64 m ∧ Hid (Below wd.heap.size wd wr)) (fun i _ => nx - (intOf i).toNat)
      case atStart => exact ⟨0, Nat.zero_le _, rfl, Below.refl _ _⟩
      case round =>
        obtain ⟨t, ht, rfl, HB⟩ := hrel
        by_cases hlt2 : t < nx
        · obtain ⟨r, hr⟩ : ∃ r, D[t]? = some r := ⟨_, List.getElem?_eq_getElem (by rw [← HNx.out]; exact hlt2)⟩
          obtain ⟨b1, o1, rfl, hb1, r0, r1, r2, r3, r4, r5, r6, r7, r8⟩ := Sl.act HSx.out HB.out hr
          obtain ⟨b2, o2, rfl, hb2, s0, s1, s2, s3, s4, s5, s6, s7, s8⟩ := Sl.act HSy.out HB.out hr
          clear hr
          go_wp2_with fail
          go_quiet (fail)
          go_wp2
          go_roundw
          case rel => exact ⟨t + 1, by omega, by go_num, below_drewN HB.out _⟩
          case measure => simp [intOf]; omega
        · obtain rfl : t = nx := by omega
          go_wp2
          go_returns
          exact ⟨rfl, HW.out.trans (HB.out.mono hzd)⟩
end Go.Proofs.Yteadfobfenopkaa
