
/- DeltaParts: the walk. -/
import Derived.Test.YteadfobfenopkaaDelX
set_option linter.unusedVariables false
set_option linter.unusedSimpArgs false
namespace Go.Proofs.Yteadfobfenopkaa
open Go Go.RowKit Go.Sort Wc Wk

def putsIn (l : List ActD) : List ActD := l.filter (fun x => x.kind == 1)
theorem putsIn_snoc {l : List ActD} {m : Nat} {x : ActD} (hx : l[m]? = some x) : putsIn (l.take (m + 1)) = putsIn (l.take m) ++ (if x.kind = 1 then [x] else []) := by
  unfold putsIn
  rw [List.take_add_one, hx, List.filter_append]
  congr 1
  by_cases h : x.kind = 1
  · rw [if_pos h]; simp [h]
  · rw [if_neg h]; simp [h]
theorem putsIn_len (l : List ActD) : (putsIn l).length ≤ l.length := List.length_filter_le _ _
theorem putsIn_ok {l : List ActD} (h : ∀ x ∈ l, x.fit) : ∀ x ∈ putsIn l, x.fit ∧ x.kind = 1 := by
  intro x hx
  unfold putsIn at hx
  rw [List.mem_filter] at hx
  exact ⟨h x hx.1, by simpa using hx.2⟩
theorem rtok_none : RtOk [] := ⟨fun x h => (List.not_mem_nil h).elim, fun x h => (List.not_mem_nil h).elim, fun x h => (List.not_mem_nil h).elim, List.Pairwise.nil, Nat.zero_le _⟩
def putOne : List ActD := [⟨1, 0, 0, 3, 0⟩]
theorem putOne_ok : ∀ x ∈ putOne, x.fit ∧ (x.kind = 1 ∨ x.kind = 2) := by
  intro x hx
  simp [putOne] at hx
  subst hx
  exact ⟨⟨vp00, fits0, (by decide : 1 ≤ 1 ∧ 1 ≤ 4), fun _ => (by decide : 1 ≤ 3), (by decide : 3 ≤ 999)⟩, .inl rfl⟩
theorem putOne_all : AllOk (putAll []) putOne := by
  intro a ha
  have ha : a ∈ [(⟨0, 0, 0⟩ : AnsD)] := ha
  simp at ha
  rw [ha]
theorem putOne_end : tend (putAll []) putOne = [(0, 0, 3)] := by rfl

set_option maxRecDepth 100000 in
set_option maxHeartbeats 8000000 in
theorem deltaParts_walk (a0 : Option Addr) (len0 cap0 : Nat) (z0 : List RawJ) (a1 : Option Addr) (len1 cap1 : Nat) (z1 : List RawJ) (ct : Int) (w : World) (h0 : IsJobs w a0 len0 cap0 z0) (h1 : IsJobs w a1 len1 cap1 z1) (hk : -9223372036854775808 ≤ ct ∧ ct ≤ 9223372036854775807) :
    Calls Try.prog 4 #[.slice a0 len0 cap0, .slice a1 len1 cap1, .int .i64 ct] w fun e w' => e = .returned (.bool true) ∧ Below w.heap.size w w' := by
  have H0 := Lib.hid h0
  have H1 := Lib.hid h1
  have HW := Lib.hid (Below.refl w.heap.size w)
  clear h0 h1
  go_enter Try.func4, Try.ntmps4
  go_wp2_with fail
  refine (acts_any a0 len0 cap0 z0 25 w H0.out (by decide)).mono ?_
  rintro e w1 ⟨v1, rfl, ho, hb⟩
  have HFTp := Lib.hid (fun x (hx : x ∈ actsOf z0 25) => actsOf_fit x hx)
  have hbp : (actsOf z0 25).length ≤ 25 := actsOf_len z0 25
  generalize actsOf z0 25 = alp at *
  replace H0 := Lib.hid (H0.out.below hb)
  replace H1 := Lib.hid (H1.out.below hb)
  replace HW := Lib.hid (HW.out.trans (hb.mono HW.out.size))
  obtain ⟨ap, cp, rfl⟩ := ho.shape
  rw [List.length_map] at ho ⊢
  have up := ho.sl.lens.2.1
  have vp := ho.sl.lens.2.2
  have HSp := Lib.hid ho.sl
  obtain ⟨np, hnp⟩ : ∃ n, n = (alp).length := ⟨_, rfl⟩
  rw [← hnp] at HSp up ⊢
  have HNp := Lib.hid hnp
  clear hnp
  have hqp : np ≤ 25 := by rw [HNp.out]; exact hbp
  clear ho hb
  go_wp2_with fail
  refine (routesOf_any ap cp np alp w1 HNp.out HSp.out (by have := HNp.out; omega) HFTp.out).mono ?_
  rintro e w2 ⟨v2, rfl, ho, hb⟩
  have HTa := Lib.hid (tend_ok TabOk.nil HFTp.out)
  have HLQ := Lib.hid (tend_len (L := []) TabOk.nil HFTp.out)
  generalize tend [] alp = La at *
  replace HSp := Lib.hid (HSp.out.below hb)
  replace H0 := Lib.hid (H0.out.below hb)
  replace H1 := Lib.hid (H1.out.below hb)
  replace HW := Lib.hid (HW.out.trans (hb.mono HW.out.size))
  obtain ⟨aa, ca, rfl⟩ := ho.shape
  rw [List.length_map] at ho ⊢
  have ua := ho.sl.lens.2.1
  have va := ho.sl.lens.2.2
  have HSa := Lib.hid ho.sl
  obtain ⟨na, hna⟩ : ∃ n, n = (La).length := ⟨_, rfl⟩
  rw [← hna] at HSa ua ⊢
  have HNa := Lib.hid hna
  clear hna
  clear ho hb
  have hLa : na ≤ 60 := by rw [HNa.out]; exact HTa.out.len
  have HRa := Lib.hid (RtOk.of_tab HTa.out)
  have HPAa := Lib.hid (putAll_srt HTa.out)
  have hqa : na ≤ 25 := by rw [HNa.out]; have := HLQ.out; have := HNp.out; simp at *; omega
  clear HSp
  go_wp2_with fail
  refine (acts_any a1 len1 cap1 z1 25 w2 H1.out (by decide)).mono ?_
  rintro e w3 ⟨v3, rfl, ho, hb⟩
  have HFTq := Lib.hid (fun x (hx : x ∈ actsOf z1 25) => actsOf_fit x hx)
  have hbq : (actsOf z1 25).length ≤ 25 := actsOf_len z1 25
  generalize actsOf z1 25 = alq at *
  replace HSa := Lib.hid (HSa.out.below hb)
  replace H0 := Lib.hid (H0.out.below hb)
  replace H1 := Lib.hid (H1.out.below hb)
  replace HW := Lib.hid (HW.out.trans (hb.mono HW.out.size))
  obtain ⟨aq, cq, rfl⟩ := ho.shape
  rw [List.length_map] at ho ⊢
  have uq := ho.sl.lens.2.1
  have vq := ho.sl.lens.2.2
  have HSq := Lib.hid ho.sl
  obtain ⟨nq, hnq⟩ : ∃ n, n = (alq).length := ⟨_, rfl⟩
  rw [← hnq] at HSq uq ⊢
  have HNq := Lib.hid hnq
  clear hnq
  have hqq : nq ≤ 25 := by rw [HNq.out]; exact hbq
  clear ho hb
  obtain ⟨X, hX⟩ : ∃ X : World, X = w3 := ⟨_, rfl⟩
  subst hX
  have hzX := HW.out.size
  go_wp2_with fail
  go_loopw [9, 11] (fun v i wr => ∃ m : Nat, m ≤ nq ∧ i = .int .i64 m ∧ Hid (Wk.Own wr X.heap.size 35 9 v ((putsIn (alq.take m)).map actCells)) ∧ Hid (Below X.heap.size X wr)) (fun _ i _ => nq - (intOf i).toNat)
  case atStart => exact ⟨0, Nat.zero_le _, rfl, Wk.Own.nil _ _ _ _, Below.refl _ _⟩
  case round =>
    obtain ⟨m, hm, rfl, HV, HB⟩ := hrel
    have hzr := HB.out.size
    by_cases hlt : m < nq
    · obtain ⟨x, hx⟩ : ∃ x, alq[m]? = some x := ⟨_, List.getElem?_eq_getElem (by rw [← HNq.out]; exact hlt)⟩
      obtain ⟨b, off, rfl, hb, d0, d1, d2, d3, d4, d5, d6, d7, d8⟩ := Sl.act HSq.out HB.out hx
      have HAR := Lib.hid (putsIn_snoc hx)
      have HLA := Lib.hid (Nat.le_trans (putsIn_len (alq.take m)) (List.length_take_le m alq))
      clear hx
      generalize putsIn (alq.take m) = R at *
      by_cases hp : x.kind = 1
      · rw [if_pos hp] at HAR
        have hd : ((x.kind : Int) == 1) = true := by rw [hp]; rfl
        clear hp
        go_wp2_with (at_builtin; refine stop_at ?_; intro G hG)
        rw [← hG.out]; clear hG G
        refine wpList_append_any rfl _ _ 28 35 9 72 _ rfl eiAct X.heap.size _ (R.map actCells) rfl (HV.out.alloc _) _ [actCells x] rfl (sl_new (c := actCells x) (by simp) rfl) (by intro c hc; simp at hc; subst hc; exact actCells_one _) (by have := HLA.out; simp; omega) (by decide) (by simp; omega) ?_
        intro v5 w5 hown5 hb5
        have HV5 := Lib.hid (show Wk.Own w5 X.heap.size 35 9 v5 ((putsIn (alq.take (m + 1))).map actCells) by rw [HAR.out, List.map_append]; exact hown5)
        have HB5 := Lib.hid ((HB.out.alloc hzr _).trans hb5)
        clear hown5 hb5
        go_wp2_with fail
        go_roundw
        case rel => exact ⟨m + 1, by omega, by go_num, HV5, HB5⟩
        case measure => simp [intOf]; omega
      · rw [if_neg hp, List.append_nil] at HAR
        have hd : ((x.kind : Int) == 1) = false := by rw [beq_eq_false_iff_ne]; omega
        rw [← HAR.out] at HV
        clear hp
        go_wp2_with fail
        go_roundw
        case rel => exact ⟨m + 1, by omega, by go_num, HV, HB⟩
        case measure => simp [intOf]; omega
    · obtain rfl : m = nq := by omega
      rw [HNq.out, List.take_of_length_le (Nat.le_refl _)] at HV
      have HQF := Lib.hid (putsIn_ok (l := alq) HFTq.out)
      have HQL := Lib.hid (putsIn_len alq)
      have hqQ : (putsIn alq).length ≤ 25 := by have := HQL.out; have := HNq.out; omega
      generalize putsIn alq = Q at *
      have ho := HV.out
      have hb := HB.out
      clear HV HB HSq
      replace HSa := Lib.hid (HSa.out.below hb)
      replace HW := Lib.hid (HW.out.trans (hb.mono HW.out.size))
      obtain ⟨af, cf, rfl⟩ := ho.shape
      rw [List.length_map] at ho ⊢
      have uf := ho.sl.lens.2.1
      have vf := ho.sl.lens.2.2
      have HSf := Lib.hid ho.sl
      obtain ⟨nf, hnf⟩ : ∃ n, n = (Q).length := ⟨_, rfl⟩
      rw [← hnf] at HSf uf ⊢
      have HNf := Lib.hid hnf
      clear hnf
      have HOf := Lib.hid ho
      rw [← HNf.out] at HOf hqQ
      clear ho hb
      have PK := Lib.hid (fun w => picked_any ct ((nf : Int) + 1) w (by omega) (by omega))
      have t0 := Int.emod_nonneg ct (show ((nf : Int) + 1) ≠ 0 by omega)
      have t1 := Int.emod_lt_of_pos ct (show (0 : Int) < (nf : Int) + 1 by omega)
      obtain ⟨p, hp⟩ := Int.eq_ofNat_of_zero_le t0
      rw [hp] at PK t1
      clear hp t0
      have hpn : p ≤ nf := by omega
      clear t1
      have HALL := Lib.hid (puts_small HTa.out (q := Q) HQF.out (by rw [← HNa.out, ← HNf.out]; omega))
      have HQ1 := Lib.hid (show Q.take p ++ Q.drop p = Q from List.take_append_drop p Q)
      go_wp2_with (first | ((with_reducible refine (PK.out _).mono ?_); rintro e w' ⟨rfl, rfl⟩) | (at_builtin; refine stop_at ?_; intro G hG))
      skip
      rw [← hG.out]; clear hG G
      refine wpList_append_any rfl _ _ 41 53 5 40 _ rfl eiRoute _ (.slice none 0 0) [] rfl (Wk.Own.nil _ _ _ _) (.slice aa na ca) ((La).map routeCells) rfl HSa.out (by intro c hc; obtain ⟨r, _, rfl⟩ := List.mem_map.1 hc; exact routeCells_one r) (by have := HNa.out; simp; omega) (by decide) (Nat.le_refl _) ?_
      intro v5 w5 ho hb
      rw [List.nil_append] at ho
      replace HSa := Lib.hid (HSa.out.below hb)
      replace HSf := Lib.hid (HSf.out.below hb)
      replace HOf := Lib.hid (HOf.out.below hb)
      replace HW := Lib.hid (HW.out.trans (hb.mono HW.out.size))
      obtain ⟨ac1, cc1, rfl⟩ := ho.shape
      rw [List.length_map] at ho ⊢
      have uc1 := ho.sl.lens.2.1
      have vc1 := ho.sl.lens.2.2
      have HSc1 := Lib.hid ho.sl
      obtain ⟨nc1, hnc1⟩ : ∃ n, n = (La).length := ⟨_, rfl⟩
      rw [← hnc1] at HSc1 uc1 ⊢
      have HNc1 := Lib.hid hnc1
      clear hnc1
      have hqc1 : nc1 = na := by rw [HNc1.out, HNa.out]
      rw [hqc1] at HSc1 uc1 ⊢
      clear hqc1 HNc1
      have HNc1 := HNa
      clear ho hb
      go_wp2_with (at_builtin; refine stop_at ?_; intro G hG)
      rw [← hG.out]; clear hG G
      refine wpList_append_any rfl _ _ 28 35 9 72 _ rfl eiAct _ (.slice none 0 0) [] rfl (Wk.Own.nil _ _ _ _) (.slice af nf cf) ((Q).map actCells) rfl HSf.out (by intro c hc; obtain ⟨r, _, rfl⟩ := List.mem_map.1 hc; exact actCells_one r) (by have := HNf.out; simp; omega) (by decide) (Nat.le_refl _) ?_
      intro v6 w6 ho hb
      rw [List.nil_append] at ho
      replace HSa := Lib.hid (HSa.out.below hb)
      replace HSf := Lib.hid (HSf.out.below hb)
      replace HSc1 := Lib.hid (HSc1.out.below hb)
      replace HOf := Lib.hid (HOf.out.below hb)
      replace HW := Lib.hid (HW.out.trans (hb.mono HW.out.size))
      obtain ⟨ac2, cc2, rfl⟩ := ho.shape
      rw [List.length_map] at ho ⊢
      have uc2 := ho.sl.lens.2.1
      have vc2 := ho.sl.lens.2.2
      have HSc2 := Lib.hid ho.sl
      obtain ⟨nc2, hnc2⟩ : ∃ n, n = (Q).length := ⟨_, rfl⟩
      rw [← hnc2] at HSc2 uc2 ⊢
      have HNc2 := Lib.hid hnc2
      clear hnc2
      have hqc2 : nc2 = nf := by rw [HNc2.out, HNf.out]
      rw [hqc2] at HSc2 uc2 ⊢
      clear hqc2 HNc2
      have HNc2 := HNf
      clear ho hb
      go_wp2_with fail
      refine (dapply_any ac1 cc1 _ ac2 cc2 _ La Q w6 HNc1.out HNc2.out HSc1.out HSc2.out HRa.out (by rw [← HNf.out]; omega) (fun x hx => ⟨(HQF.out x hx).1, .inl (HQF.out x hx).2⟩) (by rw [HPAa.out]; exact HALL.out)).mono ?_
      rintro e w7 ⟨v7, rfl, ho, hb⟩
      rw [HPAa.out] at ho
      replace HSa := Lib.hid (HSa.out.below hb)
      replace HSf := Lib.hid (HSf.out.below hb)
      replace HSc1 := Lib.hid (HSc1.out.below hb)
      replace HSc2 := Lib.hid (HSc2.out.below hb)
      replace HOf := Lib.hid (HOf.out.below hb)
      replace HW := Lib.hid (HW.out.trans (hb.mono HW.out.size))
      obtain ⟨ax, cx, rfl⟩ := ho.shape
      rw [List.length_map] at ho ⊢
      have ux := ho.sl.lens.2.1
      have vx := ho.sl.lens.2.2
      have HSx := Lib.hid ho.sl
      obtain ⟨nx, hnx⟩ : ∃ n, n = (tend La Q).length := ⟨_, rfl⟩
      rw [← hnx] at HSx ux ⊢
      have HNx := Lib.hid hnx
      clear hnx
      clear ho hb
      clear HSc1
      clear HSc2
      obtain ⟨HTK0, hs1⟩ := act_take HOf.out p hpn
      obtain ⟨ad, cd, HDR0, hs2⟩ := act_drop HOf.out p hpn
      have HTK := Lib.hid HTK0
      have HDR := Lib.hid HDR0
      have HS1 := Lib.hid hs1
      have HS2 := Lib.hid hs2
      have HF1 := Lib.hid (show ∀ x ∈ Q.take p, x.fit ∧ x.kind = 1 from fun x hx => HQF.out x (List.mem_of_mem_take hx))
      have HF2 := Lib.hid (show ∀ x ∈ Q.drop p, x.fit ∧ x.kind = 1 from fun x hx => HQF.out x (List.mem_of_mem_drop hx))
      have HL1 := Lib.hid (show p = (Q.take p).length by rw [List.length_take, ← HNf.out]; omega)
      have HL2 := Lib.hid (show nf - p = (Q.drop p).length by rw [List.length_drop, ← HNf.out])
      have HA12 := HALL
      rw [← HQ1.out] at HA12
      have HA1 := Lib.hid HA12.out.left
      have HA2 := Lib.hid HA12.out.right
      have HTT := Lib.hid (show tend (tend La (Q.take p)) (Q.drop p) = tend La Q by rw [← tend_app, HQ1.out])
      clear HTK0 HDR0 hs1 hs2 HA12 HQ1
      generalize Q.take p = Q1 at *
      generalize Q.drop p = Q2 at *
      generalize hq2 : nf - p = q2 at *
      have hq25 : q2 ≤ 25 := by omega
      clear hq2
      have HTM := Lib.hid (tend_ok HTa.out (l := Q1) (fun x hx => (HF1.out x hx).1))
      have HRM := Lib.hid (RtOk.of_tab HTM.out)
      have HPM := Lib.hid (putAll_srt HTM.out)
      generalize hM : tend La Q1 = M at *
      have HM := Lib.hid hM
      clear hM
      have htk := HTK.out
      go_upto_region 11 with fail
      go_cut [15, 16] (fun vr vc wx => ∃ ar cr, vr = .slice ar (M).length cr ∧ vc = .int .i64 0 ∧ Hid (Wk.Own wx w7.heap.size 53 5 (.slice ar (M).length cr) ((M).map routeCells)) ∧ Hid (Below w7.heap.size w7 wx))
      case first =>
        have hzw : w7.heap.size ≤ w7.heap.size := Nat.le_refl _
        refine wp_region_held_drew (S := (fun w' => Below w7.heap.size w7 w')) (by kernel_rfl) ?_ (fun hHeld => ?_)
        · ((try dsimp only); (repeat' (first | (with_reducible exact Below.refl _ _) | (with_reducible assumption) | (with_reducible refine Below.alloc ?_ ?_ _) | (with_reducible refine Below.drew ?_) | (with_reducible refine Below.stepG ?_ (by assumption) ?_) | (with_reducible refine Below.setCell ?_ ?_ _) | omega | (dsimp only; omega) | (simp; done) | (simp; omega))))
        (refine wpAnyH_take (i := 0) (oi := _) (v := ?_) (by simp only [List.getElem?_toArray, List.getElem?_cons_zero, List.getElem?_cons_succ]; rfl) (by kernel_rfl) (by decide +kernel) (by decide +kernel) (by exact fun _ _ _ h => h) (Or.inl ⟨by rfl, ?_⟩) (by assumption) ?_; rotate_left; (· ((intro w hSw); (have hSc := Below.cellAt hSw); clear hSw; go_simp; (try with_reducible rfl))); (try simp only [Act.put, List.setIfInBounds_toArray, List.set_cons_zero, List.set_cons_succ]))
        (refine wpAnyH_take (i := 2) (oi := _) (v := ?_) (by simp only [List.getElem?_toArray, List.getElem?_cons_zero, List.getElem?_cons_succ]; rfl) (by kernel_rfl) (by decide +kernel) (by decide +kernel) (by exact fun _ _ _ h => h) (Or.inl ⟨by rfl, ?_⟩) (by assumption) ?_; rotate_left; (· ((intro w hSw); (have hSc := Below.cellAt hSw); clear hSw; go_simp; (try with_reducible rfl))); (try simp only [Act.put, List.setIfInBounds_toArray, List.set_cons_zero, List.set_cons_succ]))
        (refine wpAnyH_take (i := 3) (oi := _) (v := ?_) (by simp only [List.getElem?_toArray, List.getElem?_cons_zero, List.getElem?_cons_succ]; rfl) (by kernel_rfl) (by decide +kernel) (by decide +kernel) (by exact fun _ _ _ h => h) (Or.inl ⟨by rfl, ?_⟩) (by assumption) ?_; rotate_left; (· ((intro w hSw); (have hSc := Below.cellAt hSw); clear hSw; go_simp; (try with_reducible rfl))); (try simp only [Act.put, List.setIfInBounds_toArray, List.set_cons_zero, List.set_cons_succ]))
        (refine wpAnyH_take (i := 4) (oi := _) (v := ?_) (by simp only [List.getElem?_toArray, List.getElem?_cons_zero, List.getElem?_cons_succ]; rfl) (by kernel_rfl) (by decide +kernel) (by decide +kernel) (by exact fun _ _ _ h => h) (Or.inl ⟨by rfl, ?_⟩) (by assumption) ?_; rotate_left; (· ((intro w hSw); (have hSc := Below.cellAt hSw); clear hSw; go_simp; (try with_reducible rfl))); (try simp only [Act.put, List.setIfInBounds_toArray, List.set_cons_zero, List.set_cons_succ]))
        repeat' (first
          | (refine wpAnyH_take (i := 7) (oi := _) (v := ?_) (by simp only [List.getElem?_toArray, List.getElem?_cons_zero, List.getElem?_cons_succ]; rfl) (by kernel_rfl) (by decide +kernel) (by decide +kernel) (by exact fun _ _ _ h => h) (Or.inl ⟨by rfl, ?_⟩) (by assumption) ?_; rotate_left; (· ((intro w hSw); (have hSc := Below.cellAt hSw); clear hSw; go_simp; (try with_reducible rfl))); (try simp only [Act.put, List.setIfInBounds_toArray, List.set_cons_zero, List.set_cons_succ]))
          | (refine wpAnyH_take (i := 8) (oi := _) (v := ?_) (by simp only [List.getElem?_toArray, List.getElem?_cons_zero, List.getElem?_cons_succ]; rfl) (by kernel_rfl) (by decide +kernel) (by decide +kernel) (by exact fun _ _ _ h => h) (Or.inl ⟨by rfl, ?_⟩) (by assumption) ?_; rotate_left; (· ((intro w hSw); (have hSc := Below.cellAt hSw); clear hSw; go_simp; (try with_reducible rfl))); (try simp only [Act.put, List.setIfInBounds_toArray, List.set_cons_zero, List.set_cons_succ]))
          | (refine wpAnyH_take (i := 9) (oi := _) (v := ?_) (by simp only [List.getElem?_toArray, List.getElem?_cons_zero, List.getElem?_cons_succ]; rfl) (by kernel_rfl) (by decide +kernel) (by decide +kernel) (by exact fun _ _ _ h => h) (Or.inl ⟨by rfl, ?_⟩) (by assumption) ?_; rotate_left; (· ((intro w hSw); (have hSc := Below.cellAt hSw); clear hSw; go_simp; (try with_reducible rfl))); (try simp only [Act.put, List.setIfInBounds_toArray, List.set_cons_zero, List.set_cons_succ]))
          | (refine wpAnyH_take (i := 10) (oi := _) (v := ?_) (by simp only [List.getElem?_toArray, List.getElem?_cons_zero, List.getElem?_cons_succ]; rfl) (by kernel_rfl) (by decide +kernel) (by decide +kernel) (by exact fun _ _ _ h => h) (Or.inl ⟨by rfl, ?_⟩) (by assumption) ?_; rotate_left; (· ((intro w hSw); (have hSc := Below.cellAt hSw); clear hSw; go_simp; (try with_reducible rfl))); (try simp only [Act.put, List.setIfInBounds_toArray, List.set_cons_zero, List.set_cons_succ]))
          | (refine wpAnyH_take (i := 11) (oi := _) (v := ?_) (by simp only [List.getElem?_toArray, List.getElem?_cons_zero, List.getElem?_cons_succ]; rfl) (by kernel_rfl) (by decide +kernel) (by decide +kernel) (by exact fun _ _ _ h => h) (Or.inl ⟨by rfl, ?_⟩) (by assumption) ?_; rotate_left; (· ((intro w hSw); (have hSc := Below.cellAt hSw); clear hSw; go_simp; (try with_reducible rfl))); (try simp only [Act.put, List.setIfInBounds_toArray, List.set_cons_zero, List.set_cons_succ]))
          | (refine wpAnyH_ready (rs := [1, 5]) (by decide +kernel) (by simp) (AllReadyH.cons (by simp only [List.getElem?_toArray, List.getElem?_cons_zero, List.getElem?_cons_succ]; rfl) (fun K hK => ?_) (AllReadyH.cons (by simp only [List.getElem?_toArray, List.getElem?_cons_zero, List.getElem?_cons_succ]; rfl) (fun K hK => ?_) AllReadyH.nil)); all_goals ((first | (refine step_append_any rfl (.const (.slice none 0 0)) (.tmp 62) 41 53 5 40 _ rfl eiRoute _ (.slice none 0 0) [] rfl (Wk.Own.nil _ _ _ _) (.slice aa na ca) ((La).map routeCells) rfl (HSa.out.below (by (repeat' (first | (with_reducible exact Below.refl _ _) | (with_reducible assumption) | (with_reducible refine Below.alloc ?_ ?_ _) | (with_reducible refine Below.drew ?_) | (with_reducible refine Below.stepG ?_ (by assumption) ?_) | (with_reducible refine Below.setCell ?_ ?_ _) | omega | (dsimp only; omega) | (simp; done) | (simp; omega))))) (by intro c hc; obtain ⟨r, _, rfl⟩ := List.mem_map.1 hc; exact routeCells_one r) (by have := HNa.out; simp; omega) (by decide) (Nat.le_refl _) ?_; intro vA wA hownA hbA; have hsA := hbA.size; (try simp at hsA); obtain ⟨aA, cA, hshA⟩ := hownA.shape; subst hshA) | (refine step_append_any rfl (.const (.slice none 0 0)) (.tmp 66) 28 35 9 72 _ rfl eiAct _ (.slice none 0 0) [] rfl (Wk.Own.nil _ _ _ _) (.slice af p cf) ((Q1).map actCells) rfl (HS1.out.below (by (repeat' (first | (with_reducible exact Below.refl _ _) | (with_reducible assumption) | (with_reducible refine Below.alloc ?_ ?_ _) | (with_reducible refine Below.drew ?_) | (with_reducible refine Below.stepG ?_ (by assumption) ?_) | (with_reducible refine Below.setCell ?_ ?_ _) | omega | (dsimp only; omega) | (simp; done) | (simp; omega))))) (by intro c hc; obtain ⟨r, _, rfl⟩ := List.mem_map.1 hc; exact actCells_one r) (by have := HL1.out; simp; omega) (by decide) (Nat.le_refl _) ?_; intro vB wB hownB hbB; have hsB := hbB.size; (try simp at hsB); obtain ⟨aB, cB, hshB⟩ := hownB.shape; subst hshB) | (go_simp; (first | ((refine (dapply_any aA cA _ aB cB _ La Q1 _ (by simp) (by simp) (by simpa using (hownA.sl.below (by (repeat' (first | (with_reducible exact Below.refl _ _) | (with_reducible assumption) | (with_reducible refine Below.alloc ?_ ?_ _) | (with_reducible refine Below.drew ?_) | (with_reducible refine Below.stepG ?_ (by assumption) ?_) | (with_reducible refine Below.setCell ?_ ?_ _) | omega | (dsimp only; omega) | (simp; done) | (simp; omega)))))) (by simpa using (hownB.sl.below (by (repeat' (first | (with_reducible exact Below.refl _ _) | (with_reducible assumption) | (with_reducible refine Below.alloc ?_ ?_ _) | (with_reducible refine Below.drew ?_) | (with_reducible refine Below.stepG ?_ (by assumption) ?_) | (with_reducible refine Below.setCell ?_ ?_ _) | omega | (dsimp only; omega) | (simp; done) | (simp; omega)))))) HRa.out (by have := HL1.out; omega) (fun x hx => ⟨(HF1.out x hx).1, .inl (HF1.out x hx).2⟩) (by rw [HPAa.out]; exact HA1.out)).mono ?_); rintro e wC ⟨vC, rfl, hoC, hbC⟩; rw [HPAa.out, HM.out] at hoC; obtain ⟨aC, cC, rfl⟩ := hoC.shape; (try simp only [List.length_map] at hoC ⊢); skip) | skip))); (refine hK.out _ _ ?_ (fun hHeld => ?_)); (· ((try dsimp only); (repeat' (first | (with_reducible exact Below.refl _ _) | (with_reducible assumption) | (with_reducible refine Below.alloc ?_ ?_ _) | (with_reducible refine Below.drew ?_) | (with_reducible refine Below.stepG ?_ (by assumption) ?_) | (with_reducible refine Below.setCell ?_ ?_ _) | omega | (dsimp only; omega) | (simp; done) | (simp; omega))))); (clear hK K; (try simp only [Act.put, List.setIfInBounds_toArray, List.set_cons_zero, List.set_cons_succ]))))
          | (refine wpAnyH_ready (rs := [5]) (by decide +kernel) (by simp) (AllReadyH.cons (by simp only [List.getElem?_toArray, List.getElem?_cons_zero, List.getElem?_cons_succ]; rfl) (fun K hK => ?_) AllReadyH.nil); all_goals ((first | (refine step_append_any rfl (.const (.slice none 0 0)) (.tmp 62) 41 53 5 40 _ rfl eiRoute _ (.slice none 0 0) [] rfl (Wk.Own.nil _ _ _ _) (.slice aa na ca) ((La).map routeCells) rfl (HSa.out.below (by (repeat' (first | (with_reducible exact Below.refl _ _) | (with_reducible assumption) | (with_reducible refine Below.alloc ?_ ?_ _) | (with_reducible refine Below.drew ?_) | (with_reducible refine Below.stepG ?_ (by assumption) ?_) | (with_reducible refine Below.setCell ?_ ?_ _) | omega | (dsimp only; omega) | (simp; done) | (simp; omega))))) (by intro c hc; obtain ⟨r, _, rfl⟩ := List.mem_map.1 hc; exact routeCells_one r) (by have := HNa.out; simp; omega) (by decide) (Nat.le_refl _) ?_; intro vA wA hownA hbA; have hsA := hbA.size; (try simp at hsA); obtain ⟨aA, cA, hshA⟩ := hownA.shape; subst hshA) | (refine step_append_any rfl (.const (.slice none 0 0)) (.tmp 66) 28 35 9 72 _ rfl eiAct _ (.slice none 0 0) [] rfl (Wk.Own.nil _ _ _ _) (.slice af p cf) ((Q1).map actCells) rfl (HS1.out.below (by (repeat' (first | (with_reducible exact Below.refl _ _) | (with_reducible assumption) | (with_reducible refine Below.alloc ?_ ?_ _) | (with_reducible refine Below.drew ?_) | (with_reducible refine Below.stepG ?_ (by assumption) ?_) | (with_reducible refine Below.setCell ?_ ?_ _) | omega | (dsimp only; omega) | (simp; done) | (simp; omega))))) (by intro c hc; obtain ⟨r, _, rfl⟩ := List.mem_map.1 hc; exact actCells_one r) (by have := HL1.out; simp; omega) (by decide) (Nat.le_refl _) ?_; intro vB wB hownB hbB; have hsB := hbB.size; (try simp at hsB); obtain ⟨aB, cB, hshB⟩ := hownB.shape; subst hshB) | (go_simp; (first | ((refine (dapply_any aA cA _ aB cB _ La Q1 _ (by simp) (by simp) (by simpa using (hownA.sl.below (by (repeat' (first | (with_reducible exact Below.refl _ _) | (with_reducible assumption) | (with_reducible refine Below.alloc ?_ ?_ _) | (with_reducible refine Below.drew ?_) | (with_reducible refine Below.stepG ?_ (by assumption) ?_) | (with_reducible refine Below.setCell ?_ ?_ _) | omega | (dsimp only; omega) | (simp; done) | (simp; omega)))))) (by simpa using (hownB.sl.below (by (repeat' (first | (with_reducible exact Below.refl _ _) | (with_reducible assumption) | (with_reducible refine Below.alloc ?_ ?_ _) | (with_reducible refine Below.drew ?_) | (with_reducible refine Below.stepG ?_ (by assumption) ?_) | (with_reducible refine Below.setCell ?_ ?_ _) | omega | (dsimp only; omega) | (simp; done) | (simp; omega)))))) HRa.out (by have := HL1.out; omega) (fun x hx => ⟨(HF1.out x hx).1, .inl (HF1.out x hx).2⟩) (by rw [HPAa.out]; exact HA1.out)).mono ?_); rintro e wC ⟨vC, rfl, hoC, hbC⟩; rw [HPAa.out, HM.out] at hoC; obtain ⟨aC, cC, rfl⟩ := hoC.shape; (try simp only [List.length_map] at hoC ⊢); skip) | skip))); (refine hK.out _ _ ?_ (fun hHeld => ?_)); (· ((try dsimp only); (repeat' (first | (with_reducible exact Below.refl _ _) | (with_reducible assumption) | (with_reducible refine Below.alloc ?_ ?_ _) | (with_reducible refine Below.drew ?_) | (with_reducible refine Below.stepG ?_ (by assumption) ?_) | (with_reducible refine Below.setCell ?_ ?_ _) | omega | (dsimp only; omega) | (simp; done) | (simp; omega))))); (clear hK K; (try simp only [Act.put, List.setIfInBounds_toArray, List.set_cons_zero, List.set_cons_succ]))))
          | (refine wpAnyH_ready (rs := [1]) (by decide +kernel) (by simp) (AllReadyH.cons (by simp only [List.getElem?_toArray, List.getElem?_cons_zero, List.getElem?_cons_succ]; rfl) (fun K hK => ?_) AllReadyH.nil); all_goals ((first | (refine step_append_any rfl (.const (.slice none 0 0)) (.tmp 62) 41 53 5 40 _ rfl eiRoute _ (.slice none 0 0) [] rfl (Wk.Own.nil _ _ _ _) (.slice aa na ca) ((La).map routeCells) rfl (HSa.out.below (by (repeat' (first | (with_reducible exact Below.refl _ _) | (with_reducible assumption) | (with_reducible refine Below.alloc ?_ ?_ _) | (with_reducible refine Below.drew ?_) | (with_reducible refine Below.stepG ?_ (by assumption) ?_) | (with_reducible refine Below.setCell ?_ ?_ _) | omega | (dsimp only; omega) | (simp; done) | (simp; omega))))) (by intro c hc; obtain ⟨r, _, rfl⟩ := List.mem_map.1 hc; exact routeCells_one r) (by have := HNa.out; simp; omega) (by decide) (Nat.le_refl _) ?_; intro vA wA hownA hbA; have hsA := hbA.size; (try simp at hsA); obtain ⟨aA, cA, hshA⟩ := hownA.shape; subst hshA) | (refine step_append_any rfl (.const (.slice none 0 0)) (.tmp 66) 28 35 9 72 _ rfl eiAct _ (.slice none 0 0) [] rfl (Wk.Own.nil _ _ _ _) (.slice af p cf) ((Q1).map actCells) rfl (HS1.out.below (by (repeat' (first | (with_reducible exact Below.refl _ _) | (with_reducible assumption) | (with_reducible refine Below.alloc ?_ ?_ _) | (with_reducible refine Below.drew ?_) | (with_reducible refine Below.stepG ?_ (by assumption) ?_) | (with_reducible refine Below.setCell ?_ ?_ _) | omega | (dsimp only; omega) | (simp; done) | (simp; omega))))) (by intro c hc; obtain ⟨r, _, rfl⟩ := List.mem_map.1 hc; exact actCells_one r) (by have := HL1.out; simp; omega) (by decide) (Nat.le_refl _) ?_; intro vB wB hownB hbB; have hsB := hbB.size; (try simp at hsB); obtain ⟨aB, cB, hshB⟩ := hownB.shape; subst hshB) | (go_simp; (first | ((refine (dapply_any aA cA _ aB cB _ La Q1 _ (by simp) (by simp) (by simpa using (hownA.sl.below (by (repeat' (first | (with_reducible exact Below.refl _ _) | (with_reducible assumption) | (with_reducible refine Below.alloc ?_ ?_ _) | (with_reducible refine Below.drew ?_) | (with_reducible refine Below.stepG ?_ (by assumption) ?_) | (with_reducible refine Below.setCell ?_ ?_ _) | omega | (dsimp only; omega) | (simp; done) | (simp; omega)))))) (by simpa using (hownB.sl.below (by (repeat' (first | (with_reducible exact Below.refl _ _) | (with_reducible assumption) | (with_reducible refine Below.alloc ?_ ?_ _) | (with_reducible refine Below.drew ?_) | (with_reducible refine Below.stepG ?_ (by assumption) ?_) | (with_reducible refine Below.setCell ?_ ?_ _) | omega | (dsimp only; omega) | (simp; done) | (simp; omega)))))) HRa.out (by have := HL1.out; omega) (fun x hx => ⟨(HF1.out x hx).1, .inl (HF1.out x hx).2⟩) (by rw [HPAa.out]; exact HA1.out)).mono ?_); rintro e wC ⟨vC, rfl, hoC, hbC⟩; rw [HPAa.out, HM.out] at hoC; obtain ⟨aC, cC, rfl⟩ := hoC.shape; (try simp only [List.length_map] at hoC ⊢); skip) | skip))); (refine hK.out _ _ ?_ (fun hHeld => ?_)); (· ((try dsimp only); (repeat' (first | (with_reducible exact Below.refl _ _) | (with_reducible assumption) | (with_reducible refine Below.alloc ?_ ?_ _) | (with_reducible refine Below.drew ?_) | (with_reducible refine Below.stepG ?_ (by assumption) ?_) | (with_reducible refine Below.setCell ?_ ?_ _) | omega | (dsimp only; omega) | (simp; done) | (simp; omega))))); (clear hK K; (try simp only [Act.put, List.setIfInBounds_toArray, List.set_cons_zero, List.set_cons_succ]))))
          | (refine wpAnyH_ready (rs := [6]) (by decide +kernel) (by simp) (AllReadyH.cons (by simp only [List.getElem?_toArray, List.getElem?_cons_zero, List.getElem?_cons_succ]; rfl) (fun K hK => ?_) AllReadyH.nil); all_goals ((first | (refine step_append_any rfl (.const (.slice none 0 0)) (.tmp 62) 41 53 5 40 _ rfl eiRoute _ (.slice none 0 0) [] rfl (Wk.Own.nil _ _ _ _) (.slice aa na ca) ((La).map routeCells) rfl (HSa.out.below (by (repeat' (first | (with_reducible exact Below.refl _ _) | (with_reducible assumption) | (with_reducible refine Below.alloc ?_ ?_ _) | (with_reducible refine Below.drew ?_) | (with_reducible refine Below.stepG ?_ (by assumption) ?_) | (with_reducible refine Below.setCell ?_ ?_ _) | omega | (dsimp only; omega) | (simp; done) | (simp; omega))))) (by intro c hc; obtain ⟨r, _, rfl⟩ := List.mem_map.1 hc; exact routeCells_one r) (by have := HNa.out; simp; omega) (by decide) (Nat.le_refl _) ?_; intro vA wA hownA hbA; have hsA := hbA.size; (try simp at hsA); obtain ⟨aA, cA, hshA⟩ := hownA.shape; subst hshA) | (refine step_append_any rfl (.const (.slice none 0 0)) (.tmp 66) 28 35 9 72 _ rfl eiAct _ (.slice none 0 0) [] rfl (Wk.Own.nil _ _ _ _) (.slice af p cf) ((Q1).map actCells) rfl (HS1.out.below (by (repeat' (first | (with_reducible exact Below.refl _ _) | (with_reducible assumption) | (with_reducible refine Below.alloc ?_ ?_ _) | (with_reducible refine Below.drew ?_) | (with_reducible refine Below.stepG ?_ (by assumption) ?_) | (with_reducible refine Below.setCell ?_ ?_ _) | omega | (dsimp only; omega) | (simp; done) | (simp; omega))))) (by intro c hc; obtain ⟨r, _, rfl⟩ := List.mem_map.1 hc; exact actCells_one r) (by have := HL1.out; simp; omega) (by decide) (Nat.le_refl _) ?_; intro vB wB hownB hbB; have hsB := hbB.size; (try simp at hsB); obtain ⟨aB, cB, hshB⟩ := hownB.shape; subst hshB) | (go_simp; (first | ((refine (dapply_any aA cA _ aB cB _ La Q1 _ (by simp) (by simp) (by simpa using (hownA.sl.below (by (repeat' (first | (with_reducible exact Below.refl _ _) | (with_reducible assumption) | (with_reducible refine Below.alloc ?_ ?_ _) | (with_reducible refine Below.drew ?_) | (with_reducible refine Below.stepG ?_ (by assumption) ?_) | (with_reducible refine Below.setCell ?_ ?_ _) | omega | (dsimp only; omega) | (simp; done) | (simp; omega)))))) (by simpa using (hownB.sl.below (by (repeat' (first | (with_reducible exact Below.refl _ _) | (with_reducible assumption) | (with_reducible refine Below.alloc ?_ ?_ _) | (with_reducible refine Below.drew ?_) | (with_reducible refine Below.stepG ?_ (by assumption) ?_) | (with_reducible refine Below.setCell ?_ ?_ _) | omega | (dsimp only; omega) | (simp; done) | (simp; omega)))))) HRa.out (by have := HL1.out; omega) (fun x hx => ⟨(HF1.out x hx).1, .inl (HF1.out x hx).2⟩) (by rw [HPAa.out]; exact HA1.out)).mono ?_); rintro e wC ⟨vC, rfl, hoC, hbC⟩; rw [HPAa.out, HM.out] at hoC; obtain ⟨aC, cC, rfl⟩ := hoC.shape; (try simp only [List.length_map] at hoC ⊢); skip) | skip))); (refine hK.out _ _ ?_ (fun hHeld => ?_)); (· ((try dsimp only); (repeat' (first | (with_reducible exact Below.refl _ _) | (with_reducible assumption) | (with_reducible refine Below.alloc ?_ ?_ _) | (with_reducible refine Below.drew ?_) | (with_reducible refine Below.stepG ?_ (by assumption) ?_) | (with_reducible refine Below.setCell ?_ ?_ _) | omega | (dsimp only; omega) | (simp; done) | (simp; omega))))); (clear hK K; (try simp only [Act.put, List.setIfInBounds_toArray, List.set_cons_zero, List.set_cons_succ]))))
          | (refine wpAnyH_done (by decide +kernel) ?_ _)
          | fail)
        all_goals go_wp2_with fail
        all_goals go_meet
        all_goals exact ⟨aC, cC, rfl, rfl, Lib.hid (hoC.base (by first | omega | (simp; omega))), Lib.hid (by (repeat' (first | (with_reducible exact Below.refl _ _) | (with_reducible assumption) | (with_reducible refine Below.alloc ?_ ?_ _) | (with_reducible refine Below.drew ?_) | (with_reducible refine Below.stepG ?_ (by assumption) ?_) | (with_reducible refine Below.setCell ?_ ?_ _) | omega | (dsimp only; omega) | (simp; done) | (simp; omega))))⟩
      case rest =>
        obtain ⟨ay, cy, rfl, rfl, ho_, hb_⟩ := hcut
        obtain ⟨w8, hwc⟩ : ∃ X : World, X = wc := ⟨_, rfl⟩
        subst hwc
        have ho := ho_.out
        have hb := hb_.out
        clear ho_ hb_
        replace HSa := Lib.hid (HSa.out.below hb)
        replace HSf := Lib.hid (HSf.out.below hb)
        replace HSx := Lib.hid (HSx.out.below hb)
        replace HS1 := Lib.hid (HS1.out.below hb)
        replace HS2 := Lib.hid (HS2.out.below hb)
        replace HW := Lib.hid (HW.out.trans (hb.mono HW.out.size))
        have uy := ho.sl.lens.2.1
        have vy := ho.sl.lens.2.2
        have HSy := Lib.hid ho.sl
        obtain ⟨ny, hny⟩ : ∃ n, n = (M).length := ⟨_, rfl⟩
        rw [← hny] at HSy uy ⊢
        have HNy := Lib.hid hny
        clear hny ho hb
        clear htk
        have htk := HDR.out
        have hqy : ny = M.length := HNy.out
        have hqy2 : ny ≤ 60 := by rw [hqy]; exact HTM.out.len
        clear hqy
        go_upto_region 12 with fail
        go_cut [17, 18] (fun vr vc wx => ∃ ar cr, vr = .slice ar ((tend La Q)).length cr ∧ vc = .int .i64 0 ∧ Hid (Wk.Own wx w8.heap.size 53 5 (.slice ar ((tend La Q)).length cr) (((tend La Q)).map routeCells)) ∧ Hid (Below w8.heap.size w8 wx))
        case first =>
          have hzw : w8.heap.size ≤ w8.heap.size := Nat.le_refl _
          refine wp_region_held_drew (S := (fun w' => Below w8.heap.size w8 w')) (by kernel_rfl) ?_ (fun hHeld => ?_)
          · ((try dsimp only); (repeat' (first | (with_reducible exact Below.refl _ _) | (with_reducible assumption) | (with_reducible refine Below.alloc ?_ ?_ _) | (with_reducible refine Below.drew ?_) | (with_reducible refine Below.stepG ?_ (by assumption) ?_) | (with_reducible refine Below.setCell ?_ ?_ _) | omega | (dsimp only; omega) | (simp; done) | (simp; omega))))
          (refine wpAnyH_take (i := 0) (oi := _) (v := ?_) (by simp only [List.getElem?_toArray, List.getElem?_cons_zero, List.getElem?_cons_succ]; rfl) (by kernel_rfl) (by decide +kernel) (by decide +kernel) (by exact fun _ _ _ h => h) (Or.inl ⟨by rfl, ?_⟩) (by assumption) ?_; rotate_left; (· ((intro w hSw); (have hSc := Below.cellAt hSw); clear hSw; go_simp; (try with_reducible rfl))); (try simp only [Act.put, List.setIfInBounds_toArray, List.set_cons_zero, List.set_cons_succ]))
          (refine wpAnyH_take (i := 2) (oi := _) (v := ?_) (by simp only [List.getElem?_toArray, List.getElem?_cons_zero, List.getElem?_cons_succ]; rfl) (by kernel_rfl) (by decide +kernel) (by decide +kernel) (by exact fun _ _ _ h => h) (Or.inl ⟨by rfl, ?_⟩) (by assumption) ?_; rotate_left; (· ((intro w hSw); (have hSc := Below.cellAt hSw); clear hSw; go_simp; (try with_reducible rfl))); (try simp only [Act.put, List.setIfInBounds_toArray, List.set_cons_zero, List.set_cons_succ]))
          (refine wpAnyH_take (i := 3) (oi := _) (v := ?_) (by simp only [List.getElem?_toArray, List.getElem?_cons_zero, List.getElem?_cons_succ]; rfl) (by kernel_rfl) (by decide +kernel) (by decide +kernel) (by exact fun _ _ _ h => h) (Or.inl ⟨by rfl, ?_⟩) (by assumption) ?_; rotate_left; (· ((intro w hSw); (have hSc := Below.cellAt hSw); clear hSw; go_simp; (try with_reducible rfl))); (try simp only [Act.put, List.setIfInBounds_toArray, List.set_cons_zero, List.set_cons_succ]))
          (refine wpAnyH_take (i := 4) (oi := _) (v := ?_) (by simp only [List.getElem?_toArray, List.getElem?_cons_zero, List.getElem?_cons_succ]; rfl) (by kernel_rfl) (by decide +kernel) (by decide +kernel) (by exact fun _ _ _ h => h) (Or.inl ⟨by rfl, ?_⟩) (by assumption) ?_; rotate_left; (· ((intro w hSw); (have hSc := Below.cellAt hSw); clear hSw; go_simp; (try with_reducible rfl))); (try simp only [Act.put, List.setIfInBounds_toArray, List.set_cons_zero, List.set_cons_succ]))
          repeat' (first
            | (refine wpAnyH_take (i := 7) (oi := _) (v := ?_) (by simp only [List.getElem?_toArray, List.getElem?_cons_zero, List.getElem?_cons_succ]; rfl) (by kernel_rfl) (by decide +kernel) (by decide +kernel) (by exact fun _ _ _ h => h) (Or.inl ⟨by rfl, ?_⟩) (by assumption) ?_; rotate_left; (· ((intro w hSw); (have hSc := Below.cellAt hSw); clear hSw; go_simp; (try with_reducible rfl))); (try simp only [Act.put, List.setIfInBounds_toArray, List.set_cons_zero, List.set_cons_succ]))
            | (refine wpAnyH_take (i := 8) (oi := _) (v := ?_) (by simp only [List.getElem?_toArray, List.getElem?_cons_zero, List.getElem?_cons_succ]; rfl) (by kernel_rfl) (by decide +kernel) (by decide +kernel) (by exact fun _ _ _ h => h) (Or.inl ⟨by rfl, ?_⟩) (by assumption) ?_; rotate_left; (· ((intro w hSw); (have hSc := Below.cellAt hSw); clear hSw; go_simp; (try with_reducible rfl))); (try simp only [Act.put, List.setIfInBounds_toArray, List.set_cons_zero, List.set_cons_succ]))
            | (refine wpAnyH_take (i := 9) (oi := _) (v := ?_) (by simp only [List.getElem?_toArray, List.getElem?_cons_zero, List.getElem?_cons_succ]; rfl) (by kernel_rfl) (by decide +kernel) (by decide +kernel) (by exact fun _ _ _ h => h) (Or.inl ⟨by rfl, ?_⟩) (by assumption) ?_; rotate_left; (· ((intro w hSw); (have hSc := Below.cellAt hSw); clear hSw; go_simp; (try with_reducible rfl))); (try simp only [Act.put, List.setIfInBounds_toArray, List.set_cons_zero, List.set_cons_succ]))
            | (refine wpAnyH_take (i := 10) (oi := _) (v := ?_) (by simp only [List.getElem?_toArray, List.getElem?_cons_zero, List.getElem?_cons_succ]; rfl) (by kernel_rfl) (by decide +kernel) (by decide +kernel) (by exact fun _ _ _ h => h) (Or.inl ⟨by rfl, ?_⟩) (by assumption) ?_; rotate_left; (· ((intro w hSw); (have hSc := Below.cellAt hSw); clear hSw; go_simp; (try with_reducible rfl))); (try simp only [Act.put, List.setIfInBounds_toArray, List.set_cons_zero, List.set_cons_succ]))
            | (refine wpAnyH_take (i := 11) (oi := _) (v := ?_) (by simp only [List.getElem?_toArray, List.getElem?_cons_zero, List.getElem?_cons_succ]; rfl) (by kernel_rfl) (by decide +kernel) (by decide +kernel) (by exact fun _ _ _ h => h) (Or.inl ⟨by rfl, ?_⟩) (by assumption) ?_; rotate_left; (· ((intro w hSw); (have hSc := Below.cellAt hSw); clear hSw; go_simp; (try with_reducible rfl))); (try simp only [Act.put, List.setIfInBounds_toArray, List.set_cons_zero, List.set_cons_succ]))
            | (refine wpAnyH_ready (rs := [1, 5]) (by decide +kernel) (by simp) (AllReadyH.cons (by simp only [List.getElem?_toArray, List.getElem?_cons_zero, List.getElem?_cons_succ]; rfl) (fun K hK => ?_) (AllReadyH.cons (by simp only [List.getElem?_toArray, List.getElem?_cons_zero, List.getElem?_cons_succ]; rfl) (fun K hK => ?_) AllReadyH.nil)); all_goals ((first | (refine step_append_any rfl (.const (.slice none 0 0)) (.tmp 72) 41 53 5 40 _ rfl eiRoute _ (.slice none 0 0) [] rfl (Wk.Own.nil _ _ _ _) (.slice ay ny cy) ((M).map routeCells) rfl (HSy.out.below (by (repeat' (first | (with_reducible exact Below.refl _ _) | (with_reducible assumption) | (with_reducible refine Below.alloc ?_ ?_ _) | (with_reducible refine Below.drew ?_) | (with_reducible refine Below.stepG ?_ (by assumption) ?_) | (with_reducible refine Below.setCell ?_ ?_ _) | omega | (dsimp only; omega) | (simp; done) | (simp; omega))))) (by intro c hc; obtain ⟨r, _, rfl⟩ := List.mem_map.1 hc; exact routeCells_one r) (by have := HNy.out; simp; omega) (by decide) (Nat.le_refl _) ?_; intro vA wA hownA hbA; have hsA := hbA.size; (try simp at hsA); obtain ⟨aA, cA, hshA⟩ := hownA.shape; subst hshA) | (refine step_append_any rfl (.const (.slice none 0 0)) (.tmp 76) 28 35 9 72 _ rfl eiAct _ (.slice none 0 0) [] rfl (Wk.Own.nil _ _ _ _) (.slice ad q2 cd) ((Q2).map actCells) rfl (HS2.out.below (by (repeat' (first | (with_reducible exact Below.refl _ _) | (with_reducible assumption) | (with_reducible refine Below.alloc ?_ ?_ _) | (with_reducible refine Below.drew ?_) | (with_reducible refine Below.stepG ?_ (by assumption) ?_) | (with_reducible refine Below.setCell ?_ ?_ _) | omega | (dsimp only; omega) | (simp; done) | (simp; omega))))) (by intro c hc; obtain ⟨r, _, rfl⟩ := List.mem_map.1 hc; exact actCells_one r) (by have := HL2.out; simp; omega) (by decide) (Nat.le_refl _) ?_; intro vB wB hownB hbB; have hsB := hbB.size; (try simp at hsB); obtain ⟨aB, cB, hshB⟩ := hownB.shape; subst hshB) | (go_simp; (first | ((refine (dapply_any aA cA _ aB cB _ M Q2 _ (by simp) (by simp) (by simpa using (hownA.sl.below (by (repeat' (first | (with_reducible exact Below.refl _ _) | (with_reducible assumption) | (with_reducible refine Below.alloc ?_ ?_ _) | (with_reducible refine Below.drew ?_) | (with_reducible refine Below.stepG ?_ (by assumption) ?_) | (with_reducible refine Below.setCell ?_ ?_ _) | omega | (dsimp only; omega) | (simp; done) | (simp; omega)))))) (by simpa using (hownB.sl.below (by (repeat' (first | (with_reducible exact Below.refl _ _) | (with_reducible assumption) | (with_reducible refine Below.alloc ?_ ?_ _) | (with_reducible refine Below.drew ?_) | (with_reducible refine Below.stepG ?_ (by assumption) ?_) | (with_reducible refine Below.setCell ?_ ?_ _) | omega | (dsimp only; omega) | (simp; done) | (simp; omega)))))) HRM.out (by have := HL2.out; omega) (fun x hx => ⟨(HF2.out x hx).1, .inl (HF2.out x hx).2⟩) (by rw [HPM.out]; exact HA2.out)).mono ?_); rintro e wC ⟨vC, rfl, hoC, hbC⟩; rw [HPM.out, HTT.out] at hoC; obtain ⟨aC, cC, rfl⟩ := hoC.shape; (try simp only [List.length_map] at hoC ⊢); skip) | skip))); (refine hK.out _ _ ?_ (fun hHeld => ?_)); (· ((try dsimp only); (repeat' (first | (with_reducible exact Below.refl _ _) | (with_reducible assumption) | (with_reducible refine Below.alloc ?_ ?_ _) | (with_reducible refine Below.drew ?_) | (with_reducible refine Below.stepG ?_ (by assumption) ?_) | (with_reducible refine Below.setCell ?_ ?_ _) | omega | (dsimp only; omega) | (simp; done) | (simp; omega))))); (clear hK K; (try simp only [Act.put, List.setIfInBounds_toArray, List.set_cons_zero, List.set_cons_succ]))))
            | (refine wpAnyH_ready (rs := [5]) (by decide +kernel) (by simp) (AllReadyH.cons (by simp only [List.getElem?_toArray, List.getElem?_cons_zero, List.getElem?_cons_succ]; rfl) (fun K hK => ?_) AllReadyH.nil); all_goals ((first | (refine step_append_any rfl (.const (.slice none 0 0)) (.tmp 72) 41 53 5 40 _ rfl eiRoute _ (.slice none 0 0) [] rfl (Wk.Own.nil _ _ _ _) (.slice ay ny cy) ((M).map routeCells) rfl (HSy.out.below (by (repeat' (first | (with_reducible exact Below.refl _ _) | (with_reducible assumption) | (with_reducible refine Below.alloc ?_ ?_ _) | (with_reducible refine Below.drew ?_) | (with_reducible refine Below.stepG ?_ (by assumption) ?_) | (with_reducible refine Below.setCell ?_ ?_ _) | omega | (dsimp only; omega) | (simp; done) | (simp; omega))))) (by intro c hc; obtain ⟨r, _, rfl⟩ := List.mem_map.1 hc; exact routeCells_one r) (by have := HNy.out; simp; omega) (by decide) (Nat.le_refl _) ?_; intro vA wA hownA hbA; have hsA := hbA.size; (try simp at hsA); obtain ⟨aA, cA, hshA⟩ := hownA.shape; subst hshA) | (refine step_append_any rfl (.const (.slice none 0 0)) (.tmp 76) 28 35 9 72 _ rfl eiAct _ (.slice none 0 0) [] rfl (Wk.Own.nil _ _ _ _) (.slice ad q2 cd) ((Q2).map actCells) rfl (HS2.out.below (by (repeat' (first | (with_reducible exact Below.refl _ _) | (with_reducible assumption) | (with_reducible refine Below.alloc ?_ ?_ _) | (with_reducible refine Below.drew ?_) | (with_reducible refine Below.stepG ?_ (by assumption) ?_) | (with_reducible refine Below.setCell ?_ ?_ _) | omega | (dsimp only; omega) | (simp; done) | (simp; omega))))) (by intro c hc; obtain ⟨r, _, rfl⟩ := List.mem_map.1 hc; exact actCells_one r) (by have := HL2.out; simp; omega) (by decide) (Nat.le_refl _) ?_; intro vB wB hownB hbB; have hsB := hbB.size; (try simp at hsB); obtain ⟨aB, cB, hshB⟩ := hownB.shape; subst hshB) | (go_simp; (first | ((refine (dapply_any aA cA _ aB cB _ M Q2 _ (by simp) (by simp) (by simpa using (hownA.sl.below (by (repeat' (first | (with_reducible exact Below.refl _ _) | (with_reducible assumption) | (with_reducible refine Below.alloc ?_ ?_ _) | (with_reducible refine Below.drew ?_) | (with_reducible refine Below.stepG ?_ (by assumption) ?_) | (with_reducible refine Below.setCell ?_ ?_ _) | omega | (dsimp only; omega) | (simp; done) | (simp; omega)))))) (by simpa using (hownB.sl.below (by (repeat' (first | (with_reducible exact Below.refl _ _) | (with_reducible assumption) | (with_reducible refine Below.alloc ?_ ?_ _) | (with_reducible refine Below.drew ?_) | (with_reducible refine Below.stepG ?_ (by assumption) ?_) | (with_reducible refine Below.setCell ?_ ?_ _) | omega | (dsimp only; omega) | (simp; done) | (simp; omega)))))) HRM.out (by have := HL2.out; omega) (fun x hx => ⟨(HF2.out x hx).1, .inl (HF2.out x hx).2⟩) (by rw [HPM.out]; exact HA2.out)).mono ?_); rintro e wC ⟨vC, rfl, hoC, hbC⟩; rw [HPM.out, HTT.out] at hoC; obtain ⟨aC, cC, rfl⟩ := hoC.shape; (try simp only [List.length_map] at hoC ⊢); skip) | skip))); (refine hK.out _ _ ?_ (fun hHeld => ?_)); (· ((try dsimp only); (repeat' (first | (with_reducible exact Below.refl _ _) | (with_reducible assumption) | (with_reducible refine Below.alloc ?_ ?_ _) | (with_reducible refine Below.drew ?_) | (with_reducible refine Below.stepG ?_ (by assumption) ?_) | (with_reducible refine Below.setCell ?_ ?_ _) | omega | (dsimp only; omega) | (simp; done) | (simp; omega))))); (clear hK K; (try simp only [Act.put, List.setIfInBounds_toArray, List.set_cons_zero, List.set_cons_succ]))))
            | (refine wpAnyH_ready (rs := [1]) (by decide +kernel) (by simp) (AllReadyH.cons (by simp only [List.getElem?_toArray, List.getElem?_cons_zero, List.getElem?_cons_succ]; rfl) (fun K hK => ?_) AllReadyH.nil); all_goals ((first | (refine step_append_any rfl (.const (.slice none 0 0)) (.tmp 72) 41 53 5 40 _ rfl eiRoute _ (.slice none 0 0) [] rfl (Wk.Own.nil _ _ _ _) (.slice ay ny cy) ((M).map routeCells) rfl (HSy.out.below (by (repeat' (first | (with_reducible exact Below.refl _ _) | (with_reducible assumption) | (with_reducible refine Below.alloc ?_ ?_ _) | (with_reducible refine Below.drew ?_) | (with_reducible refine Below.stepG ?_ (by assumption) ?_) | (with_reducible refine Below.setCell ?_ ?_ _) | omega | (dsimp only; omega) | (simp; done) | (simp; omega))))) (by intro c hc; obtain ⟨r, _, rfl⟩ := List.mem_map.1 hc; exact routeCells_one r) (by have := HNy.out; simp; omega) (by decide) (Nat.le_refl _) ?_; intro vA wA hownA hbA; have hsA := hbA.size; (try simp at hsA); obtain ⟨aA, cA, hshA⟩ := hownA.shape; subst hshA) | (refine step_append_any rfl (.const (.slice none 0 0)) (.tmp 76) 28 35 9 72 _ rfl eiAct _ (.slice none 0 0) [] rfl (Wk.Own.nil _ _ _ _) (.slice ad q2 cd) ((Q2).map actCells) rfl (HS2.out.below (by (repeat' (first | (with_reducible exact Below.refl _ _) | (with_reducible assumption) | (with_reducible refine Below.alloc ?_ ?_ _) | (with_reducible refine Below.drew ?_) | (with_reducible refine Below.stepG ?_ (by assumption) ?_) | (with_reducible refine Below.setCell ?_ ?_ _) | omega | (dsimp only; omega) | (simp; done) | (simp; omega))))) (by intro c hc; obtain ⟨r, _, rfl⟩ := List.mem_map.1 hc; exact actCells_one r) (by have := HL2.out; simp; omega) (by decide) (Nat.le_refl _) ?_; intro vB wB hownB hbB; have hsB := hbB.size; (try simp at hsB); obtain ⟨aB, cB, hshB⟩ := hownB.shape; subst hshB) | (go_simp; (first | ((refine (dapply_any aA cA _ aB cB _ M Q2 _ (by simp) (by simp) (by simpa using (hownA.sl.below (by (repeat' (first | (with_reducible exact Below.refl _ _) | (with_reducible assumption) | (with_reducible refine Below.alloc ?_ ?_ _) | (with_reducible refine Below.drew ?_) | (with_reducible refine Below.stepG ?_ (by assumption) ?_) | (with_reducible refine Below.setCell ?_ ?_ _) | omega | (dsimp only; omega) | (simp; done) | (simp; omega)))))) (by simpa using (hownB.sl.below (by (repeat' (first | (with_reducible exact Below.refl _ _) | (with_reducible assumption) | (with_reducible refine Below.alloc ?_ ?_ _) | (with_reducible refine Below.drew ?_) | (with_reducible refine Below.stepG ?_ (by assumption) ?_) | (with_reducible refine Below.setCell ?_ ?_ _) | omega | (dsimp only; omega) | (simp; done) | (simp; omega)))))) HRM.out (by have := HL2.out; omega) (fun x hx => ⟨(HF2.out x hx).1, .inl (HF2.out x hx).2⟩) (by rw [HPM.out]; exact HA2.out)).mono ?_); rintro e wC ⟨vC, rfl, hoC, hbC⟩; rw [HPM.out, HTT.out] at hoC; obtain ⟨aC, cC, rfl⟩ := hoC.shape; (try simp only [List.length_map] at hoC ⊢); skip) | skip))); (refine hK.out _ _ ?_ (fun hHeld => ?_)); (· ((try dsimp only); (repeat' (first | (with_reducible exact Below.refl _ _) | (with_reducible assumption) | (with_reducible refine Below.alloc ?_ ?_ _) | (with_reducible refine Below.drew ?_) | (with_reducible refine Below.stepG ?_ (by assumption) ?_) | (with_reducible refine Below.setCell ?_ ?_ _) | omega | (dsimp only; omega) | (simp; done) | (simp; omega))))); (clear hK K; (try simp only [Act.put, List.setIfInBounds_toArray, List.set_cons_zero, List.set_cons_succ]))))
            | (refine wpAnyH_ready (rs := [6]) (by decide +kernel) (by simp) (AllReadyH.cons (by simp only [List.getElem?_toArray, List.getElem?_cons_zero, List.getElem?_cons_succ]; rfl) (fun K hK => ?_) AllReadyH.nil); all_goals ((first | (refine step_append_any rfl (.const (.slice none 0 0)) (.tmp 72) 41 53 5 40 _ rfl eiRoute _ (.slice none 0 0) [] rfl (Wk.Own.nil _ _ _ _) (.slice ay ny cy) ((M).map routeCells) rfl (HSy.out.below (by (repeat' (first | (with_reducible exact Below.refl _ _) | (with_reducible assumption) | (with_reducible refine Below.alloc ?_ ?_ _) | (with_reducible refine Below.drew ?_) | (with_reducible refine Below.stepG ?_ (by assumption) ?_) | (with_reducible refine Below.setCell ?_ ?_ _) | omega | (dsimp only; omega) | (simp; done) | (simp; omega))))) (by intro c hc; obtain ⟨r, _, rfl⟩ := List.mem_map.1 hc; exact routeCells_one r) (by have := HNy.out; simp; omega) (by decide) (Nat.le_refl _) ?_; intro vA wA hownA hbA; have hsA := hbA.size; (try simp at hsA); obtain ⟨aA, cA, hshA⟩ := hownA.shape; subst hshA) | (refine step_append_any rfl (.const (.slice none 0 0)) (.tmp 76) 28 35 9 72 _ rfl eiAct _ (.slice none 0 0) [] rfl (Wk.Own.nil _ _ _ _) (.slice ad q2 cd) ((Q2).map actCells) rfl (HS2.out.below (by (repeat' (first | (with_reducible exact Below.refl _ _) | (with_reducible assumption) | (with_reducible refine Below.alloc ?_ ?_ _) | (with_reducible refine Below.drew ?_) | (with_reducible refine Below.stepG ?_ (by assumption) ?_) | (with_reducible refine Below.setCell ?_ ?_ _) | omega | (dsimp only; omega) | (simp; done) | (simp; omega))))) (by intro c hc; obtain ⟨r, _, rfl⟩ := List.mem_map.1 hc; exact actCells_one r) (by have := HL2.out; simp; omega) (by decide) (Nat.le_refl _) ?_; intro vB wB hownB hbB; have hsB := hbB.size; (try simp at hsB); obtain ⟨aB, cB, hshB⟩ := hownB.shape; subst hshB) | (go_simp; (first | ((refine (dapply_any aA cA _ aB cB _ M Q2 _ (by simp) (by simp) (by simpa using (hownA.sl.below (by (repeat' (first | (with_reducible exact Below.refl _ _) | (with_reducible assumption) | (with_reducible refine Below.alloc ?_ ?_ _) | (with_reducible refine Below.drew ?_) | (with_reducible refine Below.stepG ?_ (by assumption) ?_) | (with_reducible refine Below.setCell ?_ ?_ _) | omega | (dsimp only; omega) | (simp; done) | (simp; omega)))))) (by simpa using (hownB.sl.below (by (repeat' (first | (with_reducible exact Below.refl _ _) | (with_reducible assumption) | (with_reducible refine Below.alloc ?_ ?_ _) | (with_reducible refine Below.drew ?_) | (with_reducible refine Below.stepG ?_ (by assumption) ?_) | (with_reducible refine Below.setCell ?_ ?_ _) | omega | (dsimp only; omega) | (simp; done) | (simp; omega)))))) HRM.out (by have := HL2.out; omega) (fun x hx => ⟨(HF2.out x hx).1, .inl (HF2.out x hx).2⟩) (by rw [HPM.out]; exact HA2.out)).mono ?_); rintro e wC ⟨vC, rfl, hoC, hbC⟩; rw [HPM.out, HTT.out] at hoC; obtain ⟨aC, cC, rfl⟩ := hoC.shape; (try simp only [List.length_map] at hoC ⊢); skip) | skip))); (refine hK.out _ _ ?_ (fun hHeld => ?_)); (· ((try dsimp only); (repeat' (first | (with_reducible exact Below.refl _ _) | (with_reducible assumption) | (with_reducible refine Below.alloc ?_ ?_ _) | (with_reducible refine Below.drew ?_) | (with_reducible refine Below.stepG ?_ (by assumption) ?_) | (with_reducible refine Below.setCell ?_ ?_ _) | omega | (dsimp only; omega) | (simp; done) | (simp; omega))))); (clear hK K; (try simp only [Act.put, List.setIfInBounds_toArray, List.set_cons_zero, List.set_cons_succ]))))
            | (refine wpAnyH_done (by decide +kernel) ?_ _)
            | fail)
          all_goals go_wp2_with fail
          all_goals go_meet
          all_goals exact ⟨aC, cC, rfl, rfl, Lib.hid (hoC.base (by first | omega | (simp; omega))), Lib.hid (by (repeat' (first | (with_reducible exact Below.refl _ _) | (with_reducible assumption) | (with_reducible refine Below.alloc ?_ ?_ _) | (with_reducible refine Below.drew ?_) | (with_reducible refine Below.stepG ?_ (by assumption) ?_) | (with_reducible refine Below.setCell ?_ ?_ _) | omega | (dsimp only; omega) | (simp; done) | (simp; omega))))⟩
        case rest =>
          obtain ⟨az, cz, rfl, rfl, ho_, hb_⟩ := hcut
          obtain ⟨w9, hwc⟩ : ∃ X : World, X = wc := ⟨_, rfl⟩
          subst hwc
          have ho := ho_.out
          have hb := hb_.out
          clear ho_ hb_
          replace HSa := Lib.hid (HSa.out.below hb)
          replace HSf := Lib.hid (HSf.out.below hb)
          replace HSx := Lib.hid (HSx.out.below hb)
          replace HSy := Lib.hid (HSy.out.below hb)
          replace HS1 := Lib.hid (HS1.out.below hb)
          replace HS2 := Lib.hid (HS2.out.below hb)
          replace HW := Lib.hid (HW.out.trans (hb.mono HW.out.size))
          have uz := ho.sl.lens.2.1
          have vz := ho.sl.lens.2.2
          have HSz := Lib.hid ho.sl
          obtain ⟨nz, hnz⟩ : ∃ n, n = ((tend La Q)).length := ⟨_, rfl⟩
          rw [← hnz] at HSz uz ⊢
          have HNz := Lib.hid hnz
          clear hnz ho hb
          clear htk
          obtain ⟨X, hX⟩ : ∃ X : World, X = w9 := ⟨_, rfl⟩
          subst hX
          have HBX := Lib.hid ((Below.refl X.heap.size X).alloc (Nat.le_refl _) (.cells #[.int .i64 1, .bool false, .int .u64 0, .int .u64 0, .int .i64 0, .int .i64 3, .bool false, .int .u64 0, .int .u64 0] 35))
          go_wp2_with fail
          refine (dapply_any none 0 0 (some ⟨X.heap.size, 0, none⟩) 1 1 [] putOne _ rfl rfl (Sl.empty _ _ _ _ (by decide)) (sl_new (c := actCells ⟨1, 0, 0, 3, 0⟩) rfl rfl) rtok_none (by decide) putOne_ok putOne_all).mono ?_
          rintro e wd ⟨vd, rfl, ho, hb⟩
          rw [putOne_end] at ho
          have HBd := Lib.hid (HBX.out.trans (hb.mono HBX.out.size))
          obtain ⟨ae, ce, rfl⟩ := ho.shape
          replace HSx := Lib.hid (HSx.out.below HBd.out)
          replace HSz := Lib.hid (HSz.out.below HBd.out)
          replace HW := Lib.hid (HW.out.trans (HBd.out.mono HW.out.size))
          clear ho hb HBX HBd
          go_wp2_with fail
          refine (same_yes _ _ _ _ _ _ (tend La Q) wd HNx.out HNz.out HSx.out HSz.out).mono ?_
          rintro e wg ⟨rfl, hb⟩
          go_wp2
          go_returns
          exact ⟨rfl, HW.out.trans (hb.mono HW.out.size)⟩
end Go.Proofs.Yteadfobfenopkaa
