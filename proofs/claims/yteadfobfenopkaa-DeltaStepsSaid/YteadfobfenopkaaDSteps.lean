
/- DeltaSteps: the walk. -/
import Derived.Test.YteadfobfenopkaaDel3
import Derived.Test.YteadfobfenopkaaMkA
set_option linter.unusedVariables false
set_option linter.unusedSimpArgs false
namespace Go.Proofs.Yteadfobfenopkaa
open Go Go.RowKit Go.Sort Wc Wk

theorem diff_ok {L M : List (Nat × Nat × Nat)} (t : TabOk L) (s : TabOk M) : ∀ x ∈ diffL L M, x.fit ∧ (x.kind = 1 ∨ x.kind = 2) := by
  intro x hx
  refine ⟨diff_fit t s x hx, ?_⟩
  rcases List.mem_append.1 hx with hx | hx
  · obtain ⟨u, _, _, rfl⟩ := mem_cutsOf.1 hx
    exact .inr rfl
  · obtain ⟨v, _, _, rfl⟩ := mem_putsOf.1 hx
    exact .inl rfl

set_option maxRecDepth 100000 in
set_option maxHeartbeats 4000000 in
theorem deltaSteps_walk (a0 : Option Addr) (len0 cap0 : Nat) (z0 : List RawJ) (a1 : Option Addr) (len1 cap1 : Nat) (z1 : List RawJ) (a2 : Option Addr) (len2 cap2 : Nat) (z2 : List RawJ) (w : World) (h0 : IsJobs w a0 len0 cap0 z0) (h1 : IsJobs w a1 len1 cap1 z1) (h2 : IsJobs w a2 len2 cap2 z2) :
    Calls Try.prog 7 #[.slice a0 len0 cap0, .slice a1 len1 cap1, .slice a2 len2 cap2] w fun e w' => e = .returned (.bool true) ∧ Below w.heap.size w w' := by
  have H0 := Lib.hid h0
  have H1 := Lib.hid h1
  have H2 := Lib.hid h2
  have HW := Lib.hid (Below.refl w.heap.size w)
  clear h0 h1 h2
  go_enter Try.func7, Try.ntmps7
  go_wp2_with fail
  refine (acts_any a0 len0 cap0 z0 30 w H0.out (by decide)).mono ?_
  rintro e w1 ⟨v1, rfl, ho, hb⟩
  have HFTp := Lib.hid (fun x (hx : x ∈ actsOf z0 30) => actsOf_fit x hx)
  have hbp : (actsOf z0 30).length ≤ 30 := actsOf_len z0 30
  generalize actsOf z0 30 = alp at *
  replace H0 := Lib.hid (H0.out.below hb)
  replace H1 := Lib.hid (H1.out.below hb)
  replace H2 := Lib.hid (H2.out.below hb)
  replace HW := Lib.hid (HW.out.trans (hb.mono HW.out.size))
  obtain ⟨ap, cp, rfl⟩ := ho.shape
  rw [List.length_map] at ho ⊢
  have up := ho.sl.lens.2.1
  have vp := ho.sl.lens.2.2
  have HSp := Lib.hid ho.sl
  obtain ⟨np, hnp⟩ : ∃ n, n = (alp).length := ⟨_, rfl⟩
  rw [← hnp] at HSp up ⊢
  have HNp := Lib.hid hnp
  clear hnp
  have hqp : np ≤ 30 := by rw [HNp.out]; exact hbp
  clear ho hb
  go_wp2_with fail
  refine (routesOf_any ap cp np alp w1 HNp.out HSp.out (by have := HNp.out; omega) HFTp.out).mono ?_
  rintro e w2 ⟨v2, rfl, ho, hb⟩
  have HTa := Lib.hid (tend_ok TabOk.nil HFTp.out)
  generalize tend [] alp = La at *
  replace HSp := Lib.hid (HSp.out.below hb)
  replace H0 := Lib.hid (H0.out.below hb)
  replace H1 := Lib.hid (H1.out.below hb)
  replace H2 := Lib.hid (H2.out.below hb)
  replace HW := Lib.hid (HW.out.trans (hb.mono HW.out.size))
  obtain ⟨aa, ca, rfl⟩ := ho.shape
  rw [List.length_map] at ho ⊢
  have ua := ho.sl.lens.2.1
  have va := ho.sl.lens.2.2
  have HSa := Lib.hid ho.sl
  obtain ⟨na, hna⟩ : ∃ n, n = (La).length := ⟨_, rfl⟩
  rw [← hna] at HSa ua ⊢
  have HNa := Lib.hid hna
  clear hna
  clear ho hb
  have hLa : na ≤ 60 := by rw [HNa.out]; exact HTa.out.len
  have HRa := Lib.hid (RtOk.of_tab HTa.out)
  have HPAa := Lib.hid (putAll_srt HTa.out)
  clear HSp
  go_wp2_with fail
  refine (acts_any a1 len1 cap1 z1 30 w2 H1.out (by decide)).mono ?_
  rintro e w3 ⟨v3, rfl, ho, hb⟩
  have HFTq := Lib.hid (fun x (hx : x ∈ actsOf z1 30) => actsOf_fit x hx)
  have hbq : (actsOf z1 30).length ≤ 30 := actsOf_len z1 30
  generalize actsOf z1 30 = alq at *
  replace HSa := Lib.hid (HSa.out.below hb)
  replace H0 := Lib.hid (H0.out.below hb)
  replace H1 := Lib.hid (H1.out.below hb)
  replace H2 := Lib.hid (H2.out.below hb)
  replace HW := Lib.hid (HW.out.trans (hb.mono HW.out.size))
  obtain ⟨aq, cq, rfl⟩ := ho.shape
  rw [List.length_map] at ho ⊢
  have uq := ho.sl.lens.2.1
  have vq := ho.sl.lens.2.2
  have HSq := Lib.hid ho.sl
  obtain ⟨nq, hnq⟩ : ∃ n, n = (alq).length := ⟨_, rfl⟩
  rw [← hnq] at HSq uq ⊢
  have HNq := Lib.hid hnq
  clear hnq
  have hqq : nq ≤ 30 := by rw [HNq.out]; exact hbq
  clear ho hb
  go_wp2_with fail
  refine (routesOf_any aq cq nq alq w3 HNq.out HSq.out (by have := HNq.out; omega) HFTq.out).mono ?_
  rintro e w4 ⟨v4, rfl, ho, hb⟩
  have HTb := Lib.hid (tend_ok TabOk.nil HFTq.out)
  generalize tend [] alq = Lb at *
  replace HSa := Lib.hid (HSa.out.below hb)
  replace HSq := Lib.hid (HSq.out.below hb)
  replace H0 := Lib.hid (H0.out.below hb)
  replace H1 := Lib.hid (H1.out.below hb)
  replace H2 := Lib.hid (H2.out.below hb)
  replace HW := Lib.hid (HW.out.trans (hb.mono HW.out.size))
  obtain ⟨ab, cb, rfl⟩ := ho.shape
  rw [List.length_map] at ho ⊢
  have ub := ho.sl.lens.2.1
  have vb := ho.sl.lens.2.2
  have HSb := Lib.hid ho.sl
  obtain ⟨nb, hnb⟩ : ∃ n, n = (Lb).length := ⟨_, rfl⟩
  rw [← hnb] at HSb ub ⊢
  have HNb := Lib.hid hnb
  clear hnb
  clear ho hb
  have hLb : nb ≤ 60 := by rw [HNb.out]; exact HTb.out.len
  have HRb := Lib.hid (RtOk.of_tab HTb.out)
  have HPAb := Lib.hid (putAll_srt HTb.out)
  clear HSq
  go_wp2_with fail
  refine (acts_any a2 len2 cap2 z2 30 w4 H2.out (by decide)).mono ?_
  rintro e w5 ⟨v5, rfl, ho, hb⟩
  have HFTr := Lib.hid (fun x (hx : x ∈ actsOf z2 30) => actsOf_fit x hx)
  have hbr : (actsOf z2 30).length ≤ 30 := actsOf_len z2 30
  generalize actsOf z2 30 = alr at *
  replace HSa := Lib.hid (HSa.out.below hb)
  replace HSb := Lib.hid (HSb.out.below hb)
  replace H0 := Lib.hid (H0.out.below hb)
  replace H1 := Lib.hid (H1.out.below hb)
  replace H2 := Lib.hid (H2.out.below hb)
  replace HW := Lib.hid (HW.out.trans (hb.mono HW.out.size))
  obtain ⟨ar, cr, rfl⟩ := ho.shape
  rw [List.length_map] at ho ⊢
  have ur := ho.sl.lens.2.1
  have vr := ho.sl.lens.2.2
  have HSr := Lib.hid ho.sl
  obtain ⟨nr, hnr⟩ : ∃ n, n = (alr).length := ⟨_, rfl⟩
  rw [← hnr] at HSr ur ⊢
  have HNr := Lib.hid hnr
  clear hnr
  have hqr : nr ≤ 30 := by rw [HNr.out]; exact hbr
  clear ho hb
  go_wp2_with fail
  refine (routesOf_any ar cr nr alr w5 HNr.out HSr.out (by have := HNr.out; omega) HFTr.out).mono ?_
  rintro e w6 ⟨v6, rfl, ho, hb⟩
  have HTc := Lib.hid (tend_ok TabOk.nil HFTr.out)
  generalize tend [] alr = Lc at *
  replace HSa := Lib.hid (HSa.out.below hb)
  replace HSb := Lib.hid (HSb.out.below hb)
  replace HSr := Lib.hid (HSr.out.below hb)
  replace H0 := Lib.hid (H0.out.below hb)
  replace H1 := Lib.hid (H1.out.below hb)
  replace H2 := Lib.hid (H2.out.below hb)
  replace HW := Lib.hid (HW.out.trans (hb.mono HW.out.size))
  obtain ⟨ac, cc, rfl⟩ := ho.shape
  rw [List.length_map] at ho ⊢
  have uc := ho.sl.lens.2.1
  have vc := ho.sl.lens.2.2
  have HSc := Lib.hid ho.sl
  obtain ⟨nc, hnc⟩ : ∃ n, n = (Lc).length := ⟨_, rfl⟩
  rw [← hnc] at HSc uc ⊢
  have HNc := Lib.hid hnc
  clear hnc
  clear ho hb
  have hLc : nc ≤ 60 := by rw [HNc.out]; exact HTc.out.len
  have HRc := Lib.hid (RtOk.of_tab HTc.out)
  have HPAc := Lib.hid (putAll_srt HTc.out)
  clear HSr
  go_wp2_with fail
  refine (ddiff_any aa ca na ab cb nb La Lb w6 HNa.out HNb.out HSa.out HSb.out HRa.out HRb.out).mono ?_
  rintro e w7 ⟨v7, rfl, ho, hb⟩
  rw [HPAa.out, HPAb.out] at ho
  replace HSa := Lib.hid (HSa.out.below hb)
  replace HSb := Lib.hid (HSb.out.below hb)
  replace HSc := Lib.hid (HSc.out.below hb)
  replace HW := Lib.hid (HW.out.trans (hb.mono HW.out.size))
  obtain ⟨ax, cx, rfl⟩ := ho.shape
  rw [List.length_map] at ho ⊢
  have ux := ho.sl.lens.2.1
  have vx := ho.sl.lens.2.2
  have HSx := Lib.hid ho.sl
  obtain ⟨nx, hnx⟩ : ∃ n, n = (diffL La Lb).length := ⟨_, rfl⟩
  rw [← hnx] at HSx ux ⊢
  have HNx := Lib.hid hnx
  clear hnx
  clear ho hb
  go_wp2_with fail
  refine (ddiff_any ab cb nb ac cc nc Lb Lc w7 HNb.out HNc.out HSb.out HSc.out HRb.out HRc.out).mono ?_
  rintro e w8 ⟨v8, rfl, ho, hb⟩
  rw [HPAb.out, HPAc.out] at ho
  replace HSa := Lib.hid (HSa.out.below hb)
  replace HSb := Lib.hid (HSb.out.below hb)
  replace HSc := Lib.hid (HSc.out.below hb)
  replace HSx := Lib.hid (HSx.out.below hb)
  replace HW := Lib.hid (HW.out.trans (hb.mono HW.out.size))
  obtain ⟨ay, cy, rfl⟩ := ho.shape
  rw [List.length_map] at ho ⊢
  have uy := ho.sl.lens.2.1
  have vy := ho.sl.lens.2.2
  have HSy := Lib.hid ho.sl
  obtain ⟨ny, hny⟩ : ∃ n, n = (diffL Lb Lc).length := ⟨_, rfl⟩
  rw [← hny] at HSy uy ⊢
  have HNy := Lib.hid hny
  clear hny
  clear ho hb
  go_wp2_with fail
  refine (ddiff_any aa ca na ac cc nc La Lc w8 HNa.out HNc.out HSa.out HSc.out HRa.out HRc.out).mono ?_
  rintro e w9 ⟨v9, rfl, ho, hb⟩
  rw [HPAa.out, HPAc.out] at ho
  replace HSa := Lib.hid (HSa.out.below hb)
  replace HSb := Lib.hid (HSb.out.below hb)
  replace HSc := Lib.hid (HSc.out.below hb)
  replace HSx := Lib.hid (HSx.out.below hb)
  replace HSy := Lib.hid (HSy.out.below hb)
  replace HW := Lib.hid (HW.out.trans (hb.mono HW.out.size))
  obtain ⟨az, cz, rfl⟩ := ho.shape
  rw [List.length_map] at ho ⊢
  have uz := ho.sl.lens.2.1
  have vz := ho.sl.lens.2.2
  have HSz := Lib.hid ho.sl
  obtain ⟨nz, hnz⟩ : ∃ n, n = (diffL La Lc).length := ⟨_, rfl⟩
  rw [← hnz] at HSz uz ⊢
  have HNz := Lib.hid hnz
  clear hnz
  clear ho hb
  go_wp2_with fail
  refine (ddiff_any ab cb nb aa ca na Lb La w9 HNb.out HNa.out HSb.out HSa.out HRb.out HRa.out).mono ?_
  rintro e w10 ⟨v10, rfl, ho, hb⟩
  rw [HPAb.out, HPAa.out] at ho
  replace HSa := Lib.hid (HSa.out.below hb)
  replace HSb := Lib.hid (HSb.out.below hb)
  replace HSc := Lib.hid (HSc.out.below hb)
  replace HSx := Lib.hid (HSx.out.below hb)
  replace HSy := Lib.hid (HSy.out.below hb)
  replace HSz := Lib.hid (HSz.out.below hb)
  replace HW := Lib.hid (HW.out.trans (hb.mono HW.out.size))
  obtain ⟨ak, ck, rfl⟩ := ho.shape
  rw [List.length_map] at ho ⊢
  have uk := ho.sl.lens.2.1
  have vk := ho.sl.lens.2.2
  have HSk := Lib.hid ho.sl
  obtain ⟨nk, hnk⟩ : ∃ n, n = (diffL Lb La).length := ⟨_, rfl⟩
  rw [← hnk] at HSk uk ⊢
  have HNk := Lib.hid hnk
  clear hnk
  clear ho hb
  go_wp2_with fail
  refine (dapply_any aa ca na ax cx nx La (diffL La Lb) w10 HNa.out HNx.out HSa.out HSx.out HRa.out (by have := diff_len La Lb; have := HTa.out.len; have := HTb.out.len; omega) (diff_ok HTa.out HTb.out) (by rw [HPAa.out]; exact (dif_all HTa.out HTb.out).1)).mono ?_
  rintro e w11 ⟨v11, rfl, ho, hb⟩
  rw [HPAa.out, (dif_all HTa.out HTb.out).2] at ho
  replace HSa := Lib.hid (HSa.out.below hb)
  replace HSb := Lib.hid (HSb.out.below hb)
  replace HSc := Lib.hid (HSc.out.below hb)
  replace HSx := Lib.hid (HSx.out.below hb)
  replace HSy := Lib.hid (HSy.out.below hb)
  replace HSz := Lib.hid (HSz.out.below hb)
  replace HSk := Lib.hid (HSk.out.below hb)
  replace HW := Lib.hid (HW.out.trans (hb.mono HW.out.size))
  obtain ⟨au, cu, rfl⟩ := ho.shape
  rw [List.length_map] at ho ⊢
  have uu := ho.sl.lens.2.1
  have vu := ho.sl.lens.2.2
  have HSu := Lib.hid ho.sl
  obtain ⟨nu, hnu⟩ : ∃ n, n = (Lb).length := ⟨_, rfl⟩
  rw [← hnu] at HSu uu ⊢
  have HNu := Lib.hid hnu
  clear hnu
  clear ho hb
  go_wp2_with fail
  refine (dapply_any au cu nu ay cy ny Lb (diffL Lb Lc) w11 HNu.out HNy.out HSu.out HSy.out HRb.out (by have := diff_len Lb Lc; have := HTb.out.len; have := HTc.out.len; omega) (diff_ok HTb.out HTc.out) (by rw [HPAb.out]; exact (dif_all HTb.out HTc.out).1)).mono ?_
  rintro e w12 ⟨v12, rfl, ho, hb⟩
  rw [HPAb.out, (dif_all HTb.out HTc.out).2] at ho
  replace HSa := Lib.hid (HSa.out.below hb)
  replace HSb := Lib.hid (HSb.out.below hb)
  replace HSc := Lib.hid (HSc.out.below hb)
  replace HSx := Lib.hid (HSx.out.below hb)
  replace HSy := Lib.hid (HSy.out.below hb)
  replace HSz := Lib.hid (HSz.out.below hb)
  replace HSk := Lib.hid (HSk.out.below hb)
  replace HSu := Lib.hid (HSu.out.below hb)
  replace HW := Lib.hid (HW.out.trans (hb.mono HW.out.size))
  obtain ⟨av, cv, rfl⟩ := ho.shape
  rw [List.length_map] at ho ⊢
  have uv := ho.sl.lens.2.1
  have vv := ho.sl.lens.2.2
  have HSv := Lib.hid ho.sl
  obtain ⟨nv, hnv⟩ : ∃ n, n = (Lc).length := ⟨_, rfl⟩
  rw [← hnv] at HSv uv ⊢
  have HNv := Lib.hid hnv
  clear hnv
  clear ho hb
  go_wp2_with fail
  refine (dapply_any aa ca na az cz nz La (diffL La Lc) w12 HNa.out HNz.out HSa.out HSz.out HRa.out (by have := diff_len La Lc; have := HTa.out.len; have := HTc.out.len; omega) (diff_ok HTa.out HTc.out) (by rw [HPAa.out]; exact (dif_all HTa.out HTc.out).1)).mono ?_
  rintro e w13 ⟨v13, rfl, ho, hb⟩
  rw [HPAa.out, (dif_all HTa.out HTc.out).2] at ho
  replace HSa := Lib.hid (HSa.out.below hb)
  replace HSb := Lib.hid (HSb.out.below hb)
  replace HSc := Lib.hid (HSc.out.below hb)
  replace HSx := Lib.hid (HSx.out.below hb)
  replace HSy := Lib.hid (HSy.out.below hb)
  replace HSz := Lib.hid (HSz.out.below hb)
  replace HSk := Lib.hid (HSk.out.below hb)
  replace HSu := Lib.hid (HSu.out.below hb)
  replace HSv := Lib.hid (HSv.out.below hb)
  replace HW := Lib.hid (HW.out.trans (hb.mono HW.out.size))
  obtain ⟨ae, ce, rfl⟩ := ho.shape
  rw [List.length_map] at ho ⊢
  have ue := ho.sl.lens.2.1
  have ve := ho.sl.lens.2.2
  have HSe := Lib.hid ho.sl
  obtain ⟨ne, hne⟩ : ∃ n, n = (Lc).length := ⟨_, rfl⟩
  rw [← hne] at HSe ue ⊢
  have HNe := Lib.hid hne
  clear hne
  clear ho hb
  have hxk : nk = nx := by rw [HNk.out, HNx.out]; exact diff_back HTa.out HTb.out
  subst hxk
  have t1 : nz ≤ nk + ny := by rw [HNz.out, HNx.out, HNy.out]; exact diff_tri HTa.out HTb.out HTc.out
  have hx120 : nk ≤ 120 := by
    rw [HNx.out]
    have := diff_len La Lb
    have := HTa.out.len
    have := HTb.out.len
    omega
  have hy120 : ny ≤ 120 := by
    rw [HNy.out]
    have := diff_len Lb Lc
    have := HTc.out.len
    have := HTb.out.len
    omega
  have t2 : decide ((nz : Int) ≤ (nk : Int) + (ny : Int)) = true := by simp; omega
  go_wp2_with fail
  refine (same_yes _ _ _ _ _ _ Lc w13 HNv.out HNc.out HSv.out HSc.out).mono ?_
  rintro e w14 ⟨rfl, hb⟩
  replace HSa := Lib.hid (HSa.out.below hb)
  replace HSb := Lib.hid (HSb.out.below hb)
  replace HSc := Lib.hid (HSc.out.below hb)
  replace HSx := Lib.hid (HSx.out.below hb)
  replace HSy := Lib.hid (HSy.out.below hb)
  replace HSz := Lib.hid (HSz.out.below hb)
  replace HSk := Lib.hid (HSk.out.below hb)
  replace HSu := Lib.hid (HSu.out.below hb)
  replace HSv := Lib.hid (HSv.out.below hb)
  replace HSe := Lib.hid (HSe.out.below hb)
  replace HW := Lib.hid (HW.out.trans (hb.mono HW.out.size))
  clear hb
  go_wp2_with fail
  refine (same_yes _ _ _ _ _ _ Lc w14 HNe.out HNc.out HSe.out HSc.out).mono ?_
  rintro e w15 ⟨rfl, hb⟩
  replace HSa := Lib.hid (HSa.out.below hb)
  replace HSb := Lib.hid (HSb.out.below hb)
  replace HSc := Lib.hid (HSc.out.below hb)
  replace HSx := Lib.hid (HSx.out.below hb)
  replace HSy := Lib.hid (HSy.out.below hb)
  replace HSz := Lib.hid (HSz.out.below hb)
  replace HSk := Lib.hid (HSk.out.below hb)
  replace HSu := Lib.hid (HSu.out.below hb)
  replace HSv := Lib.hid (HSv.out.below hb)
  replace HSe := Lib.hid (HSe.out.below hb)
  replace HW := Lib.hid (HW.out.trans (hb.mono HW.out.size))
  clear hb
  go_wp2
  go_returns
  exact ⟨rfl, HW.out⟩
end Go.Proofs.Yteadfobfenopkaa
