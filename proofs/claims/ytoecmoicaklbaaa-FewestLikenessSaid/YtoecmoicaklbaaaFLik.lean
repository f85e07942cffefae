
/- FewestLikeness: the walk. -/
import Derived.Test.YtoecmoicaklbaaaFbP
import Derived.Test.YtoecmoicaklbaaaSm2
import Derived.Test.YtoecmoicaklbaaaWt
set_option linter.unusedVariables false
set_option linter.unusedSimpArgs false
namespace Go.Proofs.Ytoecmoicaklbaaa
open Go Go.RowKit Go.Sort Wc Wk

set_option maxRecDepth 100000 in
set_option maxHeartbeats 4000000 in
theorem fewestLikeness_walk (a0 : Option Addr) (len0 cap0 : Nat) (z0 : List RawJ) (a1 : Option Addr) (len1 cap1 : Nat) (z1 : List RawJ) (hz : Int) (w : World) (h0 : IsJobs w a0 len0 cap0 z0) (h1 : IsJobs w a1 len1 cap1 z1) (hh : -9223372036854775808 ≤ hz ∧ hz ≤ 9223372036854775807) :
    Calls Try.prog 12 #[.slice a0 len0 cap0, .slice a1 len1 cap1, .int .i64 hz] w fun e w' => e = .returned (.bool true) ∧ Below w.heap.size w w' := by
  have H0 := Lib.hid h0
  have H1 := Lib.hid h1
  have HH := Lib.hid hh
  have HW := Lib.hid (Below.refl w.heap.size w)
  clear h0 h1 hh
  go_enter Try.func12, Try.ntmps12
  go_wp2_with fail
  refine (whole_any a0 len0 cap0 z0 hz w H0.out HH.out).mono ?_
  rintro e w1 ⟨v1, rfl, ho, hb⟩
  have HRa := Lib.hid (whole_ok z0 (hopOf_lt hz))
  have HEa := Lib.hid (whole_zero z0 (hopOf hz))
  generalize wholeR z0 (hopOf hz) = La at *
  replace H0 := Lib.hid (H0.out.below hb)
  replace H1 := Lib.hid (H1.out.below hb)
  replace HW := Lib.hid (HW.out.trans (hb.mono HW.out.size))
  obtain ⟨aa, ca, rfl⟩ := ho.shape
  rw [List.length_map] at ho ⊢
  have ua := ho.sl.lens.2.1
  have va := ho.sl.lens.2.2
  have HSa := Lib.hid ho.sl
  obtain ⟨na, hna⟩ : ∃ n, n = (La).length := ⟨_, rfl⟩
  rw [← hna] at HSa ua ⊢
  have HNa := Lib.hid hna
  clear hna
  clear ho hb
  have hLa : na ≤ 60 := by rw [HNa.out]; exact HRa.out.len
  have hPa : 0 < na := by rw [HNa.out]; obtain ⟨x, hx, _⟩ := HEa.out; exact List.length_pos_iff.2 (List.ne_nil_of_mem hx)
  clear H0
  go_wp2_with fail
  refine (whole_any a1 len1 cap1 z1 hz w1 H1.out HH.out).mono ?_
  rintro e w2 ⟨v2, rfl, ho, hb⟩
  have HRb := Lib.hid (whole_ok z1 (hopOf_lt hz))
  have HEb := Lib.hid (whole_zero z1 (hopOf hz))
  generalize wholeR z1 (hopOf hz) = Lb at *
  replace HSa := Lib.hid (HSa.out.below hb)
  replace H1 := Lib.hid (H1.out.below hb)
  replace HW := Lib.hid (HW.out.trans (hb.mono HW.out.size))
  obtain ⟨ab, cb, rfl⟩ := ho.shape
  rw [List.length_map] at ho ⊢
  have ub := ho.sl.lens.2.1
  have vb := ho.sl.lens.2.2
  have HSb := Lib.hid ho.sl
  obtain ⟨nb, hnb⟩ : ∃ n, n = (Lb).length := ⟨_, rfl⟩
  rw [← hnb] at HSb ub ⊢
  have HNb := Lib.hid hnb
  clear hnb
  clear ho hb
  have hLb : nb ≤ 60 := by rw [HNb.out]; exact HRb.out.len
  have hPb : 0 < nb := by rw [HNb.out]; obtain ⟨x, hx, _⟩ := HEb.out; exact List.length_pos_iff.2 (List.ne_nil_of_mem hx)
  clear H1
  have HCM := Lib.hid (likeB_comm HRb.out HRa.out)
  have HRF := Lib.hid (likeB_refl HRa.out)
  go_wp2_with fail
  refine (fsame_any aa ab ca cb na nb La Lb w2 HNa.out HNb.out HSa.out HSb.out HRa.out HRb.out hPa).mono ?_
  rintro e w3 ⟨rfl, hb⟩
  replace HSa := Lib.hid (HSa.out.below hb)
  replace HSb := Lib.hid (HSb.out.below hb)
  replace HW := Lib.hid (HW.out.trans (hb.mono HW.out.size))
  clear hb
  go_wp2_with fail
  refine (fsame_any ab aa cb ca nb na Lb La w3 HNb.out HNa.out HSb.out HSa.out HRb.out HRa.out hPb).mono ?_
  rintro e w4 ⟨rfl, hb⟩
  rw [HCM.out]
  replace HSa := Lib.hid (HSa.out.below hb)
  replace HSb := Lib.hid (HSb.out.below hb)
  replace HW := Lib.hid (HW.out.trans (hb.mono HW.out.size))
  clear hb
  go_wp2_with (at_builtin; refine stop_at ?_; intro G hG)
  rw [← hG.out]; clear hG G
  refine wpList_append_any rfl _ _ 43 49 5 40 _ rfl eiRoute _ (.slice none 0 0) [] rfl (Wk.Own.nil _ _ _ _) (.slice aa na ca) ((La).map routeCells) rfl HSa.out (by intro c hc; obtain ⟨r, _, rfl⟩ := List.mem_map.1 hc; exact routeCells_one r) (by have := HNa.out; simp; omega) (by decide) (Nat.le_refl _) ?_
  intro v5 w5 ho hb
  rw [List.nil_append] at ho
  replace HSa := Lib.hid (HSa.out.below hb)
  replace HSb := Lib.hid (HSb.out.below hb)
  replace HW := Lib.hid (HW.out.trans (hb.mono HW.out.size))
  obtain ⟨ad, cd, rfl⟩ := ho.shape
  rw [List.length_map] at ho ⊢
  have ud := ho.sl.lens.2.1
  have vd := ho.sl.lens.2.2
  have HSd := Lib.hid ho.sl
  obtain ⟨nd, hnd⟩ : ∃ n, n = (La).length := ⟨_, rfl⟩
  rw [← hnd] at HSd ud ⊢
  have HNd := Lib.hid hnd
  clear hnd
  have hqd : nd = na := by rw [HNd.out, HNa.out]
  rw [hqd] at HSd ud ⊢
  clear hqd HNd
  have HNd := HNa
  clear ho hb
  have HRd := HRa
  go_wp2_with fail
  refine (fsame_any aa ad ca cd na na La La w5 HNa.out HNd.out HSa.out HSd.out HRa.out HRa.out hPa).mono ?_
  rintro e w6 ⟨rfl, hb⟩
  rw [HRF.out]
  replace HSa := Lib.hid (HSa.out.below hb)
  replace HSb := Lib.hid (HSb.out.below hb)
  replace HSd := Lib.hid (HSd.out.below hb)
  replace HW := Lib.hid (HW.out.trans (hb.mono HW.out.size))
  clear hb
  clear HSd
  go_wp2_with (at_builtin; refine stop_at ?_; intro G hG)
  rw [← hG.out]; clear hG G
  refine wpList_append_any rfl _ _ 43 49 5 40 _ rfl eiRoute _ (.slice none 0 0) [] rfl (Wk.Own.nil _ _ _ _) (.slice ab nb cb) ((Lb).map routeCells) rfl HSb.out (by intro c hc; obtain ⟨r, _, rfl⟩ := List.mem_map.1 hc; exact routeCells_one r) (by have := HNb.out; simp; omega) (by decide) (Nat.le_refl _) ?_
  intro v7 w7 ho hb
  rw [List.nil_append] at ho
  replace HSa := Lib.hid (HSa.out.below hb)
  replace HSb := Lib.hid (HSb.out.below hb)
  replace HW := Lib.hid (HW.out.trans (hb.mono HW.out.size))
  obtain ⟨ag, cg, rfl⟩ := ho.shape
  rw [List.length_map] at ho ⊢
  have ug := ho.sl.lens.2.1
  have vg := ho.sl.lens.2.2
  have HSg := Lib.hid ho.sl
  obtain ⟨ng, hng⟩ : ∃ n, n = (Lb).length := ⟨_, rfl⟩
  rw [← hng] at HSg ug ⊢
  have HNg := Lib.hid hng
  clear hng
  have hqg : ng = nb := by rw [HNg.out, HNb.out]
  rw [hqg] at HSg ug ⊢
  clear hqg HNg
  have HNg := HNb
  clear ho hb
  go_wp2_with fail
  refine (fewest_ret ag cg _ Lb w7 HNg.out HSg.out HRb.out HEb.out).mono ?_
  rintro e w8 ⟨v8, ys, rfl, hsr, ho, hb⟩
  have HLC := Lib.hid (likeB_few HRa.out HRb.out hsr HEb.out)
  have HRc := Lib.hid (few_ok HRb.out hsr HEb.out)
  clear hsr
  generalize fewL ys = Lc at *
  clear ys
  replace HSa := Lib.hid (HSa.out.below hb)
  replace HSb := Lib.hid (HSb.out.below hb)
  replace HSg := Lib.hid (HSg.out.below hb)
  replace HW := Lib.hid (HW.out.trans (hb.mono HW.out.size))
  obtain ⟨ac, cc, rfl⟩ := ho.shape
  rw [List.length_map] at ho ⊢
  have uc := ho.sl.lens.2.1
  have vc := ho.sl.lens.2.2
  have HSc := Lib.hid ho.sl
  obtain ⟨nc, hnc⟩ : ∃ n, n = (Lc).length := ⟨_, rfl⟩
  rw [← hnc] at HSc uc ⊢
  have HNc := Lib.hid hnc
  clear hnc
  clear ho hb
  have hLc : nc ≤ 60 := by rw [HNc.out]; exact HRc.out.len
  clear HSg
  go_wp2_with fail
  refine (fsame_any aa ac ca cc na nc La Lc w8 HNa.out HNc.out HSa.out HSc.out HRa.out HRc.out hPa).mono ?_
  rintro e w9 ⟨rfl, hb⟩
  rw [HLC.out]
  replace HSa := Lib.hid (HSa.out.below hb)
  replace HSb := Lib.hid (HSb.out.below hb)
  replace HSc := Lib.hid (HSc.out.below hb)
  replace HW := Lib.hid (HW.out.trans (hb.mono HW.out.size))
  clear hb
  generalize likeB La Lb = q at *
  clear HSa HSb HSc
  cases q
  all_goals go_wp2
  all_goals go_returns
  all_goals exact ⟨by simp, HW.out⟩
end Go.Proofs.Ytoecmoicaklbaaa
