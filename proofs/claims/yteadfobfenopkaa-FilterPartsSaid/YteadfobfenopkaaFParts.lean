
/- FilterParts: the walk. -/
import Derived.Test.YteadfobfenopkaaFilt
import Derived.Test.YteadfobfenopkaaDelX
set_option linter.unusedVariables false
set_option linter.unusedSimpArgs false
namespace Go.Proofs.Yteadfobfenopkaa
open Go Go.RowKit Go.Sort Wc Wk

theorem passed_n (a : Option Addr) (cap m : Nat) (rs : List RuleD) (n k : Nat) (w : World) (hm : m = rs.length) (hs : Sl w 7 (.slice a m cap) (rs.map ruleCells)) (hlen : rs.length ≤ 30) (hok : ∀ q ∈ rs, RuleD.ok q) (hp : VP false n k) :
    Calls Try.prog 29 #[.slice a m cap, Value.agg #[.bool false, .int .u64 (hiOf false n), .int .u64 (loOf n), .int .i64 k]] w fun e w' => e = .returned (.tuple #[.bool (passY rs n k), .int .i64 (passI rs n k), .bool true]) ∧ Below w.heap.size w w' := by
  subst hm; exact passed_any a cap rs n k w hs hlen hok hp
theorem thru_at (rs : List RuleD) {L : List (Nat × Nat × Nat)} {m : Nat} {x : Nat × Nat × Nat} (hx : L[m]? = some x) (hp : passY rs x.1 x.2.1 = true) : (thru rs L)[(thru rs (L.take m)).length]? = some x := by
  have e : L = L.take m ++ x :: L.drop (m + 1) := by rw [← drop_one hx, List.take_append_drop]
  have e2 : thru rs L = thru rs (L.take m) ++ x :: thru rs (L.drop (m + 1)) := by
    conv => lhs; rw [e]
    unfold thru
    rw [List.filter_append, List.filter_cons_of_pos (p := fun x : Nat × Nat × Nat => passY rs x.1 x.2.1) hp]
  rw [e2, List.getElem?_append_right (Nat.le_refl _), Nat.sub_self]; rfl

set_option maxRecDepth 100000 in
set_option maxHeartbeats 4000000 in
theorem filterParts_walk (a0 : Option Addr) (len0 cap0 : Nat) (z0 : List Int) (a1 : Option Addr) (len1 cap1 : Nat) (z1 : List RawJ) (w : World) (h0 : IsRow .i64 w a0 len0 cap0 z0) (h1 : IsJobs w a1 len1 cap1 z1) :
    Calls Try.prog 8 #[.slice a0 len0 cap0, .slice a1 len1 cap1] w fun e w' => e = .returned (.bool true) ∧ Below w.heap.size w w' := by
  have H0 := Lib.hid h0
  have H1 := Lib.hid h1
  have HW := Lib.hid (Below.refl w.heap.size w)
  clear h0 h1
  go_enter Try.func8, Try.ntmps8
  go_wp2_with fail
  refine (rules_any a0 len0 cap0 z0 20 w H0.out (by decide)).mono ?_
  rintro e w1 ⟨v1, rs, rfl, ho, hok, hlen, hb⟩
  have HK := Lib.hid hok
  clear hok
  replace H1 := Lib.hid (H1.out.below hb)
  replace HW := Lib.hid (HW.out.trans (hb.mono HW.out.size))
  obtain ⟨ar, cr, rfl⟩ := ho.shape
  rw [List.length_map] at ho ⊢
  have ur := ho.sl.lens.2.1
  have vr := ho.sl.lens.2.2
  have HSr := Lib.hid ho.sl
  obtain ⟨nr, hnr⟩ : ∃ n, n = (rs).length := ⟨_, rfl⟩
  rw [← hnr] at HSr ur ⊢
  have HNr := Lib.hid hnr
  clear hnr
  clear ho hb
  have hqr : nr ≤ 20 := by rw [HNr.out]; exact hlen
  clear hlen
  go_wp2_with fail
  refine (acts_any a1 len1 cap1 z1 40 w1 H1.out (by decide)).mono ?_
  rintro e w2 ⟨v2, rfl, ho, hb⟩
  have HFTp := Lib.hid (fun x (hx : x ∈ actsOf z1 40) => actsOf_fit x hx)
  have hbp : (actsOf z1 40).length ≤ 40 := actsOf_len z1 40
  generalize actsOf z1 40 = alp at *
  replace HSr := Lib.hid (HSr.out.below hb)
  replace H1 := Lib.hid (H1.out.below hb)
  replace HW := Lib.hid (HW.out.trans (hb.mono HW.out.size))
  obtain ⟨ap, cp, rfl⟩ := ho.shape
  rw [List.length_map] at ho ⊢
  have up := ho.sl.lens.2.1
  have vp := ho.sl.lens.2.2
  have HSp := Lib.hid ho.sl
  obtain ⟨np, hnp⟩ : ∃ n, n = (alp).length := ⟨_, rfl⟩
  rw [← hnp] at HSp up ⊢
  have HNp := Lib.hid hnp
  clear hnp
  have hqp : np ≤ 40 := by rw [HNp.out]; exact hbp
  clear ho hb
  go_wp2_with fail
  refine (routesOf_any ap cp np alp w2 HNp.out HSp.out (by have := HNp.out; omega) HFTp.out).mono ?_
  rintro e w3 ⟨v3, rfl, ho, hb⟩
  have HTa := Lib.hid (tend_ok TabOk.nil HFTp.out)
  generalize tend [] alp = La at *
  replace HSr := Lib.hid (HSr.out.below hb)
  replace HSp := Lib.hid (HSp.out.below hb)
  replace H1 := Lib.hid (H1.out.below hb)
  replace HW := Lib.hid (HW.out.trans (hb.mono HW.out.size))
  obtain ⟨aa, ca, rfl⟩ := ho.shape
  rw [List.length_map] at ho ⊢
  have ua := ho.sl.lens.2.1
  have va := ho.sl.lens.2.2
  have HSa := Lib.hid ho.sl
  obtain ⟨na, hna⟩ : ∃ n, n = (La).length := ⟨_, rfl⟩
  rw [← hna] at HSa ua ⊢
  have HNa := Lib.hid hna
  clear hna
  clear ho hb
  have hLa : na ≤ 60 := by rw [HNa.out]; exact HTa.out.len
  have HRa := Lib.hid (RtOk.of_tab HTa.out)
  have HPAa := Lib.hid (putAll_srt HTa.out)
  clear HSp
  go_wp2_with (at_builtin; refine stop_at ?_; intro G hG)
  rw [← hG.out]; clear hG G
  refine wpList_append_any rfl _ _ 58 113 7 56 _ rfl eiRule _ (.slice none 0 0) [] rfl (Wk.Own.nil _ _ _ _) (.slice ar nr cr) ((rs).map ruleCells) rfl HSr.out (by intro c hc; obtain ⟨r, _, rfl⟩ := List.mem_map.1 hc; exact ruleCells_one r) (by have := HNr.out; simp; omega) (by decide) (Nat.le_refl _) ?_
  intro v4 w4 ho hb
  rw [List.nil_append] at ho
  replace HSr := Lib.hid (HSr.out.below hb)
  replace HSa := Lib.hid (HSa.out.below hb)
  replace HW := Lib.hid (HW.out.trans (hb.mono HW.out.size))
  obtain ⟨ac1, cc1, rfl⟩ := ho.shape
  rw [List.length_map] at ho ⊢
  have uc1 := ho.sl.lens.2.1
  have vc1 := ho.sl.lens.2.2
  have HSc1 := Lib.hid ho.sl
  obtain ⟨nc1, hnc1⟩ : ∃ n, n = (rs).length := ⟨_, rfl⟩
  rw [← hnc1] at HSc1 uc1 ⊢
  have HNc1 := Lib.hid hnc1
  clear hnc1
  have hqc1 : nc1 = nr := by rw [HNc1.out, HNr.out]
  rw [hqc1] at HSc1 uc1 ⊢
  clear hqc1 HNc1
  have HNc1 := HNr
  clear ho hb
  go_wp2_with (at_builtin; refine stop_at ?_; intro G hG)
  rw [← hG.out]; clear hG G
  refine wpList_append_any rfl _ _ 41 53 5 40 _ rfl eiRoute _ (.slice none 0 0) [] rfl (Wk.Own.nil _ _ _ _) (.slice aa na ca) ((La).map routeCells) rfl HSa.out (by intro c hc; obtain ⟨r, _, rfl⟩ := List.mem_map.1 hc; exact routeCells_one r) (by have := HNa.out; simp; omega) (by decide) (Nat.le_refl _) ?_
  intro v5 w5 ho hb
  rw [List.nil_append] at ho
  replace HSr := Lib.hid (HSr.out.below hb)
  replace HSa := Lib.hid (HSa.out.below hb)
  replace HSc1 := Lib.hid (HSc1.out.below hb)
  replace HW := Lib.hid (HW.out.trans (hb.mono HW.out.size))
  obtain ⟨ac2, cc2, rfl⟩ := ho.shape
  rw [List.length_map] at ho ⊢
  have uc2 := ho.sl.lens.2.1
  have vc2 := ho.sl.lens.2.2
  have HSc2 := Lib.hid ho.sl
  obtain ⟨nc2, hnc2⟩ : ∃ n, n = (La).length := ⟨_, rfl⟩
  rw [← hnc2] at HSc2 uc2 ⊢
  have HNc2 := Lib.hid hnc2
  clear hnc2
  have hqc2 : nc2 = na := by rw [HNc2.out, HNa.out]
  rw [hqc2] at HSc2 uc2 ⊢
  clear hqc2 HNc2
  have HNc2 := HNa
  clear ho hb
  go_wp2_with fail
  refine (filter_any ac1 cc1 _ ac2 cc2 _ rs La w5 HNc1.out HNc2.out HSc1.out HSc2.out (by rw [← HNr.out]; omega) HK.out HRa.out).mono ?_
  rintro e w6 ⟨v6, rfl, ho, hb⟩
  replace HSr := Lib.hid (HSr.out.below hb)
  replace HSa := Lib.hid (HSa.out.below hb)
  replace HSc1 := Lib.hid (HSc1.out.below hb)
  replace HSc2 := Lib.hid (HSc2.out.below hb)
  replace HW := Lib.hid (HW.out.trans (hb.mono HW.out.size))
  obtain ⟨ax, cx, rfl⟩ := ho.shape
  rw [List.length_map] at ho ⊢
  have ux := ho.sl.lens.2.1
  have vx := ho.sl.lens.2.2
  have HSx := Lib.hid ho.sl
  obtain ⟨nx, hnx⟩ : ∃ n, n = (thru rs La).length := ⟨_, rfl⟩
  rw [← hnx] at HSx ux ⊢
  have HNx := Lib.hid hnx
  clear hnx
  clear ho hb
  have HRX := Lib.hid (thru_ok rs HRa.out)
  have hqx : nx ≤ 60 := by rw [HNx.out]; exact HRX.out.len
  clear HSc1
  clear HSc2
  go_wp2_with (at_builtin; refine stop_at ?_; intro G hG)
  rw [← hG.out]; clear hG G
  refine wpList_append_any rfl _ _ 58 113 7 56 _ rfl eiRule _ (.slice none 0 0) [] rfl (Wk.Own.nil _ _ _ _) (.slice ar nr cr) ((rs).map ruleCells) rfl HSr.out (by intro c hc; obtain ⟨r, _, rfl⟩ := List.mem_map.1 hc; exact ruleCells_one r) (by have := HNr.out; simp; omega) (by decide) (Nat.le_refl _) ?_
  intro v7 w7 ho hb
  rw [List.nil_append] at ho
  replace HSr := Lib.hid (HSr.out.below hb)
  replace HSa := Lib.hid (HSa.out.below hb)
  replace HSx := Lib.hid (HSx.out.below hb)
  replace HW := Lib.hid (HW.out.trans (hb.mono HW.out.size))
  obtain ⟨ac3, cc3, rfl⟩ := ho.shape
  rw [List.length_map] at ho ⊢
  have uc3 := ho.sl.lens.2.1
  have vc3 := ho.sl.lens.2.2
  have HSc3 := Lib.hid ho.sl
  obtain ⟨nc3, hnc3⟩ : ∃ n, n = (rs).length := ⟨_, rfl⟩
  rw [← hnc3] at HSc3 uc3 ⊢
  have HNc3 := Lib.hid hnc3
  clear hnc3
  have hqc3 : nc3 = nr := by rw [HNc3.out, HNr.out]
  rw [hqc3] at HSc3 uc3 ⊢
  clear hqc3 HNc3
  have HNc3 := HNr
  clear ho hb
  go_wp2_with (at_builtin; refine stop_at ?_; intro G hG)
  rw [← hG.out]; clear hG G
  refine wpList_append_any rfl _ _ 41 53 5 40 _ rfl eiRoute _ (.slice none 0 0) [] rfl (Wk.Own.nil _ _ _ _) (.slice ax nx cx) ((thru rs La).map routeCells) rfl HSx.out (by intro c hc; obtain ⟨r, _, rfl⟩ := List.mem_map.1 hc; exact routeCells_one r) (by have := HNx.out; simp; omega) (by decide) (Nat.le_refl _) ?_
  intro v8 w8 ho hb
  rw [List.nil_append] at ho
  replace HSr := Lib.hid (HSr.out.below hb)
  replace HSa := Lib.hid (HSa.out.below hb)
  replace HSx := Lib.hid (HSx.out.below hb)
  replace HSc3 := Lib.hid (HSc3.out.below hb)
  replace HW := Lib.hid (HW.out.trans (hb.mono HW.out.size))
  obtain ⟨ac4, cc4, rfl⟩ := ho.shape
  rw [List.length_map] at ho ⊢
  have uc4 := ho.sl.lens.2.1
  have vc4 := ho.sl.lens.2.2
  have HSc4 := Lib.hid ho.sl
  obtain ⟨nc4, hnc4⟩ : ∃ n, n = (thru rs La).length := ⟨_, rfl⟩
  rw [← hnc4] at HSc4 uc4 ⊢
  have HNc4 := Lib.hid hnc4
  clear hnc4
  have hqc4 : nc4 = nx := by rw [HNc4.out, HNx.out]
  rw [hqc4] at HSc4 uc4 ⊢
  clear hqc4 HNc4
  have HNc4 := HNx
  clear ho hb
  go_wp2_with fail
  refine (filter_any ac3 cc3 _ ac4 cc4 _ rs (thru rs La) w8 HNc3.out HNc4.out HSc3.out HSc4.out (by rw [← HNr.out]; omega) HK.out HRX.out).mono ?_
  rintro e w9 ⟨v9, rfl, ho, hb⟩
  rw [thru_twice] at ho
  replace HSr := Lib.hid (HSr.out.below hb)
  replace HSa := Lib.hid (HSa.out.below hb)
  replace HSx := Lib.hid (HSx.out.below hb)
  replace HSc3 := Lib.hid (HSc3.out.below hb)
  replace HSc4 := Lib.hid (HSc4.out.below hb)
  replace HW := Lib.hid (HW.out.trans (hb.mono HW.out.size))
  obtain ⟨ay, cy, rfl⟩ := ho.shape
  rw [List.length_map] at ho ⊢
  have uy := ho.sl.lens.2.1
  have vy := ho.sl.lens.2.2
  have HSy := Lib.hid ho.sl
  obtain ⟨ny, hny⟩ : ∃ n, n = (thru rs La).length := ⟨_, rfl⟩
  rw [← hny] at HSy uy ⊢
  have HNy := Lib.hid hny
  clear hny
  clear ho hb
  clear HSc3
  clear HSc4
  go_wp2_with fail
  refine (same_yes _ _ _ _ _ _ (thru rs La) w9 HNx.out HNy.out HSx.out HSy.out).mono ?_
  rintro e w10 ⟨rfl, hb⟩
  replace HSr := Lib.hid (HSr.out.below hb)
  replace HSa := Lib.hid (HSa.out.below hb)
  replace HSx := Lib.hid (HSx.out.below hb)
  replace HSy := Lib.hid (HSy.out.below hb)
  replace HW := Lib.hid (HW.out.trans (hb.mono HW.out.size))
  clear hb
  obtain ⟨X, hX⟩ : ∃ X : World, X = w10 := ⟨_, rfl⟩
  subst hX
  have hzX := HW.out.size
  have ht0 := thru_len rs La
  go_wp2_with fail
  go_loopw [12, 13] (fun k i wr => ∃ m t : Nat, m ≤ na ∧ i = .int .i64 m ∧ k = .int .i64 t ∧ t ≤ nx ∧ Hid (t = (thru rs (La.take m)).length) ∧ Hid (Below X.heap.size X wr)) (fun _ i _ => na - (intOf i).toNat)
  case atStart => exact ⟨0, 0, Nat.zero_le _, rfl, rfl, Nat.zero_le _, rfl, Below.refl _ _⟩
  case round =>
    obtain ⟨m, t, hm, rfl, rfl, htx, HT, HB⟩ := hrel
    have hzr := HB.out.size
    by_cases hlt : m < na
    · obtain ⟨x, hx⟩ : ∃ x, La[m]? = some x := ⟨_, List.getElem?_eq_getElem (by rw [← HNa.out]; exact hlt)⟩
      obtain ⟨b, off, rfl, hb, d0, d1, d2, d3, d4⟩ := Sl.route HSa.out HB.out hx
      have HTS := Lib.hid (thru_snoc rs hx)
      have HVP := Lib.hid (HRa.out.vp x (List.mem_of_getElem? hx))
      have HXX := Lib.hid hx
      clear hx
      go_wp2_with fail
      refine (passed_n ar cr nr rs x.1 x.2.1 wr HNr.out (HSr.out.below HB.out) (by rw [← HNr.out]; omega) HK.out HVP.out).mono ?_
      rintro e w2 ⟨rfl, hb2⟩
      have HB2 := Lib.hid (HB.out.trans (hb2.mono hzr))
      have hz2 : X.heap.size ≤ w2.heap.size := HB2.out.size
      have e0 := (hb2.cell (p := ⟨b, off + m * 5, none⟩) (by show b < wr.heap.size; omega)).trans d0
      have e1 := (hb2.cell (p := ⟨b, off + m * 5 + 1, none⟩) (by show b < wr.heap.size; omega)).trans d1
      have e2 := (hb2.cell (p := ⟨b, off + m * 5 + 2, none⟩) (by show b < wr.heap.size; omega)).trans d2
      have e3 := (hb2.cell (p := ⟨b, off + m * 5 + 3, none⟩) (by show b < wr.heap.size; omega)).trans d3
      have e4 := (hb2.cell (p := ⟨b, off + m * 5 + 4, none⟩) (by show b < wr.heap.size; omega)).trans d4
      clear hb2 d0 d1 d2 d3 d4
      by_cases hy : passY rs x.1 x.2.1 = true
      · have hat := thru_at rs HXX.out hy
        rw [← HT.out] at hat
        have htl : t < nx := by rw [HNx.out]; exact (List.getElem?_eq_some_iff.1 hat).1
        obtain ⟨g, o, rfl, hg, c0, c1, c2, c3, c4⟩ := Sl.route HSx.out HB2.out hat
        rw [if_pos hy] at HTS
        rw [hy]
        have HT2 := Lib.hid (show t + 1 = (thru rs (La.take (m + 1))).length by rw [HTS.out, List.length_append, ← HT.out]; rfl)
        clear hy hat
        go_wp2_with fail
        go_quiet (fail)
        go_wp2
        go_roundw
        case rel => exact ⟨m + 1, t + 1, by omega, by go_num, by go_num, by omega, HT2, below_drewN HB2.out _⟩
        case measure => simp [intOf]; omega
      · have hy' : passY rs x.1 x.2.1 = false := by simpa using hy
        rw [if_neg hy, List.append_nil] at HTS
        rw [hy']
        have HT2 := Lib.hid (show t = (thru rs (La.take (m + 1))).length by rw [HTS.out, ← HT.out])
        clear hy hy'
        go_wp2_with fail
        go_roundw
        case rel => exact ⟨m + 1, t, by omega, by go_num, rfl, htx, HT2, HB2⟩
        case measure => simp [intOf]; omega
    · obtain rfl : m = na := by omega
      have htn : t = nx := by rw [HT.out, HNx.out, HNa.out, List.take_of_length_le (Nat.le_refl _)]
      subst htn
      go_wp2
      go_returns
      exact ⟨rfl, HW.out.trans (HB.out.mono HW.out.size)⟩
end Go.Proofs.Yteadfobfenopkaa
