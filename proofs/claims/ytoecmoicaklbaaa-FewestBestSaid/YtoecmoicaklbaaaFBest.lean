
/- FewestBest: the walk. -/
import Derived.Test.YtoecmoicaklbaaaFbP
import Derived.Test.YtoecmoicaklbaaaSm2
import Derived.Test.YtoecmoicaklbaaaWt
set_option linter.unusedVariables false
set_option linter.unusedSimpArgs false
namespace Go.Proofs.Ytoecmoicaklbaaa
open Go Go.RowKit Go.Sort Wc Wk

theorem run_rt_take (g off p n c : Nat) (h1 : p ≤ n) (h2 : n ≤ c) (h3 : c ≤ 9223372036854775807) (W : World) : (Instr.slice 43 (.slice (some ⟨g, off, none⟩) n c) none (some (.int .i64 (p : Int))) none).run Try.prog W = .ok (.slice (some ⟨g, off, none⟩) p c) W := by
  have h4 : p ≤ c := by omega
  have h5 : (0 : Int) ≤ p := by omega
  go_simp
theorem run_rt_drop (g off p n c : Nat) (h1 : p ≤ n) (h2 : n ≤ c) (h3 : c ≤ 9223372036854775807) (hne : c ≠ p) (W : World) : (Instr.slice 43 (.slice (some ⟨g, off, none⟩) n c) (some (.int .i64 (p : Int))) none none).run Try.prog W = .ok (.slice (some ⟨g, off + p * 5, none⟩) (n - p) (c - p)) W := by
  have h4 : p ≤ c := by omega
  have h5 : (0 : Int) ≤ p := by omega
  go_simp
theorem run_rt_end (g off p : Nat) (h3 : p ≤ 9223372036854775807) (W : World) : (Instr.slice 43 (.slice (some ⟨g, off, none⟩) p p) (some (.int .i64 (p : Int))) none none).run Try.prog W = .ok (.slice (some ⟨g, off, none⟩) 0 0) W := by
  have h5 : (0 : Int) ≤ p := by omega
  go_simp
/-- The first routes of a list; those behind. -/
theorem rt_take {w : World} {a : Option Addr} {n c : Nat} {xs : List (Nat × Nat × Nat)} (h : Sl w 5 (.slice a n c) (xs.map routeCells)) (p : Nat) (hp : p ≤ n) (h0 : 0 < n) :
    (∀ W : World, (Instr.slice 43 (.slice a n c) none (some (.int .i64 (p : Int))) none).run Try.prog W = .ok (.slice a p c) W) ∧ Sl w 5 (.slice a p c) ((xs.take p).map routeCells) := by
  obtain ⟨hl, hc1, hc2⟩ := h.lens
  rw [List.length_map] at hl
  refine ⟨fun W => ?_, by rw [List.map_take]; exact h.take p (by rw [List.length_map]; omega)⟩
  obtain ⟨x, hx⟩ : ∃ x, xs[0]? = some x := ⟨_, List.getElem?_eq_getElem (by omega)⟩
  obtain ⟨b, off, rfl, _⟩ := Sl.at h (i := 0) (c := routeCells x) (by rw [List.getElem?_map, hx]; rfl)
  exact run_rt_take b off p n c hp hc1 hc2 W
theorem rt_drop {w : World} {a : Option Addr} {n c : Nat} {xs : List (Nat × Nat × Nat)} (h : Sl w 5 (.slice a n c) (xs.map routeCells)) (p : Nat) (hp : p ≤ n) (h0 : 0 < n) :
    ∃ a' c', (∀ W : World, (Instr.slice 43 (.slice a n c) (some (.int .i64 (p : Int))) none none).run Try.prog W = .ok (.slice a' (n - p) c') W) ∧ Sl w 5 (.slice a' (n - p) c') ((xs.drop p).map routeCells) := by
  obtain ⟨hl, hc1, hc2⟩ := h.lens
  rw [List.length_map] at hl
  obtain ⟨x, hx⟩ : ∃ x, xs[0]? = some x := ⟨_, List.getElem?_eq_getElem (by omega)⟩
  obtain ⟨b, off, rfl, _⟩ := Sl.at h (i := 0) (c := routeCells x) (by rw [List.getElem?_map, hx]; rfl)
  rcases h.behind p (by rw [List.length_map]; omega) with ⟨rfl, rfl, hn, hs⟩ | ⟨hne, hs⟩
  · exact ⟨_, _, fun W => by rw [Nat.sub_self]; exact run_rt_end b off _ hc2 W, by rw [Nat.sub_self, List.map_drop]; exact hs⟩
  · exact ⟨_, _, fun W => run_rt_drop b off p n c hp hc1 hc2 hne W, by rw [List.map_drop]; exact hs⟩
theorem LeftOk.stay1 {rs L : List (Nat × Nat × Nat)} {i : Nat} (h : LeftOk rs L i) (hi : 0 < i) : LeftOk rs L (i - 1) := by
  obtain ⟨q, rfl⟩ : ∃ q, i = q + 1 := ⟨i - 1, by omega⟩
  exact h.stay
theorem LeftOk.next1 {rs L : List (Nat × Nat × Nat)} {i : Nat} (h : LeftOk rs L i) (hi : 0 < i) (hr : RtOk rs) (hy : likeB rs (lessL L i) = true) : LeftOk rs (lessL L i) (i - 1) := by
  obtain ⟨q, rfl⟩ : ∃ q, i = q + 1 := ⟨i - 1, by omega⟩
  exact h.next hr hy
set_option maxRecDepth 100000 in
set_option maxHeartbeats 8000000 in
theorem fewestBest_walk (a0 : Option Addr) (len0 cap0 : Nat) (z0 : List RawJ) (hz : Int) (w : World) (h0 : IsJobs w a0 len0 cap0 z0) (hh : -9223372036854775808 ≤ hz ∧ hz ≤ 9223372036854775807) :
    Calls Try.prog 11 #[.slice a0 len0 cap0, .int .i64 hz] w fun e w' => e = .returned (.bool true) ∧ Below w.heap.size w w' := by
  have H0 := Lib.hid h0
  have HH := Lib.hid hh
  have HW := Lib.hid (Below.refl w.heap.size w)
  clear h0 hh
  go_enter Try.func11, Try.ntmps11
  go_wp2_with fail
  refine (whole_any a0 len0 cap0 z0 hz w H0.out HH.out).mono ?_
  rintro e w1 ⟨v1, rfl, ho, hb⟩
  have HRa := Lib.hid (whole_ok z0 (hopOf_lt hz))
  have HEa := Lib.hid (whole_zero z0 (hopOf hz))
  generalize wholeR z0 (hopOf hz) = La at *
  replace H0 := Lib.hid (H0.out.below hb)
  replace HW := Lib.hid (HW.out.trans (hb.mono HW.out.size))
  obtain ⟨aa, ca, rfl⟩ := ho.shape
  rw [List.length_map] at ho ⊢
  have ua := ho.sl.lens.2.1
  have va := ho.sl.lens.2.2
  have HSa := Lib.hid ho.sl
  obtain ⟨na, hna⟩ : ∃ n, n = (La).length := ⟨_, rfl⟩
  rw [← hna] at HSa ua ⊢
  have HNa := Lib.hid hna
  clear hna
  clear ho hb
  have hLa : na ≤ 60 := by rw [HNa.out]; exact HRa.out.len
  have hPa : 0 < na := by rw [HNa.out]; obtain ⟨x, hx, _⟩ := HEa.out; exact List.length_pos_iff.2 (List.ne_nil_of_mem hx)
  clear H0
  go_wp2_with (at_builtin; refine stop_at ?_; intro G hG)
  rw [← hG.out]; clear hG G
  refine wpList_append_any rfl _ _ 43 49 5 40 _ rfl eiRoute _ (.slice none 0 0) [] rfl (Wk.Own.nil _ _ _ _) (.slice aa na ca) ((La).map routeCells) rfl HSa.out (by intro c hc; obtain ⟨r, _, rfl⟩ := List.mem_map.1 hc; exact routeCells_one r) (by have := HNa.out; simp; omega) (by decide) (Nat.le_refl _) ?_
  intro v2 w2 ho hb
  rw [List.nil_append] at ho
  replace HSa := Lib.hid (HSa.out.below hb)
  replace HW := Lib.hid (HW.out.trans (hb.mono HW.out.size))
  obtain ⟨ac1, cc1, rfl⟩ := ho.shape
  rw [List.length_map] at ho ⊢
  have uc1 := ho.sl.lens.2.1
  have vc1 := ho.sl.lens.2.2
  have HSc1 := Lib.hid ho.sl
  obtain ⟨nc1, hnc1⟩ : ∃ n, n = (La).length := ⟨_, rfl⟩
  rw [← hnc1] at HSc1 uc1 ⊢
  have HNc1 := Lib.hid hnc1
  clear hnc1
  have hqc1 : nc1 = na := by rw [HNc1.out, HNa.out]
  rw [hqc1] at HSc1 uc1 ⊢
  clear hqc1 HNc1
  have HNc1 := HNa
  clear ho hb
  go_wp2_with fail
  refine (fewest_ret ac1 cc1 _ La w2 HNc1.out HSc1.out HRa.out HEa.out).mono ?_
  rintro e w3 ⟨v3, ys, rfl, hsr, ho, hb⟩
  have HSR := Lib.hid hsr
  have HRf := Lib.hid (few_ok HRa.out hsr HEa.out)
  have HEf := Lib.hid (few_has0 HRa.out hsr HEa.out)
  have HFP := Lib.hid (few_pos HRa.out hsr HEa.out)
  have HLM := Lib.hid (likeB_mine HRa.out hsr HEa.out)
  clear hsr
  replace HSa := Lib.hid (HSa.out.below hb)
  replace HSc1 := Lib.hid (HSc1.out.below hb)
  replace HW := Lib.hid (HW.out.trans (hb.mono HW.out.size))
  obtain ⟨af, cf, rfl⟩ := ho.shape
  rw [List.length_map] at ho ⊢
  have uf := ho.sl.lens.2.1
  have vf := ho.sl.lens.2.2
  have HSf := Lib.hid ho.sl
  obtain ⟨nf, hnf⟩ : ∃ n, n = (fewL ys).length := ⟨_, rfl⟩
  rw [← hnf] at HSf uf ⊢
  have HNf := Lib.hid hnf
  clear hnf
  clear ho hb
  have hLf : nf ≤ 60 := by rw [HNf.out]; exact HRf.out.len
  have hPf : 0 < nf := by rw [HNf.out]; exact HFP.out
  clear HSc1
  go_wp2_with (at_builtin; refine stop_at ?_; intro G hG)
  rw [← hG.out]; clear hG G
  refine wpList_append_any rfl _ _ 43 49 5 40 _ rfl eiRoute _ (.slice none 0 0) [] rfl (Wk.Own.nil _ _ _ _) (.slice aa na ca) ((La).map routeCells) rfl HSa.out (by intro c hc; obtain ⟨r, _, rfl⟩ := List.mem_map.1 hc; exact routeCells_one r) (by have := HNa.out; simp; omega) (by decide) (Nat.le_refl _) ?_
  intro v4 w4 ho hb
  rw [List.nil_append] at ho
  replace HSa := Lib.hid (HSa.out.below hb)
  replace HSf := Lib.hid (HSf.out.below hb)
  replace HW := Lib.hid (HW.out.trans (hb.mono HW.out.size))
  obtain ⟨ac2, cc2, rfl⟩ := ho.shape
  rw [List.length_map] at ho ⊢
  have uc2 := ho.sl.lens.2.1
  have vc2 := ho.sl.lens.2.2
  have HSc2 := Lib.hid ho.sl
  obtain ⟨nc2, hnc2⟩ : ∃ n, n = (La).length := ⟨_, rfl⟩
  rw [← hnc2] at HSc2 uc2 ⊢
  have HNc2 := Lib.hid hnc2
  clear hnc2
  have hqc2 : nc2 = na := by rw [HNc2.out, HNa.out]
  rw [hqc2] at HSc2 uc2 ⊢
  clear hqc2 HNc2
  have HNc2 := HNa
  clear ho hb
  go_wp2_with (at_builtin; refine stop_at ?_; intro G hG)
  rw [← hG.out]; clear hG G
  refine wpList_append_any rfl _ _ 43 49 5 40 _ rfl eiRoute _ (.slice none 0 0) [] rfl (Wk.Own.nil _ _ _ _) (.slice af nf cf) ((fewL ys).map routeCells) rfl HSf.out (by intro c hc; obtain ⟨r, _, rfl⟩ := List.mem_map.1 hc; exact routeCells_one r) (by have := HNf.out; simp; omega) (by decide) (Nat.le_refl _) ?_
  intro v5 w5 ho hb
  rw [List.nil_append] at ho
  replace HSa := Lib.hid (HSa.out.below hb)
  replace HSf := Lib.hid (HSf.out.below hb)
  replace HSc2 := Lib.hid (HSc2.out.below hb)
  replace HW := Lib.hid (HW.out.trans (hb.mono HW.out.size))
  obtain ⟨ac3, cc3, rfl⟩ := ho.shape
  rw [List.length_map] at ho ⊢
  have uc3 := ho.sl.lens.2.1
  have vc3 := ho.sl.lens.2.2
  have HSc3 := Lib.hid ho.sl
  obtain ⟨nc3, hnc3⟩ : ∃ n, n = (fewL ys).length := ⟨_, rfl⟩
  rw [← hnc3] at HSc3 uc3 ⊢
  have HNc3 := Lib.hid hnc3
  clear hnc3
  have hqc3 : nc3 = nf := by rw [HNc3.out, HNf.out]
  rw [hqc3] at HSc3 uc3 ⊢
  clear hqc3 HNc3
  have HNc3 := HNf
  clear ho hb
  go_wp2_with fail
  refine (fsame_any ac2 ac3 cc2 cc3 _ _ La (fewL ys) w5 HNc2.out HNc3.out HSc2.out HSc3.out HRa.out HRf.out hPa).mono ?_
  rintro e w6 ⟨rfl, hb⟩
  rw [HLM.out]
  replace HSa := Lib.hid (HSa.out.below hb)
  replace HSf := Lib.hid (HSf.out.below hb)
  replace HSc2 := Lib.hid (HSc2.out.below hb)
  replace HSc3 := Lib.hid (HSc3.out.below hb)
  replace HW := Lib.hid (HW.out.trans (hb.mono HW.out.size))
  clear hb
  clear HSc2
  clear HSc3
  go_wp2_with (at_builtin; refine stop_at ?_; intro G hG)
  rw [← hG.out]; clear hG G
  refine wpList_append_any rfl _ _ 43 49 5 40 _ rfl eiRoute _ (.slice none 0 0) [] rfl (Wk.Own.nil _ _ _ _) (.slice af nf cf) ((fewL ys).map routeCells) rfl HSf.out (by intro c hc; obtain ⟨r, _, rfl⟩ := List.mem_map.1 hc; exact routeCells_one r) (by have := HNf.out; simp; omega) (by decide) (Nat.le_refl _) ?_
  intro v7 w7 ho hb
  rw [List.nil_append] at ho
  replace HSa := Lib.hid (HSa.out.below hb)
  replace HSf := Lib.hid (HSf.out.below hb)
  replace HW := Lib.hid (HW.out.trans (hb.mono HW.out.size))
  obtain ⟨ac4, cc4, rfl⟩ := ho.shape
  rw [List.length_map] at ho ⊢
  have uc4 := ho.sl.lens.2.1
  have vc4 := ho.sl.lens.2.2
  have HSc4 := Lib.hid ho.sl
  obtain ⟨nc4, hnc4⟩ : ∃ n, n = (fewL ys).length := ⟨_, rfl⟩
  rw [← hnc4] at HSc4 uc4 ⊢
  have HNc4 := Lib.hid hnc4
  clear hnc4
  have hqc4 : nc4 = nf := by rw [HNc4.out, HNf.out]
  rw [hqc4] at HSc4 uc4 ⊢
  clear hqc4 HNc4
  have HNc4 := HNf
  clear ho hb
  go_wp2_with fail
  refine (fewest_ret ac4 cc4 _ (fewL ys) w7 HNc4.out HSc4.out HRf.out HEf.out).mono ?_
  rintro e w8 ⟨v8, zs, rfl, hsz, ho, hb⟩
  have HAG := Lib.hid (few_again HRa.out HSR.out HEa.out hsz)
  clear hsz
  replace HSa := Lib.hid (HSa.out.below hb)
  replace HSf := Lib.hid (HSf.out.below hb)
  replace HSc4 := Lib.hid (HSc4.out.below hb)
  replace HW := Lib.hid (HW.out.trans (hb.mono HW.out.size))
  obtain ⟨ag, cg, rfl⟩ := ho.shape
  rw [List.length_map] at ho ⊢
  have ug := ho.sl.lens.2.1
  have vg := ho.sl.lens.2.2
  have HSg := Lib.hid ho.sl
  obtain ⟨ng, hng⟩ : ∃ n, n = (fewL zs).length := ⟨_, rfl⟩
  rw [← hng] at HSg ug ⊢
  have HNg := Lib.hid hng
  clear hng
  clear ho hb
  have HGF : Hid (nf = ng) := Lib.hid (by rw [HNg.out, HNf.out, HAG.out])
  clear HSc4
  clear HSg
  have hgf := HGF.out
  subst hgf
  clear HNg HAG HGF
  go_wp2_with (at_builtin; refine stop_at ?_; intro G hG)
  rw [← hG.out]; clear hG G
  refine wpList_append_any rfl _ _ 43 49 5 40 _ rfl eiRoute _ (.slice none 0 0) [] rfl (Wk.Own.nil _ _ _ _) (.slice aa na ca) ((La).map routeCells) rfl HSa.out (by intro c hc; obtain ⟨r, _, rfl⟩ := List.mem_map.1 hc; exact routeCells_one r) (by have := HNa.out; simp; omega) (by decide) (Nat.le_refl _) ?_
  intro v9 w9 ho hb
  rw [List.nil_append] at ho
  replace HSa := Lib.hid (HSa.out.below hb)
  replace HSf := Lib.hid (HSf.out.below hb)
  replace HW := Lib.hid (HW.out.trans (hb.mono HW.out.size))
  obtain ⟨al, cl, rfl⟩ := ho.shape
  rw [List.length_map] at ho ⊢
  have ul := ho.sl.lens.2.1
  have vl := ho.sl.lens.2.2
  have HSl := Lib.hid ho.sl
  obtain ⟨nl, hnl⟩ : ∃ n, n = (La).length := ⟨_, rfl⟩
  rw [← hnl] at HSl ul ⊢
  have HNl := Lib.hid hnl
  clear hnl
  have hql : nl = na := by rw [HNl.out, HNa.out]
  rw [hql] at HSl ul ⊢
  clear hql HNl
  have HNl := HNa
  clear ho hb
  have HST := Lib.hid (LeftOk.start HRa.out (by rw [← HNa.out]; exact hPa))
  rw [← HNa.out] at HST
  have hnl : 1 ≤ na := hPa
  have hf1 : ¬ ((nf : Int) < 1) := by omega
  have ew1 : IntKind.i64.wrap ((na : Int) - 1) = ((na - 1 : Nat) : Int) := by rw [IntKind.wrap_i64]; omega
  clear HSf
  go_wp2_with fail
  go_loopw [13, 14] (fun vl vi wr => ∃ k : Nat, vi = .int .i64 k ∧ k ≤ 60 ∧ (∃ (al : Option Addr) (cl nl : Nat) (LL : List (Nat × Nat × Nat)), vl = .slice al nl cl ∧ nl ≤ 60 ∧ k < nl ∧ Hid (nl = LL.length) ∧ Hid (LeftOk La LL k) ∧ Hid (Sl wr 5 (.slice al nl cl) (LL.map routeCells))) ∧ Hid (Below w9.heap.size w9 wr)) (fun _ i _ => (intOf i).toNat)
  case atStart => exact ⟨na - 1, by rw [← ew1], by omega, ⟨al, cl, na, La, rfl, hLa, by omega, HNa, HST, HSl⟩, Below.refl _ _⟩
  case round =>
    obtain ⟨k, rfl, hk60, ⟨al, cl, nl, LL, rfl, hnl60, hkl, HNL, HLO, HSL⟩, HB⟩ := hrel
    have hzr := HB.out.size
    by_cases hk : 0 < k
    · have hki : (0 : Int) < k := by omega
      obtain ⟨HTK0, hs1⟩ := rt_take HSL.out k (by omega) (by omega)
      obtain ⟨ae, ce, HDR0, hs2⟩ := rt_drop HSL.out (k + 1) (by omega) (by omega)
      rw [show ((k + 1 : Nat) : Int) = (k : Int) + 1 by omega] at HDR0
      have HS1 := Lib.hid hs1
      have HS2 := Lib.hid hs2
      have HL1 := Lib.hid (show k = (LL.take k).length by rw [List.length_take, ← HNL.out]; omega)
      have HL2 := Lib.hid (show nl - (k + 1) = (LL.drop (k + 1)).length by rw [List.length_drop, ← HNL.out])
      have HLL := Lib.hid (show lessL LL k = LL.take k ++ LL.drop (k + 1) from rfl)
      have HRL := Lib.hid (less_ok HLO.out.ok k)
      have HLN := Lib.hid (less_len HLO.out.pos)
      have HNX := Lib.hid (fun h => HLO.out.next1 hk HRa.out h)
      have HST1 := Lib.hid (HLO.out.stay1 hk)
      generalize lessL LL k = LX at *
      generalize LL.take k = D1 at *
      generalize LL.drop (k + 1) = D2 at *
      generalize hq2 : nl - (k + 1) = q2 at *
      have hq25 : q2 + k ≤ 60 := by omega
      clear hq2 hs1 hs2 hk
      go_upto_region 11 with fail
      go_cut [15] (fun vl wx => ∃ (ax : Option Addr) (cx nx : Nat), vl = .slice ax nx cx ∧ nx + 1 = nl ∧ Hid (nx = LX.length) ∧ Hid (Sl wx 5 (.slice ax nx cx) (LX.map routeCells)) ∧ Hid (Below wr.heap.size wr wx))
      case first =>
        have ew2 : IntKind.i64.wrap ((k : Int) + 1) = (k : Int) + 1 := IntWalk.i64_in _ (by omega)
        have hzw : wr.heap.size ≤ wr.heap.size := Nat.le_refl _
        refine wp_region_held_drew (S := (fun w' => Below wr.heap.size wr w')) (by kernel_rfl) ?_ (fun hHeld => ?_)
        · ((try dsimp only); (repeat' (first | (with_reducible exact Below.refl _ _) | (with_reducible assumption) | (with_reducible refine Below.alloc ?_ ?_ _) | (with_reducible refine Below.drew ?_) | (with_reducible refine Below.stepG ?_ (by assumption) ?_) | (with_reducible refine Below.setCell ?_ ?_ _) | omega | (dsimp only; omega) | (simp; done) | (simp; omega))))
        (refine wpAnyH_take (i := 0) (oi := _) (v := ?_) (by simp only [List.getElem?_toArray, List.getElem?_cons_zero, List.getElem?_cons_succ]; rfl) (by kernel_rfl) (by decide +kernel) (by decide +kernel) (by exact fun _ _ _ h => h) (Or.inl ⟨by rfl, ?_⟩) (by assumption) ?_; rotate_left; (· ((intro w hSw); (have hSc := Below.cellAt hSw); clear hSw; go_simp; (try with_reducible rfl))); (try simp only [Act.put, List.setIfInBounds_toArray, List.set_cons_zero, List.set_cons_succ]))
        (refine wpAnyH_take (i := 1) (oi := _) (v := ?_) (by simp only [List.getElem?_toArray, List.getElem?_cons_zero, List.getElem?_cons_succ]; rfl) (by kernel_rfl) (by decide +kernel) (by decide +kernel) (by exact fun _ _ _ h => h) (Or.inl ⟨by rfl, ?_⟩) (by assumption) ?_; rotate_left; (· ((intro w hSw); (have hSc := Below.cellAt hSw); clear hSw; go_simp; (try with_reducible rfl))); (try simp only [Act.put, List.setIfInBounds_toArray, List.set_cons_zero, List.set_cons_succ]))
        (refine wpAnyH_take (i := 2) (oi := _) (v := ?_) (by simp only [List.getElem?_toArray, List.getElem?_cons_zero, List.getElem?_cons_succ]; rfl) (by kernel_rfl) (by decide +kernel) (by decide +kernel) (by exact fun _ _ _ h => h) (Or.inl ⟨by rfl, ?_⟩) (by assumption) ?_; rotate_left; (· ((intro w hSw); (have hSc := Below.cellAt hSw); clear hSw; go_simp; (try with_reducible rfl))); (try simp only [Act.put, List.setIfInBounds_toArray, List.set_cons_zero, List.set_cons_succ]))
        (refine wpAnyH_take (i := 4) (oi := _) (v := ?_) (by simp only [List.getElem?_toArray, List.getElem?_cons_zero, List.getElem?_cons_succ]; rfl) (by kernel_rfl) (by decide +kernel) (by decide +kernel) (by exact fun _ _ _ h => h) (Or.inl ⟨by rfl, ?_⟩) (by assumption) ?_; rotate_left; (· ((intro w hSw); (have hSc := Below.cellAt hSw); clear hSw; go_simp; (try with_reducible rfl))); (try simp only [Act.put, List.setIfInBounds_toArray, List.set_cons_zero, List.set_cons_succ]))
        (refine wpAnyH_take (i := 5) (oi := _) (v := ?_) (by simp only [List.getElem?_toArray, List.getElem?_cons_zero, List.getElem?_cons_succ]; rfl) (by kernel_rfl) (by decide +kernel) (by decide +kernel) (by exact fun _ _ _ h => h) (Or.inl ⟨by rfl, ?_⟩) (by assumption) ?_; rotate_left; (· ((intro w hSw); (have hSc := Below.cellAt hSw); clear hSw; go_simp; (try with_reducible rfl))); (try simp only [Act.put, List.setIfInBounds_toArray, List.set_cons_zero, List.set_cons_succ]))
        (refine wpAnyH_take (i := 6) (oi := _) (v := ?_) (by simp only [List.getElem?_toArray, List.getElem?_cons_zero, List.getElem?_cons_succ]; rfl) (by kernel_rfl) (by decide +kernel) (by decide +kernel) (by exact fun _ _ _ h => h) (Or.inl ⟨by rfl, ?_⟩) (by assumption) ?_; rotate_left; (· ((intro w hSw); (have hSc := Below.cellAt hSw); clear hSw; go_simp; (try with_reducible rfl))); (try simp only [Act.put, List.setIfInBounds_toArray, List.set_cons_zero, List.set_cons_succ]))
        (refine wpAnyH_take (i := 7) (oi := _) (v := ?_) (by simp only [List.getElem?_toArray, List.getElem?_cons_zero, List.getElem?_cons_succ]; rfl) (by kernel_rfl) (by decide +kernel) (by decide +kernel) (by exact fun _ _ _ h => h) (Or.inl ⟨by rfl, ?_⟩) (by assumption) ?_; rotate_left; (· ((intro w hSw); (have hSc := Below.cellAt hSw); clear hSw; go_simp; (try with_reducible rfl))); (try simp only [Act.put, List.setIfInBounds_toArray, List.set_cons_zero, List.set_cons_succ]))
        repeat' (first
          | (refine wpAnyH_take (i := 9) (oi := _) (v := ?_) (by simp only [List.getElem?_toArray, List.getElem?_cons_zero, List.getElem?_cons_succ]; rfl) (by kernel_rfl) (by decide +kernel) (by decide +kernel) (by exact fun _ _ _ h => h) (Or.inl ⟨by rfl, ?_⟩) (by assumption) ?_; rotate_left; (· ((intro w hSw); (have hSc := Below.cellAt hSw); clear hSw; go_simp; (try with_reducible rfl))); (try simp only [Act.put, List.setIfInBounds_toArray, List.set_cons_zero, List.set_cons_succ]))
          | (refine wpAnyH_ready (rs := [3]) (by decide +kernel) (by simp) (AllReadyH.cons (by simp only [List.getElem?_toArray, List.getElem?_cons_zero, List.getElem?_cons_succ]; rfl) (fun K hK => ?_) AllReadyH.nil); all_goals ((first | (refine step_append_any rfl (.const (.slice none 0 0)) (.tmp 85) 43 49 5 40 _ rfl eiRoute _ (.slice none 0 0) [] rfl (Wk.Own.nil _ _ _ _) (.slice al k cl) (D1.map routeCells) rfl (HS1.out.below (by (repeat' (first | (with_reducible exact Below.refl _ _) | (with_reducible assumption) | (with_reducible refine Below.alloc ?_ ?_ _) | (with_reducible refine Below.drew ?_) | (with_reducible refine Below.stepG ?_ (by assumption) ?_) | (with_reducible refine Below.setCell ?_ ?_ _) | omega | (dsimp only; omega) | (simp; done) | (simp; omega))))) (by intro c hc; obtain ⟨r, _, rfl⟩ := List.mem_map.1 hc; exact routeCells_one r) (by have := HL1.out; simp; omega) (by decide) (Nat.le_refl _) ?_; intro vA wA hownA hbA; have hsA := hbA.size; (try simp at hsA)) | (refine step_append_any rfl (.tmp 86) (.tmp 90) 43 49 5 40 _ rfl eiRoute _ vA ([] ++ D1.map routeCells) rfl (hownA.below (by (repeat' (first | (with_reducible exact Below.refl _ _) | (with_reducible assumption) | (with_reducible refine Below.alloc ?_ ?_ _) | (with_reducible refine Below.drew ?_) | (with_reducible refine Below.stepG ?_ (by assumption) ?_) | (with_reducible refine Below.setCell ?_ ?_ _) | omega | (dsimp only; omega) | (simp; done) | (simp; omega))))) (.slice ae q2 ce) (D2.map routeCells) rfl (HS2.out.below (by (repeat' (first | (with_reducible exact Below.refl _ _) | (with_reducible assumption) | (with_reducible refine Below.alloc ?_ ?_ _) | (with_reducible refine Below.drew ?_) | (with_reducible refine Below.stepG ?_ (by assumption) ?_) | (with_reducible refine Below.setCell ?_ ?_ _) | omega | (dsimp only; omega) | (simp; done) | (simp; omega))))) (by intro c hc; obtain ⟨r, _, rfl⟩ := List.mem_map.1 hc; exact routeCells_one r) (by have := HL1.out; have := HL2.out; simp; omega) (by decide) (by first | omega | (simp; omega)) ?_; intro vB wB hownB hbB; have hsB := hbB.size; (try simp at hsB)) | (go_simp; (first | fail | skip))); (refine hK.out _ _ ?_ (fun hHeld => ?_)); (· ((try dsimp only); (repeat' (first | (with_reducible exact Below.refl _ _) | (with_reducible assumption) | (with_reducible refine Below.alloc ?_ ?_ _) | (with_reducible refine Below.drew ?_) | (with_reducible refine Below.stepG ?_ (by assumption) ?_) | (with_reducible refine Below.setCell ?_ ?_ _) | omega | (dsimp only; omega) | (simp; done) | (simp; omega))))); (clear hK K; (try simp only [Act.put, List.setIfInBounds_toArray, List.set_cons_zero, List.set_cons_succ]))))
          | (refine wpAnyH_ready (rs := [8]) (by decide +kernel) (by simp) (AllReadyH.cons (by simp only [List.getElem?_toArray, List.getElem?_cons_zero, List.getElem?_cons_succ]; rfl) (fun K hK => ?_) AllReadyH.nil); all_goals ((first | (refine step_append_any rfl (.const (.slice none 0 0)) (.tmp 85) 43 49 5 40 _ rfl eiRoute _ (.slice none 0 0) [] rfl (Wk.Own.nil _ _ _ _) (.slice al k cl) (D1.map routeCells) rfl (HS1.out.below (by (repeat' (first | (with_reducible exact Below.refl _ _) | (with_reducible assumption) | (with_reducible refine Below.alloc ?_ ?_ _) | (with_reducible refine Below.drew ?_) | (with_reducible refine Below.stepG ?_ (by assumption) ?_) | (with_reducible refine Below.setCell ?_ ?_ _) | omega | (dsimp only; omega) | (simp; done) | (simp; omega))))) (by intro c hc; obtain ⟨r, _, rfl⟩ := List.mem_map.1 hc; exact routeCells_one r) (by have := HL1.out; simp; omega) (by decide) (Nat.le_refl _) ?_; intro vA wA hownA hbA; have hsA := hbA.size; (try simp at hsA)) | (refine step_append_any rfl (.tmp 86) (.tmp 90) 43 49 5 40 _ rfl eiRoute _ vA ([] ++ D1.map routeCells) rfl (hownA.below (by (repeat' (first | (with_reducible exact Below.refl _ _) | (with_reducible assumption) | (with_reducible refine Below.alloc ?_ ?_ _) | (with_reducible refine Below.drew ?_) | (with_reducible refine Below.stepG ?_ (by assumption) ?_) | (with_reducible refine Below.setCell ?_ ?_ _) | omega | (dsimp only; omega) | (simp; done) | (simp; omega))))) (.slice ae q2 ce) (D2.map routeCells) rfl (HS2.out.below (by (repeat' (first | (with_reducible exact Below.refl _ _) | (with_reducible assumption) | (with_reducible refine Below.alloc ?_ ?_ _) | (with_reducible refine Below.drew ?_) | (with_reducible refine Below.stepG ?_ (by assumption) ?_) | (with_reducible refine Below.setCell ?_ ?_ _) | omega | (dsimp only; omega) | (simp; done) | (simp; omega))))) (by intro c hc; obtain ⟨r, _, rfl⟩ := List.mem_map.1 hc; exact routeCells_one r) (by have := HL1.out; have := HL2.out; simp; omega) (by decide) (by first | omega | (simp; omega)) ?_; intro vB wB hownB hbB; have hsB := hbB.size; (try simp at hsB)) | (go_simp; (first | fail | skip))); (refine hK.out _ _ ?_ (fun hHeld => ?_)); (· ((try dsimp only); (repeat' (first | (with_reducible exact Below.refl _ _) | (with_reducible assumption) | (with_reducible refine Below.alloc ?_ ?_ _) | (with_reducible refine Below.drew ?_) | (with_reducible refine Below.stepG ?_ (by assumption) ?_) | (with_reducible refine Below.setCell ?_ ?_ _) | omega | (dsimp only; omega) | (simp; done) | (simp; omega))))); (clear hK K; (try simp only [Act.put, List.setIfInBounds_toArray, List.set_cons_zero, List.set_cons_succ]))))
          | (refine wpAnyH_done (by decide +kernel) ?_ _)
          | fail)
        all_goals go_wp2_with fail
        all_goals go_meet
        all_goals
          have hfin := hownB.sl
          rw [List.nil_append, ← List.map_append, ← HLL.out] at hfin
          obtain ⟨aB, cB, hsh⟩ := hownB.shape
          rw [List.nil_append, ← List.map_append, ← HLL.out, List.length_map] at hsh
          subst hsh
          exact ⟨aB, cB, _, rfl, by have := HLN.out; have := HNL.out; omega, Lib.hid rfl, Lib.hid hfin, Lib.hid (by (repeat' (first | (with_reducible exact Below.refl _ _) | (with_reducible assumption) | (with_reducible refine Below.alloc ?_ ?_ _) | (with_reducible refine Below.drew ?_) | (with_reducible refine Below.stepG ?_ (by assumption) ?_) | (with_reducible refine Below.setCell ?_ ?_ _) | omega | (dsimp only; omega) | (simp; done) | (simp; omega))))⟩
      case rest =>
        obtain ⟨ax, cx, nx, rfl, hnx, HNXL, HSX, HBX⟩ := hcut
        have HBc := Lib.hid (HB.out.trans (HBX.out.mono hzr))
        have HSLc := Lib.hid (HSL.out.below HBX.out)
        have HSac := Lib.hid (HSa.out.below HBc.out)
        have hzc := HBc.out.size
        clear HTK0 HDR0 HS1 HS2 HL1 HL2 HLL HLN HB HSL HBX hzr
        go_wp2_with fail
        refine (fsame_any aa ax ca cx na nx La LX wc HNa.out HNXL.out HSac.out HSX.out HRa.out HRL.out hPa).mono ?_
        rintro e w9 ⟨rfl, hb9⟩
        have HB9 := Lib.hid (HBc.out.trans (hb9.mono hzc))
        have HSL9 := Lib.hid (HSLc.out.below hb9)
        have HSX9 := Lib.hid (HSX.out.below hb9)
        clear hb9 HBc HSLc HSX HSac hzc
        have ew3 : IntKind.i64.wrap ((k : Int) - 1) = ((k - 1 : Nat) : Int) := by rw [IntKind.wrap_i64]; omega
        cases hlk : likeB La LX with
        | true =>
          have HN9 := Lib.hid (HNX.out hlk)
          clear hlk HNX HST1
          go_wp2_with fail
          go_roundw
          case rel => exact ⟨k - 1, by rw [← ew3], by omega, ⟨ax, cx, nx, LX, rfl, by omega, by omega, HNXL, HN9, HSX9⟩, HB9⟩
          case measure => rw [← ew3]; simp [intOf]; omega
        | false =>
          clear hlk HNX
          go_wp2_with fail
          go_roundw
          case rel => exact ⟨k - 1, by rw [← ew3], by omega, ⟨al, cl, nl, LL, rfl, by omega, by omega, HNL, HST1, HSL9⟩, HB9⟩
          case measure => rw [← ew3]; simp [intOf]; omega
    · obtain rfl : k = 0 := by omega
      have hle : nf ≤ nl := by rw [HNf.out, HNL.out]; exact HLO.out.least HRa.out HSR.out
      have hlei : (nf : Int) ≤ nl := by omega
      have HF := Lib.hid (HW.out.trans (HB.out.mono HW.out.size))
      clear HB HSL HLO HW
      go_wp2_with fail
      go_returns
      exact ⟨by simp, HF.out⟩
end Go.Proofs.Ytoecmoicaklbaaa
