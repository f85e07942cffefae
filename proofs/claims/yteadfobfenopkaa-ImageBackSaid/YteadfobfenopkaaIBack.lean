
/- ImageBack: the walk. -/
import Derived.Test.YteadfobfenopkaaIm7
set_option linter.unusedVariables false
set_option linter.unusedSimpArgs false
namespace Go.Proofs.Yteadfobfenopkaa
open Go Go.RowKit Go.Sort Wc Wk


set_option maxRecDepth 100000 in
set_option maxHeartbeats 8000000 in
theorem imageBack_walk (a0 : Option Addr) (len0 cap0 : Nat) (z0 : List RawJ) (tn : Int) (bz : Int) (w : World) (h0 : IsJobs w a0 len0 cap0 z0) (hk : -9223372036854775808 ≤ tn ∧ tn ≤ 9223372036854775807) (hbz : 0 ≤ bz ∧ bz ≤ 255) :
    Calls Try.prog 11 #[.slice a0 len0 cap0, .int .i64 tn, .int .u8 bz] w fun e w' => e = .returned (.bool true) ∧ Below w.heap.size w w' := by
  obtain ⟨by_, rfl⟩ := Int.eq_ofNat_of_zero_le hbz.1
  have hby : by_ < 256 := by omega
  have H0 := Lib.hid h0
  clear h0 hbz
  go_enter Try.func11, Try.ntmps11
  go_wp2_with fail
  refine (acts_any a0 len0 cap0 z0 60 w H0.out (by decide)).mono ?_
  rintro e w1 ⟨v1, rfl, ho1, hb1⟩
  have HFT := Lib.hid (fun x (hx : x ∈ actsOf z0 60) => actsOf_fit x hx)
  have hn : (actsOf z0 60).length ≤ 60 := actsOf_len z0 60
  generalize actsOf z0 60 = al at *
  obtain ⟨va, vc, rfl⟩ := ho1.shape
  rw [List.length_map] at ho1 ⊢
  have HS1 := Lib.hid ho1.sl
  have HW := Lib.hid hb1
  clear ho1 hb1 H0
  go_wp2_with fail
  refine (routesOf_any va vc al.length al w1 rfl HS1.out (by omega) HFT.out).mono ?_
  rintro e w3 ⟨v3, rfl, ho3, hb3⟩
  have HT := Lib.hid (tend_ok TabOk.nil HFT.out)
  generalize tend [] al = L at *
  obtain ⟨ra, rc, rfl⟩ := ho3.shape
  rw [List.length_map] at ho3 ⊢
  have HR := Lib.hid ho3.sl
  have u3 := ho3.sl.lens.2.1
  have v3 := ho3.sl.lens.2.2
  replace HW := Lib.hid (HW.out.trans (hb3.mono HW.out.size))
  have h60 := HT.out.len
  clear ho3 hb3 HS1 HFT hn
  go_wp2_with (at_builtin; refine stop_at ?_; intro G hG)
  rw [← hG.out]; clear hG G
  refine wpList_append_any rfl _ _ 41 53 5 40 _ rfl eiRoute _ (.slice none 0 0) [] rfl (Wk.Own.nil _ _ _ _) (.slice ra L.length rc) (L.map routeCells) rfl HR.out (by intro c hc; obtain ⟨r, _, rfl⟩ := List.mem_map.1 hc; exact routeCells_one r) (by simp; omega) (by decide) (Nat.le_refl _) ?_
  intro v4 w4 ho4 hb4
  rw [List.nil_append] at ho4
  obtain ⟨a4, c4, rfl⟩ := ho4.shape
  rw [List.length_map] at ho4 ⊢
  have HC := Lib.hid ho4.sl
  replace HR := Lib.hid (HR.out.below hb4)
  replace HW := Lib.hid (HW.out.trans (hb4.mono HW.out.size))
  clear ho4 hb4
  go_wp2_with fail
  refine (iSave_any a4 c4 L.length L w4 rfl HC.out (RtOk.of_tab HT.out) (by rw [putAll_srt HT.out]; exact HT.out)).mono ?_
  rintro e w5 ⟨v5, rfl, ho5, hb5⟩
  rw [putAll_srt HT.out] at ho5
  obtain ⟨a5, c5, rfl⟩ := ho5.shape
  rw [List.length_map] at ho5 ⊢
  replace HR := Lib.hid (HR.out.below hb5)
  replace HW := Lib.hid (HW.out.trans (hb5.mono HW.out.size))
  have u5 := ho5.sl.lens.2.1
  have v5 := ho5.sl.lens.2.2
  have hb8 := bodyB_le (L := L) (fun y hy => (HT.out.vp y hy).2.1)
  have hsl := saveB_len L
  have HLT := Lib.hid (saveB_lt HT.out)
  have HFH := Lib.hid (hyp_full L)
  have HFS := Lib.hid (full_sum L)
  have HCUT := Lib.hid (fun k (hk : k < (saveB L).length) h8 => hyp_cut L hk h8)
  have HCHG := Lib.hid (fun (k o y : Nat) (h : (saveB L)[k]? = some o) (hy : y < 256) (hne : y ≠ o) => changed_sum HT.out h hy hne)
  obtain ⟨S, hS⟩ : ∃ S, S = saveB L := ⟨_, rfl⟩
  have HSE := Lib.hid hS
  rw [← hS] at ho5 hsl HLT HFH HFS HCUT HCHG u5 ⊢
  have HO5 := Lib.hid ho5
  have hS8 : 8 ≤ S.length := by omega
  have hS500 : S.length ≤ 500 := by omega
  clear ho5 hb5 hsl hS hb8 HC
  obtain ⟨N, hN⟩ : ∃ N, N = S.length := ⟨_, rfl⟩
  rw [← hN] at HO5 u5 hS8 hS500 ⊢
  have HN := Lib.hid hN
  clear hN
  go_wp2_with (at_builtin; refine stop_at ?_; intro G hG)
  rw [← hG.out]; clear hG G
  refine wpList_append_any rfl _ _ 64 5 1 1 _ rfl eiByte _ (.slice none 0 0) [] rfl (Wk.Own.nil _ _ _ _) (.slice a5 N c5) (S.map byteCells) rfl HO5.out.sl (by intro c hc; obtain ⟨r, _, rfl⟩ := List.mem_map.1 hc; exact byteCells_one r) (by have := HN.out; simp; omega) (by decide) (Nat.le_refl _) ?_
  intro v6 w6 ho6 hb6
  rw [List.nil_append] at ho6
  obtain ⟨a6, c6, rfl⟩ := ho6.shape
  rw [List.length_map, ← HN.out] at ho6 ⊢
  have HS6 := Lib.hid ho6.sl
  replace HR := Lib.hid (HR.out.below hb6)
  replace HO5 := Lib.hid (HO5.out.below hb6)
  replace HW := Lib.hid (HW.out.trans (hb6.mono HW.out.size))
  clear ho6 hb6
  go_wp2_with fail
  refine (load_any a6 c6 N S L w6 HN.out HS6.out HLT.out (by omega) HT.out (fun _ _ => by
    obtain ⟨J, h1, h2, _⟩ := HFH.out
    exact ⟨J, h1, h2, fun _ => HSE.out⟩)).mono ?_
  rintro e w7 ⟨v7, code, rfl, hb7, hret⟩
  replace hret : code = 0 ∧ Wk.Own w7 w6.heap.size 53 5 v7 (L.map routeCells) := by
    rcases hret with ⟨_, h | h | h⟩ | ⟨_, h1, h2⟩
    · have := HN.out; omega
    · exact absurd HFS.out h.2.1
    · exact absurd HSE.out h.2.2.1
    · exact ⟨h1, h2⟩
  obtain ⟨rfl, ho7⟩ := hret
  obtain ⟨a7, c7, rfl⟩ := ho7.shape
  rw [List.length_map] at ho7 ⊢
  have HS7 := Lib.hid ho7.sl
  replace HR := Lib.hid (HR.out.below hb7)
  replace HO5 := Lib.hid (HO5.out.below hb7)
  replace HW := Lib.hid (HW.out.trans (hb7.mono HW.out.size))
  have SY := Lib.hid (same_yes a7 ra c7 rc L.length L.length L w7 rfl rfl HS7.out HR.out)
  have u7 := ho7.sl.lens.2.1
  have v7 := ho7.sl.lens.2.2
  clear ho7 hb7 HS6 HFH
  have PK := Lib.hid (fun w => picked_any tn N w (by omega) (by omega))
  have t0 := Int.emod_nonneg tn (show (N : Int) ≠ 0 by omega)
  have t1 := Int.emod_lt_of_pos tn (show (0 : Int) < (N : Int) by omega)
  obtain ⟨k, hk0⟩ := Int.eq_ofNat_of_zero_le t0
  rw [hk0] at PK t1
  have hkN : k < N := by omega
  clear t0 t1 hk0 hk
  have hd8 : ¬ (N : Int) < 8 := by omega
  go_upto_region 6 with ((with_reducible refine SY.out.mono ?_); rintro e w8 ⟨rfl, hb8⟩; (repeat (with_reducible (replace hb8 := Below.undrew hb8))); obtain ⟨hc8, hf8⟩ := bcell hb8; have hz8 := hb8.size; (repeat (first | rw [World.size_alloc] at hz8 | rw [World.size_drew] at hz8 | rw [World.size_setCell] at hz8)); (try have : b < w8.heap.size := by omega); (try have : b < w8.heap.size + 1 := by omega); (try have : b < w8.heap.size + 1 + 1 := by omega); (try have : b < w8.heap.size + 1 + 1 + 1 := by omega); (try have : w.heap.size < w8.heap.size := by omega); (try have : w.heap.size < w8.heap.size + 1 := by omega); (try have : w.heap.size < w8.heap.size + 1 + 1 := by omega); (try have : w.heap.size < w8.heap.size + 1 + 1 + 1 := by omega); (try have : w1.heap.size < w8.heap.size := by omega); (try have : w1.heap.size < w8.heap.size + 1 := by omega); (try have : w1.heap.size < w8.heap.size + 1 + 1 := by omega); (try have : w1.heap.size < w8.heap.size + 1 + 1 + 1 := by omega); (try have : wr.heap.size < w8.heap.size := by omega); (try have : wr.heap.size < w8.heap.size + 1 := by omega); (try have : wr.heap.size < w8.heap.size + 1 + 1 := by omega); (try have : wr.heap.size < w8.heap.size + 1 + 1 + 1 := by omega))
  replace HO5 := Lib.hid (HO5.out.below hb8)
  replace HW := Lib.hid (HW.out.trans (hb8.mono HW.out.size))
  obtain ⟨htk, hsk⟩ := byte_take HO5.out k (by omega)
  have HSK := Lib.hid hsk
  have HKL := Lib.hid (show k = (S.take k).length by rw [List.length_take, ← HN.out]; omega)
  clear hb8 hc8 hf8 hz8 SY hsk HR HS7
  obtain ⟨X, hX⟩ : ∃ X : World, X = w8 := ⟨_, rfl⟩
  subst hX
  go_wp2_with (first | ((with_reducible refine (PK.out _).mono ?_); rintro e w' ⟨rfl, rfl⟩) | (at_builtin; refine stop_at ?_; intro G hG))
  rw [← hG.out]; clear hG G
  refine wpList_append_any rfl _ _ 64 5 1 1 _ rfl eiByte _ (.slice none 0 0) [] rfl (Wk.Own.nil _ _ _ _) (.slice a5 k c5) ((S.take k).map byteCells) rfl HSK.out (by intro c hc; obtain ⟨r, _, rfl⟩ := List.mem_map.1 hc; exact byteCells_one r) (by have := HKL.out; simp; omega) (by decide) (Nat.le_refl _) ?_
  intro v9 w9 ho9 hb9
  rw [List.nil_append] at ho9
  obtain ⟨a9, c9, rfl⟩ := ho9.shape
  rw [List.length_map, ← HKL.out] at ho9 ⊢
  have HS9 := Lib.hid ho9.sl
  replace HO5 := Lib.hid (HO5.out.below hb9)
  replace HW := Lib.hid (HW.out.trans (hb9.mono HW.out.size))
  clear ho9 hb9 HSK htk
  go_wp2_with fail
  refine (load_any a9 c9 k (S.take k) L w9 HKL.out HS9.out (fun y hy => HLT.out y (List.mem_of_mem_take hy)) (by omega) HT.out (fun h8 _ => by
    obtain ⟨J, h1, h2, h3⟩ := HCUT.out k (by rw [← HN.out]; exact hkN) h8
    exact ⟨J, h1, h2, fun e => by rw [← HSE.out]; exact h3 e⟩)).mono ?_
  rintro e w10 ⟨v10, code, rfl, hb10, hret⟩
  have hcode : code ≠ 0 := by
    rcases hret with ⟨_, h | h | h⟩ | ⟨h1, _⟩
    · omega
    · omega
    · omega
    · have := congrArg List.length h1
      rw [← HSE.out, ← HKL.out, ← HN.out] at this
      omega
  have hcd : ((code : Int) == 0) = false := by rw [beq_eq_false_iff_ne]; omega
  replace HO5 := Lib.hid (HO5.out.below hb10)
  replace HW := Lib.hid (HW.out.trans (hb10.mono HW.out.size))
  have HCODE := Lib.hid hcode
  clear hret hb10 HS9 HCUT HKL hcode
  by_cases hb0 : by_ = 0
  · subst hb0
    go_wp2_with fail
    go_returns
    exact ⟨rfl, HW.out⟩
  · have hbne : ((by_ : Int) == 0) = false := by rw [beq_eq_false_iff_ne]; omega
    have HB0 := Lib.hid hb0
    clear hb0
    go_wp2_with (at_builtin; refine stop_at ?_; intro G hG)
    rw [← hG.out]; clear hG G
    refine wpList_append_any rfl _ _ 64 5 1 1 _ rfl eiByte _ (.slice none 0 0) [] rfl (Wk.Own.nil _ _ _ _) (.slice a5 N c5) (S.map byteCells) rfl HO5.out.sl (by intro c hc; obtain ⟨r, _, rfl⟩ := List.mem_map.1 hc; exact byteCells_one r) (by have := HN.out; simp; omega) (by decide) (Nat.le_refl _) ?_
    intro v11 w11 ho11 hb11
    rw [List.nil_append] at ho11
    obtain ⟨x, hx⟩ : ∃ x, S[k]? = some x := ⟨_, List.getElem?_eq_getElem (by rw [← HN.out]; exact hkN)⟩
    obtain ⟨g, cap, rfl, hg1, hg2, hg3, hg4, hfz, hcl⟩ := ho11.at (by rw [List.length_map, ← HN.out]; omega)
    rw [List.length_map, ← HN.out] at ho11 hg3 ⊢
    have c0 := hcl k (byteCells x) (by rw [List.getElem?_map, hx]; rfl) 0 _ rfl
    rw [Nat.mul_one, Nat.add_zero] at c0
    have f0 := hfz k
    obtain ⟨hxo, hx256⟩ := xor_u8 x by_ (HLT.out x (List.mem_of_getElem? hx)) hby
    have HXN := Lib.hid (xor_ne (a := x) HB0.out)
    have HOS := ho11.set (i := k) (c := byteCells x) (by rw [List.getElem?_map, hx]; rfl) (j := 0) (by decide) (.int .u8 ((x ^^^ by_ : Nat) : Int))
    rw [Nat.mul_one, Nat.add_zero] at HOS
    have HXX := Lib.hid hx
    obtain ⟨y, hy⟩ : ∃ y, y = x ^^^ by_ := ⟨_, rfl⟩
    rw [← hy] at hxo hx256 HXN HOS
    have ems : (S.map byteCells).set k ((byteCells x).set 0 (.int .u8 (y : Int))) = (S.set k y).map byteCells := by rw [List.map_set]; rfl
    rw [ems] at HOS
    have HO12 := Lib.hid HOS
    have HY256 := Lib.hid hx256
    have HW11 := Lib.hid (HW.out.trans (hb11.mono HW.out.size))
    have HW12 := Lib.hid (HW11.out.setCell (p := ⟨g, k, none⟩) (Nat.le_trans HW.out.size hg1) (.int .u8 (y : Int)))
    clear hx hy hcl hfz ho11 hb11 HOS ems hx256
    go_wp2_with fail
    refine (load_any (some ⟨g, 0, none⟩) cap N (S.set k y) L _ (by rw [List.length_set]; exact HN.out) HO12.out.sl (fun z hz => by
      rcases List.mem_or_eq_of_mem_set hz with h | h
      · exact HLT.out z h
      · rw [h]; exact HY256.out) (by omega) HT.out (fun _ h => absurd h (HCHG.out k x y HXX.out HY256.out HXN.out))).mono ?_
    rintro e w13 ⟨v13, code2, rfl, hb13, hret⟩
    replace hret : v13 = .slice none 0 0 ∧ code2 = 12 := by
      rcases hret with ⟨h0, h | h | h⟩ | ⟨h1, _⟩
      · have h8 := h.1
        rw [List.length_set, ← HN.out] at h8
        omega
      · exact ⟨h0, h.2.2⟩
      · exact absurd h.2.1 (HCHG.out k x y HXX.out HY256.out HXN.out)
      · rw [← HSE.out] at h1
        exact absurd h1 (changed_ne HXX.out HXN.out)
    obtain ⟨rfl, rfl⟩ := hret
    have HW13 := Lib.hid (HW12.out.trans (hb13.mono HW12.out.size))
    clear hb13
    go_wp2_with fail
    go_returns
    exact ⟨rfl, HW13.out⟩
end Go.Proofs.Yteadfobfenopkaa
