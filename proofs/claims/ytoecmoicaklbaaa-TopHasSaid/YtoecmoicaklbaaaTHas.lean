
/- TopHas: the walk. -/
import Derived.Test.YtoecmoicaklbaaaTHP
set_option linter.unusedVariables false
set_option linter.unusedSimpArgs false
namespace Go.Proofs.Ytoecmoicaklbaaa
open Go.RowKit Go.Sort Wc Wk

theorem b3_newvT (w : World) (E : TypeId) (c p q : Int) : B3 (w.alloc (.cells #[.int .i64 c, .int .i64 p, .int .i64 q] E)) w.heap.size c p q := by constructor <;> simp

set_option maxRecDepth 100000 in
set_option maxHeartbeats 8000000 in
theorem topHas_walk (a0 : Option Addr) (len0 cap0 : Nat) (z0 : List RawJ) (nn : Int) (w : World) (h0 : IsJobs w a0 len0 cap0 z0) (hk : -9223372036854775808 ≤ nn ∧ nn ≤ 9223372036854775807) :
    Calls Try.prog 4 #[.slice a0 len0 cap0, .int .i64 nn] w fun e w' => e = .returned (.bool true) ∧ Below w.heap.size w w' := by
  have H0 := Lib.hid h0
  have NR := Lib.hid (fun w => nearM_any nn w)
  have HNF := Lib.hid (nearM_fits nn)
  generalize nearM nn = nc at *
  clear h0 hk
  go_enter Try.func4, Try.ntmps4
  go_wp2_with fail
  refine (acts_any a0 len0 cap0 z0 60 w H0.out (by decide)).mono ?_
  rintro e w1 ⟨v1, rfl, ho1, hb1⟩
  (repeat (with_reducible (replace hb1 := Below.undrew hb1))); obtain ⟨hc1, hf1⟩ := bcell hb1; have hz1 := hb1.size; (repeat (first | rw [World.size_alloc] at hz1 | rw [World.size_drew] at hz1 | rw [World.size_setCell] at hz1)); (try have : w.heap.size < w1.heap.size := by omega); (try have : w.heap.size < w1.heap.size + 1 := by omega); (try have : w.heap.size < w1.heap.size + 1 + 1 := by omega); (try have : w.heap.size < w1.heap.size + 1 + 1 + 1 := by omega)
  obtain ⟨aa, ac, rfl⟩ := ho1.shape
  rw [List.length_map] at ho1 ⊢
  have hal := actsOf_len z0 60
  have HA1 := Lib.hid ho1
  have HB1 := Lib.hid hb1
  have HNL := Lib.hid (acts_near z0 60)
  have HT := Lib.hid (tend_ok TabOk.nil (actsOf_fit (js := z0) (n := 60)))
  clear ho1 hb1 hc1 hf1 H0
  go_wp2_with fail
  refine (routesTop_any aa ac (actsOf z0 60).length (actsOf z0 60) w1 rfl HA1.out.sl (by omega) actsOf_fit).mono ?_
  rintro e w2 ⟨v2, rfl, ho2, hb2⟩
  (repeat (with_reducible (replace hb2 := Below.undrew hb2))); obtain ⟨hc2, hf2⟩ := bcell hb2; have hz2 := hb2.size; (repeat (first | rw [World.size_alloc] at hz2 | rw [World.size_drew] at hz2 | rw [World.size_setCell] at hz2)); (try have : w.heap.size < w2.heap.size := by omega); (try have : w.heap.size < w2.heap.size + 1 := by omega); (try have : w.heap.size < w2.heap.size + 1 + 1 := by omega); (try have : w.heap.size < w2.heap.size + 1 + 1 + 1 := by omega)
  generalize tend [] (actsOf z0 60) = R at *
  have hRl : R.length ≤ 60 := HT.out.len
  obtain ⟨ra, rc, rfl⟩ := ho2.shape
  rw [List.length_map] at ho2 ⊢
  have HR2 := Lib.hid ho2
  have HB2 := Lib.hid (HB1.out.trans (hb2.mono hz1))
  have hz2' := HB2.out.size
  clear ho2 hb2 hc2 hf2 HA1 HB1 hal
  go_wp2_with fail
  go_loopw [7, 8] (fun v i wr => ∃ j : Nat, j ≤ R.length ∧ i = .int .i64 j ∧ (∃ oa oc, ∃ ps : List (Nat × Nat), v = .slice oa ps.length oc ∧ Hid (ps = (R.take j).map key) ∧ Hid (Wk.Own wr w2.heap.size 30 4 (.slice oa ps.length oc) (ps.map (pfC false)))) ∧ Hid (Below w2.heap.size w2 wr)) (fun _ i _ => R.length - (intOf i).toNat)
  case atStart => exact ⟨0, Nat.zero_le _, rfl, ⟨none, 0, [], rfl, rfl, Wk.Own.nil _ _ _ _⟩, Below.refl _ _⟩
  case round =>
    obtain ⟨j, hj, rfl, ⟨oa, oc, ps, rfl, HPS, HO⟩, HB⟩ := hrel
    have hzr := HB.out.size
    have HPL := Lib.hid (show ps.length = j by rw [HPS.out, List.length_map, List.length_take]; omega)
    by_cases hlt : j < R.length
    · obtain ⟨px, hx⟩ : ∃ s, R[j]? = some s := ⟨_, List.getElem?_eq_getElem hlt⟩
      obtain ⟨g, off, rfl, hgl, hc⟩ := Sl.at (HR2.out.below HB.out).sl (i := j) (c := routeCells px) (by rw [List.getElem?_map, hx]; rfl)
      have e0 : wr.cell? ⟨g, off + j * 5, none⟩ = some (.bool false) := hc 0 _ rfl
      have e1 : wr.cell? ⟨g, off + j * 5 + 1, none⟩ = some (.int .u64 (hiOf false (key px).1)) := hc 1 _ rfl
      have e2 : wr.cell? ⟨g, off + j * 5 + 2, none⟩ = some (.int .u64 (loOf (key px).1)) := hc 2 _ rfl
      have e3 : wr.cell? ⟨g, off + j * 5 + 3, none⟩ = some (.int .i64 (key px).2) := hc 3 _ rfl
      have HTK := Lib.hid (show ps ++ [key px] = (R.take (j + 1)).map key by rw [HPS.out, List.take_add_one, hx]; simp)
      clear hc hx
      generalize key px = pk at *
      go_wp2_with (at_builtin; refine stop_at ?_; intro G hG)
      rw [← hG.out]; clear hG G
      refine wpList_append_any rfl _ _ 47 30 4 32 _ rfl eiPre w2.heap.size _ ((ps).map (pfC false)) rfl ((HO.out.alloc _)) _ (([pk]).map (pfC false)) rfl (sl_pf1 pk (by (first | omega | (simp; done) | (simp; omega)))) (by intro c hc; obtain ⟨r, _, rfl⟩ := List.mem_map.1 hc; exact pfC_one false r) (by simp only [List.length_map, List.length_cons, List.length_nil]; have h9 := HPL.out; first | omega | (simp; omega)) (by decide) (by first | omega | (simp; done) | (simp; omega)) ?_
      intro v3 w3 hown3 hb3
      rw [← List.map_append] at hown3
      obtain ⟨xs3, hxs3⟩ : ∃ x : List (Nat × Nat), x = (ps) ++ ([pk]) := ⟨_, rfl⟩
      rw [← hxs3] at hown3
      have hl3 : xs3.length = (ps).length + ([pk]).length := by rw [hxs3, List.length_append]
      have HX3 := Lib.hid hxs3
      clear hxs3
      have HL3 := Lib.hid hl3
      clear hl3
      obtain ⟨a3, cap3, rfl⟩ := hown3.shape
      rw [List.length_map] at hown3 ⊢
      have HO3 := Lib.hid hown3
      clear hown3
      obtain ⟨hc3, hf3⟩ := bcellB hb3; have hz3 := hb3.size; (repeat (first | rw [World.size_alloc] at hz3 | rw [World.size_drew] at hz3 | rw [World.size_setCell] at hz3)); (try have : w.heap.size < w3.heap.size := by omega); (try have : w.heap.size < w3.heap.size + 1 := by omega); (try have : w.heap.size < w3.heap.size + 1 + 1 := by omega); (try have : w.heap.size < w3.heap.size + 1 + 1 + 1 := by omega)
      have HP3 := Lib.hid (show xs3 = (R.take (j + 1)).map key by rw [HX3.out]; exact HTK.out)
      have HB3 := Lib.hid ((HB.out.alloc hzr _).trans hb3)
      clear HX3 HL3 hb3 hc3 hf3 HO HPS HPL HTK e0 e1 e2 e3 HB
      go_wp2
      go_roundw
      case rel => exact ⟨j + 1, by omega, by go_num, ⟨_, _, xs3, rfl, HP3, HO3⟩, HB3⟩
      case measure => simp [intOf]; omega
    · obtain rfl : j = R.length := by omega
      rw [List.take_length] at HPS
      have HRr := Lib.hid (HR2.out.below HB.out)
      have HBr := Lib.hid (HB2.out.trans (HB.out.mono hz2'))
      have hzr' := HBr.out.size
      have HNP : Hid (NearL ps) := by show NearL ps; rw [HPS.out]; exact HNL.out
      have hpl : ps.length ≤ 80 := by have := HPL.out; omega
      clear HB HR2 HB2 HPL hj hlt
      go_wp2_with fail
      refine (mergeN_any oa oc ps wr HO.out.sl hpl HNP.out (fun x hx => (HO.out.lt x.block (by rw [hx]; rfl)).2)).mono ?_
      rintro e w4 ⟨ma, mc, l1, ms, rfl, hs1, hc1, ho4, hb4⟩
      (repeat (with_reducible (replace hb4 := Below.undrew hb4))); obtain ⟨hc4, hf4⟩ := bcell hb4; have hz4 := hb4.size; (repeat (first | rw [World.size_alloc] at hz4 | rw [World.size_drew] at hz4 | rw [World.size_setCell] at hz4)); (try have : w.heap.size < w4.heap.size := by omega); (try have : w.heap.size < w4.heap.size + 1 := by omega); (try have : w.heap.size < w4.heap.size + 1 + 1 := by omega); (try have : w.heap.size < w4.heap.size + 1 + 1 + 1 := by omega)
      have HM := Lib.hid (merged HNP.out hs1 hc1)
      have HPI : Hid (InP false ps nc ↔ InP false (R.map key) nc) := by show _ ↔ _; rw [HPS.out]
      have HO4 := Lib.hid ho4
      have HR4 := Lib.hid (HRr.out.below hb4)
      have HB4 := Lib.hid (HBr.out.trans (hb4.mono hzr'))
      have hz4' := HB4.out.size
      clear hb4 ho4 hc4 hf4 HO HRr HBr hs1 hc1 HNP
      go_wp2_with (first | ((with_reducible refine (NR.out _).mono ?_); rintro e w5 ⟨rfl, hb5⟩; (repeat (with_reducible (replace hb5 := Below.undrew hb5))); obtain ⟨hc5, hf5⟩ := bcell hb5; have hz5 := hb5.size; (repeat (first | rw [World.size_alloc] at hz5 | rw [World.size_drew] at hz5 | rw [World.size_setCell] at hz5)); (try have : w.heap.size < w5.heap.size := by omega); (try have : w.heap.size < w5.heap.size + 1 := by omega); (try have : w.heap.size < w5.heap.size + 1 + 1 := by omega); (try have : w.heap.size < w5.heap.size + 1 + 1 + 1 := by omega)))
      obtain ⟨Y, hY⟩ : ∃ Y, Y = w5.alloc (.cells #[.bool false, .int .u64 (hiOf false nc), .int .u64 (loOf nc)] 28) := ⟨_, rfl⟩
      have g0 : Y.cell? ⟨w5.heap.size, 0, none⟩ = some (.bool false) := by rw [hY]; simp
      have g1 : Y.cell? ⟨w5.heap.size, 1, none⟩ = some (.int .u64 (hiOf false nc)) := by rw [hY]; simp
      have g2 : Y.cell? ⟨w5.heap.size, 2, none⟩ = some (.int .u64 (loOf nc)) := by rw [hY]; simp
      have hPs : w5.heap.size < Y.heap.size := by rw [hY]; simp
      have h4Y : Below w4.heap.size w4 Y := by rw [hY]; exact hb5.alloc hz5 _
      have HRY := Lib.hid (HR4.out.below h4Y)
      have HSl := Lib.hid HRY.out.sl
      have HMY := Lib.hid (HO4.out.below h4Y)
      have HBY := Lib.hid (HB4.out.trans (h4Y.mono hz4'))
      rw [← hY]
      clear hY hb5 hc5 hf5 hz5 h4Y HR4 HO4 HB4 NR hz4'
      generalize w5.heap.size = P at *
      have HRO := Lib.hid (RtOk.of_tab HT.out)
      have HPA := Lib.hid (putAll_srt HT.out)
      have HFA := Lib.hid HNF.out
      go_cut [12, 13] (fun v12 v13 wx => ∃ b, v12 = .pointer (some ⟨b, 0, none⟩) ∧ v13 = .int .i64 0 ∧ Hid (B3 wx b 0 (goesL (putAll R) nc).1 (goesL (putAll R) nc).2) ∧ Hid (Below Y.heap.size Y wx))
      case first =>
        refine wp_region_held_drew (S := (fun w' => w'.cell? ⟨P, 0, none⟩ = some (.bool false) ∧ w'.cell? ⟨P, 1, none⟩ = some (.int .u64 (hiOf false nc)) ∧ w'.cell? ⟨P, 2, none⟩ = some (.int .u64 (loOf nc)))) (by kernel_rfl) ?_ (fun hHeld => ?_)
        · ((try dsimp only); (first | (first | (go_simp; done) | (simp [*, go_sem, World.cell?_alloc_past]; done) | (simp [*, go_sem, World.cell?_alloc_past, World.cell?_setCell_far]; done)) | exact ⟨(World.cell?_alloc_some _ _ _ (by rw [hHeld.1]; rfl)).trans hHeld.1, (World.cell?_alloc_some _ _ _ (by rw [hHeld.2.1]; rfl)).trans hHeld.2.1, (World.cell?_alloc_some _ _ _ (by rw [hHeld.2.2]; rfl)).trans hHeld.2.2⟩ | exact ⟨(hbD.cell (p := ⟨P, 0, none⟩) (by first | omega | (simp; omega))).trans hHeld.1, (hbD.cell (p := ⟨P, 1, none⟩) (by first | omega | (simp; omega))).trans hHeld.2.1, (hbD.cell (p := ⟨P, 2, none⟩) (by first | omega | (simp; omega))).trans hHeld.2.2⟩ | exact ⟨(hbA.cell (p := ⟨P, 0, none⟩) (by first | omega | (simp; omega))).trans hHeld.1, (hbA.cell (p := ⟨P, 1, none⟩) (by first | omega | (simp; omega))).trans hHeld.2.1, (hbA.cell (p := ⟨P, 2, none⟩) (by first | omega | (simp; omega))).trans hHeld.2.2⟩ | trivial))
        (refine wpAnyH_take (i := 0) (oi := _) (v := ?_) (by simp only [List.getElem?_toArray, List.getElem?_cons_zero, List.getElem?_cons_succ]; rfl) (by kernel_rfl) (by decide +kernel) (by decide +kernel) (by exact fun _ _ _ h => h) (Or.inl ⟨by rfl, ?_⟩) (by assumption) ?_; rotate_left; (· ((intro w hSw); (try dsimp only at hSw); go_simp; (try with_reducible rfl))); (try simp only [Act.put, List.setIfInBounds_toArray, List.set_cons_zero, List.set_cons_succ]))
        (refine wpAnyH_take (i := 2) (oi := _) (v := ?_) (by simp only [List.getElem?_toArray, List.getElem?_cons_zero, List.getElem?_cons_succ]; rfl) (by kernel_rfl) (by decide +kernel) (by decide +kernel) (by exact fun _ _ _ h => h) (Or.inl ⟨by rfl, ?_⟩) (by assumption) ?_; rotate_left; (· ((intro w hSw); (try dsimp only at hSw); go_simp; (try with_reducible rfl))); (try simp only [Act.put, List.setIfInBounds_toArray, List.set_cons_zero, List.set_cons_succ]))
        repeat' (first
          | (refine wpAnyH_take (i := 4) (oi := _) (v := ?_) (by simp only [List.getElem?_toArray, List.getElem?_cons_zero, List.getElem?_cons_succ]; rfl) (by kernel_rfl) (by decide +kernel) (by decide +kernel) (by exact fun _ _ _ h => h) (Or.inl ⟨by rfl, ?_⟩) (by assumption) ?_; rotate_left; (· ((intro w hSw); (try dsimp only at hSw); go_simp; (try with_reducible rfl))); (try simp only [Act.put, List.setIfInBounds_toArray, List.set_cons_zero, List.set_cons_succ]))
          | (refine wpAnyH_take (i := 5) (oi := _) (v := ?_) (by simp only [List.getElem?_toArray, List.getElem?_cons_zero, List.getElem?_cons_succ]; rfl) (by kernel_rfl) (by decide +kernel) (by decide +kernel) (by exact fun _ _ _ h => h) (Or.inl ⟨by rfl, ?_⟩) (by assumption) ?_; rotate_left; (· ((intro w hSw); (try dsimp only at hSw); go_simp; (try with_reducible rfl))); (try simp only [Act.put, List.setIfInBounds_toArray, List.set_cons_zero, List.set_cons_succ]))
          | (refine wpAnyH_take (i := 6) (oi := _) (v := ?_) (by simp only [List.getElem?_toArray, List.getElem?_cons_zero, List.getElem?_cons_succ]; rfl) (by kernel_rfl) (by decide +kernel) (by decide +kernel) (by exact fun _ _ _ h => h) (Or.inl ⟨by rfl, ?_⟩) (by assumption) ?_; rotate_left; (· ((intro w hSw); (try dsimp only at hSw); go_simp; (try with_reducible rfl))); (try simp only [Act.put, List.setIfInBounds_toArray, List.set_cons_zero, List.set_cons_succ]))
          | (refine wpAnyH_take (i := 9) (oi := _) (v := ?_) (by simp only [List.getElem?_toArray, List.getElem?_cons_zero, List.getElem?_cons_succ]; rfl) (by kernel_rfl) (by decide +kernel) (by decide +kernel) (by exact fun _ _ _ h => h) (Or.inl ⟨by rfl, ?_⟩) (by assumption) ?_; rotate_left; (· ((intro w hSw); (try dsimp only at hSw); go_simp; (try with_reducible rfl))); (try simp only [Act.put, List.setIfInBounds_toArray, List.set_cons_zero, List.set_cons_succ]))
          | (refine wpAnyH_ready (rs := [1, 7]) (by decide +kernel) (by simp) (AllReadyH.cons (by simp only [List.getElem?_toArray, List.getElem?_cons_zero, List.getElem?_cons_succ]; rfl) (fun K hK => ?_) (AllReadyH.cons (by simp only [List.getElem?_toArray, List.getElem?_cons_zero, List.getElem?_cons_succ]; rfl) (fun K hK => ?_) AllReadyH.nil)); all_goals ((first | (refine step_append_any rfl (.const (.slice none 0 0)) (.tmp 46) 43 49 5 40 _ rfl eiRoute _ (.slice none 0 0) [] rfl (Wk.Own.nil _ _ _ _) (.slice ra R.length rc) (R.map routeCells) rfl (HSl.out.below (by (repeat' (first | (with_reducible exact Below.refl _ _) | (with_reducible assumption) | (with_reducible refine Below.al ?_ _) | (with_reducible refine Below.dr ?_) | (with_reducible refine Below.step ?_ (by assumption)) | (with_reducible refine Below.set ?_ ?_ _) | omega | (dsimp only; omega) | (simp; done) | (simp; omega))))) (by intro c hc; obtain ⟨r, _, rfl⟩ := List.mem_map.1 hc; exact routeCells_one r) (by have := HRO.out.len; simp; omega) (by decide) (Nat.le_refl _) ?_; intro vA wA hownA hbA; obtain ⟨hcA, hfA⟩ := bcellB hbA; have hsA := hbA.size; (try simp at hsA); obtain ⟨aA, cA, hshA⟩ := hownA.shape; subst hshA; (try have hPA : P < wA.heap.size := by omega); (try have hPA1 : P < wA.heap.size + 1 := by omega); (try (have BZA := B3.below (by first | exact b3_new _ _ | exact (b3_new _ _).below (below_drewN (Below.refl _ _) 1)) hbA; have BZAa := BZA.c0; have BZAb := BZA.c1; have BZAc := BZA.c2; have BZAd := BZA.f0; have BZAe := BZA.f1; have BZAf := BZA.f2; have BZAg := BZA.lt))) | (go_simp; (first | (go_at_call 19; refine (tlook_any aA cA _ _ R _ (by simp) (by first | simpa using hownA.sl | simpa using hownA.sl.below (by (repeat' (first | (with_reducible exact Below.refl _ _) | (with_reducible assumption) | (with_reducible refine Below.al ?_ _) | (with_reducible refine Below.dr ?_) | (with_reducible refine Below.step ?_ (by assumption)) | (with_reducible refine Below.set ?_ ?_ _) | omega | (dsimp only; omega) | (simp; done) | (simp; omega))))) HRO.out HFA.out).mono ?_; rintro e wD ⟨rfl, hbD⟩; obtain ⟨hcD, hfD⟩ := bcell hbD; have hsD := hbD.size; (try simp at hsD); (try have hPD : P < wD.heap.size := by omega); (try have hPD1 : P < wD.heap.size + 1 := by omega); (try (have BZD := BZA.below hbD; have BZDa := BZD.c0; have BZDb := BZD.c1; have BZDc := BZD.c2; have BZDd := BZD.f0; have BZDe := BZD.f1; have BZDf := BZD.f2; have BZDg := BZD.lt)); (try (have BZE := B3.below (by first | exact b3_new _ _ | exact (b3_new _ _).below (below_drewN (Below.refl _ _) 1)) hbD; have BZEa := BZE.c0; have BZEb := BZE.c1; have BZEc := BZE.c2; have BZEd := BZE.f0; have BZEe := BZE.f1; have BZEf := BZE.f2; have BZEg := BZE.lt))) | skip))); (refine hK.out _ _ ?_ (fun hHeld => ?_)); (· ((try dsimp only); (first | (first | (go_simp; done) | (simp [*, go_sem, World.cell?_alloc_past]; done) | (simp [*, go_sem, World.cell?_alloc_past, World.cell?_setCell_far]; done)) | exact ⟨(World.cell?_alloc_some _ _ _ (by rw [hHeld.1]; rfl)).trans hHeld.1, (World.cell?_alloc_some _ _ _ (by rw [hHeld.2.1]; rfl)).trans hHeld.2.1, (World.cell?_alloc_some _ _ _ (by rw [hHeld.2.2]; rfl)).trans hHeld.2.2⟩ | exact ⟨(hbD.cell (p := ⟨P, 0, none⟩) (by first | omega | (simp; omega))).trans hHeld.1, (hbD.cell (p := ⟨P, 1, none⟩) (by first | omega | (simp; omega))).trans hHeld.2.1, (hbD.cell (p := ⟨P, 2, none⟩) (by first | omega | (simp; omega))).trans hHeld.2.2⟩ | exact ⟨(hbA.cell (p := ⟨P, 0, none⟩) (by first | omega | (simp; omega))).trans hHeld.1, (hbA.cell (p := ⟨P, 1, none⟩) (by first | omega | (simp; omega))).trans hHeld.2.1, (hbA.cell (p := ⟨P, 2, none⟩) (by first | omega | (simp; omega))).trans hHeld.2.2⟩ | trivial))); (clear hK K; (try simp only [Act.put, List.setIfInBounds_toArray, List.set_cons_zero, List.set_cons_succ]))))
          | (refine wpAnyH_ready (rs := [3, 7]) (by decide +kernel) (by simp) (AllReadyH.cons (by simp only [List.getElem?_toArray, List.getElem?_cons_zero, List.getElem?_cons_succ]; rfl) (fun K hK => ?_) (AllReadyH.cons (by simp only [List.getElem?_toArray, List.getElem?_cons_zero, List.getElem?_cons_succ]; rfl) (fun K hK => ?_) AllReadyH.nil)); all_goals ((first | (refine step_append_any rfl (.const (.slice none 0 0)) (.tmp 46) 43 49 5 40 _ rfl eiRoute _ (.slice none 0 0) [] rfl (Wk.Own.nil _ _ _ _) (.slice ra R.length rc) (R.map routeCells) rfl (HSl.out.below (by (repeat' (first | (with_reducible exact Below.refl _ _) | (with_reducible assumption) | (with_reducible refine Below.al ?_ _) | (with_reducible refine Below.dr ?_) | (with_reducible refine Below.step ?_ (by assumption)) | (with_reducible refine Below.set ?_ ?_ _) | omega | (dsimp only; omega) | (simp; done) | (simp; omega))))) (by intro c hc; obtain ⟨r, _, rfl⟩ := List.mem_map.1 hc; exact routeCells_one r) (by have := HRO.out.len; simp; omega) (by decide) (Nat.le_refl _) ?_; intro vA wA hownA hbA; obtain ⟨hcA, hfA⟩ := bcellB hbA; have hsA := hbA.size; (try simp at hsA); obtain ⟨aA, cA, hshA⟩ := hownA.shape; subst hshA; (try have hPA : P < wA.heap.size := by omega); (try have hPA1 : P < wA.heap.size + 1 := by omega); (try (have BZA := B3.below (by first | exact b3_new _ _ | exact (b3_new _ _).below (below_drewN (Below.refl _ _) 1)) hbA; have BZAa := BZA.c0; have BZAb := BZA.c1; have BZAc := BZA.c2; have BZAd := BZA.f0; have BZAe := BZA.f1; have BZAf := BZA.f2; have BZAg := BZA.lt))) | (go_simp; (first | (go_at_call 19; refine (tlook_any aA cA _ _ R _ (by simp) (by first | simpa using hownA.sl | simpa using hownA.sl.below (by (repeat' (first | (with_reducible exact Below.refl _ _) | (with_reducible assumption) | (with_reducible refine Below.al ?_ _) | (with_reducible refine Below.dr ?_) | (with_reducible refine Below.step ?_ (by assumption)) | (with_reducible refine Below.set ?_ ?_ _) | omega | (dsimp only; omega) | (simp; done) | (simp; omega))))) HRO.out HFA.out).mono ?_; rintro e wD ⟨rfl, hbD⟩; obtain ⟨hcD, hfD⟩ := bcell hbD; have hsD := hbD.size; (try simp at hsD); (try have hPD : P < wD.heap.size := by omega); (try have hPD1 : P < wD.heap.size + 1 := by omega); (try (have BZD := BZA.below hbD; have BZDa := BZD.c0; have BZDb := BZD.c1; have BZDc := BZD.c2; have BZDd := BZD.f0; have BZDe := BZD.f1; have BZDf := BZD.f2; have BZDg := BZD.lt)); (try (have BZE := B3.below (by first | exact b3_new _ _ | exact (b3_new _ _).below (below_drewN (Below.refl _ _) 1)) hbD; have BZEa := BZE.c0; have BZEb := BZE.c1; have BZEc := BZE.c2; have BZEd := BZE.f0; have BZEe := BZE.f1; have BZEf := BZE.f2; have BZEg := BZE.lt))) | skip))); (refine hK.out _ _ ?_ (fun hHeld => ?_)); (· ((try dsimp only); (first | (first | (go_simp; done) | (simp [*, go_sem, World.cell?_alloc_past]; done) | (simp [*, go_sem, World.cell?_alloc_past, World.cell?_setCell_far]; done)) | exact ⟨(World.cell?_alloc_some _ _ _ (by rw [hHeld.1]; rfl)).trans hHeld.1, (World.cell?_alloc_some _ _ _ (by rw [hHeld.2.1]; rfl)).trans hHeld.2.1, (World.cell?_alloc_some _ _ _ (by rw [hHeld.2.2]; rfl)).trans hHeld.2.2⟩ | exact ⟨(hbD.cell (p := ⟨P, 0, none⟩) (by first | omega | (simp; omega))).trans hHeld.1, (hbD.cell (p := ⟨P, 1, none⟩) (by first | omega | (simp; omega))).trans hHeld.2.1, (hbD.cell (p := ⟨P, 2, none⟩) (by first | omega | (simp; omega))).trans hHeld.2.2⟩ | exact ⟨(hbA.cell (p := ⟨P, 0, none⟩) (by first | omega | (simp; omega))).trans hHeld.1, (hbA.cell (p := ⟨P, 1, none⟩) (by first | omega | (simp; omega))).trans hHeld.2.1, (hbA.cell (p := ⟨P, 2, none⟩) (by first | omega | (simp; omega))).trans hHeld.2.2⟩ | trivial))); (clear hK K; (try simp only [Act.put, List.setIfInBounds_toArray, List.set_cons_zero, List.set_cons_succ]))))
          | (refine wpAnyH_ready (rs := [1]) (by decide +kernel) (by simp) (AllReadyH.cons (by simp only [List.getElem?_toArray, List.getElem?_cons_zero, List.getElem?_cons_succ]; rfl) (fun K hK => ?_) AllReadyH.nil); all_goals ((first | (refine step_append_any rfl (.const (.slice none 0 0)) (.tmp 46) 43 49 5 40 _ rfl eiRoute _ (.slice none 0 0) [] rfl (Wk.Own.nil _ _ _ _) (.slice ra R.length rc) (R.map routeCells) rfl (HSl.out.below (by (repeat' (first | (with_reducible exact Below.refl _ _) | (with_reducible assumption) | (with_reducible refine Below.al ?_ _) | (with_reducible refine Below.dr ?_) | (with_reducible refine Below.step ?_ (by assumption)) | (with_reducible refine Below.set ?_ ?_ _) | omega | (dsimp only; omega) | (simp; done) | (simp; omega))))) (by intro c hc; obtain ⟨r, _, rfl⟩ := List.mem_map.1 hc; exact routeCells_one r) (by have := HRO.out.len; simp; omega) (by decide) (Nat.le_refl _) ?_; intro vA wA hownA hbA; obtain ⟨hcA, hfA⟩ := bcellB hbA; have hsA := hbA.size; (try simp at hsA); obtain ⟨aA, cA, hshA⟩ := hownA.shape; subst hshA; (try have hPA : P < wA.heap.size := by omega); (try have hPA1 : P < wA.heap.size + 1 := by omega); (try (have BZA := B3.below (by first | exact b3_new _ _ | exact (b3_new _ _).below (below_drewN (Below.refl _ _) 1)) hbA; have BZAa := BZA.c0; have BZAb := BZA.c1; have BZAc := BZA.c2; have BZAd := BZA.f0; have BZAe := BZA.f1; have BZAf := BZA.f2; have BZAg := BZA.lt))) | (go_simp; (first | (go_at_call 19; refine (tlook_any aA cA _ _ R _ (by simp) (by first | simpa using hownA.sl | simpa using hownA.sl.below (by (repeat' (first | (with_reducible exact Below.refl _ _) | (with_reducible assumption) | (with_reducible refine Below.al ?_ _) | (with_reducible refine Below.dr ?_) | (with_reducible refine Below.step ?_ (by assumption)) | (with_reducible refine Below.set ?_ ?_ _) | omega | (dsimp only; omega) | (simp; done) | (simp; omega))))) HRO.out HFA.out).mono ?_; rintro e wD ⟨rfl, hbD⟩; obtain ⟨hcD, hfD⟩ := bcell hbD; have hsD := hbD.size; (try simp at hsD); (try have hPD : P < wD.heap.size := by omega); (try have hPD1 : P < wD.heap.size + 1 := by omega); (try (have BZD := BZA.below hbD; have BZDa := BZD.c0; have BZDb := BZD.c1; have BZDc := BZD.c2; have BZDd := BZD.f0; have BZDe := BZD.f1; have BZDf := BZD.f2; have BZDg := BZD.lt)); (try (have BZE := B3.below (by first | exact b3_new _ _ | exact (b3_new _ _).below (below_drewN (Below.refl _ _) 1)) hbD; have BZEa := BZE.c0; have BZEb := BZE.c1; have BZEc := BZE.c2; have BZEd := BZE.f0; have BZEe := BZE.f1; have BZEf := BZE.f2; have BZEg := BZE.lt))) | skip))); (refine hK.out _ _ ?_ (fun hHeld => ?_)); (· ((try dsimp only); (first | (first | (go_simp; done) | (simp [*, go_sem, World.cell?_alloc_past]; done) | (simp [*, go_sem, World.cell?_alloc_past, World.cell?_setCell_far]; done)) | exact ⟨(World.cell?_alloc_some _ _ _ (by rw [hHeld.1]; rfl)).trans hHeld.1, (World.cell?_alloc_some _ _ _ (by rw [hHeld.2.1]; rfl)).trans hHeld.2.1, (World.cell?_alloc_some _ _ _ (by rw [hHeld.2.2]; rfl)).trans hHeld.2.2⟩ | exact ⟨(hbD.cell (p := ⟨P, 0, none⟩) (by first | omega | (simp; omega))).trans hHeld.1, (hbD.cell (p := ⟨P, 1, none⟩) (by first | omega | (simp; omega))).trans hHeld.2.1, (hbD.cell (p := ⟨P, 2, none⟩) (by first | omega | (simp; omega))).trans hHeld.2.2⟩ | exact ⟨(hbA.cell (p := ⟨P, 0, none⟩) (by first | omega | (simp; omega))).trans hHeld.1, (hbA.cell (p := ⟨P, 1, none⟩) (by first | omega | (simp; omega))).trans hHeld.2.1, (hbA.cell (p := ⟨P, 2, none⟩) (by first | omega | (simp; omega))).trans hHeld.2.2⟩ | trivial))); (clear hK K; (try simp only [Act.put, List.setIfInBounds_toArray, List.set_cons_zero, List.set_cons_succ]))))
          | (refine wpAnyH_ready (rs := [3]) (by decide +kernel) (by simp) (AllReadyH.cons (by simp only [List.getElem?_toArray, List.getElem?_cons_zero, List.getElem?_cons_succ]; rfl) (fun K hK => ?_) AllReadyH.nil); all_goals ((first | (refine step_append_any rfl (.const (.slice none 0 0)) (.tmp 46) 43 49 5 40 _ rfl eiRoute _ (.slice none 0 0) [] rfl (Wk.Own.nil _ _ _ _) (.slice ra R.length rc) (R.map routeCells) rfl (HSl.out.below (by (repeat' (first | (with_reducible exact Below.refl _ _) | (with_reducible assumption) | (with_reducible refine Below.al ?_ _) | (with_reducible refine Below.dr ?_) | (with_reducible refine Below.step ?_ (by assumption)) | (with_reducible refine Below.set ?_ ?_ _) | omega | (dsimp only; omega) | (simp; done) | (simp; omega))))) (by intro c hc; obtain ⟨r, _, rfl⟩ := List.mem_map.1 hc; exact routeCells_one r) (by have := HRO.out.len; simp; omega) (by decide) (Nat.le_refl _) ?_; intro vA wA hownA hbA; obtain ⟨hcA, hfA⟩ := bcellB hbA; have hsA := hbA.size; (try simp at hsA); obtain ⟨aA, cA, hshA⟩ := hownA.shape; subst hshA; (try have hPA : P < wA.heap.size := by omega); (try have hPA1 : P < wA.heap.size + 1 := by omega); (try (have BZA := B3.below (by first | exact b3_new _ _ | exact (b3_new _ _).below (below_drewN (Below.refl _ _) 1)) hbA; have BZAa := BZA.c0; have BZAb := BZA.c1; have BZAc := BZA.c2; have BZAd := BZA.f0; have BZAe := BZA.f1; have BZAf := BZA.f2; have BZAg := BZA.lt))) | (go_simp; (first | (go_at_call 19; refine (tlook_any aA cA _ _ R _ (by simp) (by first | simpa using hownA.sl | simpa using hownA.sl.below (by (repeat' (first | (with_reducible exact Below.refl _ _) | (with_reducible assumption) | (with_reducible refine Below.al ?_ _) | (with_reducible refine Below.dr ?_) | (with_reducible refine Below.step ?_ (by assumption)) | (with_reducible refine Below.set ?_ ?_ _) | omega | (dsimp only; omega) | (simp; done) | (simp; omega))))) HRO.out HFA.out).mono ?_; rintro e wD ⟨rfl, hbD⟩; obtain ⟨hcD, hfD⟩ := bcell hbD; have hsD := hbD.size; (try simp at hsD); (try have hPD : P < wD.heap.size := by omega); (try have hPD1 : P < wD.heap.size + 1 := by omega); (try (have BZD := BZA.below hbD; have BZDa := BZD.c0; have BZDb := BZD.c1; have BZDc := BZD.c2; have BZDd := BZD.f0; have BZDe := BZD.f1; have BZDf := BZD.f2; have BZDg := BZD.lt)); (try (have BZE := B3.below (by first | exact b3_new _ _ | exact (b3_new _ _).below (below_drewN (Below.refl _ _) 1)) hbD; have BZEa := BZE.c0; have BZEb := BZE.c1; have BZEc := BZE.c2; have BZEd := BZE.f0; have BZEe := BZE.f1; have BZEf := BZE.f2; have BZEg := BZE.lt))) | skip))); (refine hK.out _ _ ?_ (fun hHeld => ?_)); (· ((try dsimp only); (first | (first | (go_simp; done) | (simp [*, go_sem, World.cell?_alloc_past]; done) | (simp [*, go_sem, World.cell?_alloc_past, World.cell?_setCell_far]; done)) | exact ⟨(World.cell?_alloc_some _ _ _ (by rw [hHeld.1]; rfl)).trans hHeld.1, (World.cell?_alloc_some _ _ _ (by rw [hHeld.2.1]; rfl)).trans hHeld.2.1, (World.cell?_alloc_some _ _ _ (by rw [hHeld.2.2]; rfl)).trans hHeld.2.2⟩ | exact ⟨(hbD.cell (p := ⟨P, 0, none⟩) (by first | omega | (simp; omega))).trans hHeld.1, (hbD.cell (p := ⟨P, 1, none⟩) (by first | omega | (simp; omega))).trans hHeld.2.1, (hbD.cell (p := ⟨P, 2, none⟩) (by first | omega | (simp; omega))).trans hHeld.2.2⟩ | exact ⟨(hbA.cell (p := ⟨P, 0, none⟩) (by first | omega | (simp; omega))).trans hHeld.1, (hbA.cell (p := ⟨P, 1, none⟩) (by first | omega | (simp; omega))).trans hHeld.2.1, (hbA.cell (p := ⟨P, 2, none⟩) (by first | omega | (simp; omega))).trans hHeld.2.2⟩ | trivial))); (clear hK K; (try simp only [Act.put, List.setIfInBounds_toArray, List.set_cons_zero, List.set_cons_succ]))))
          | (refine wpAnyH_ready (rs := [7]) (by decide +kernel) (by simp) (AllReadyH.cons (by simp only [List.getElem?_toArray, List.getElem?_cons_zero, List.getElem?_cons_succ]; rfl) (fun K hK => ?_) AllReadyH.nil); all_goals ((first | (refine step_append_any rfl (.const (.slice none 0 0)) (.tmp 46) 43 49 5 40 _ rfl eiRoute _ (.slice none 0 0) [] rfl (Wk.Own.nil _ _ _ _) (.slice ra R.length rc) (R.map routeCells) rfl (HSl.out.below (by (repeat' (first | (with_reducible exact Below.refl _ _) | (with_reducible assumption) | (with_reducible refine Below.al ?_ _) | (with_reducible refine Below.dr ?_) | (with_reducible refine Below.step ?_ (by assumption)) | (with_reducible refine Below.set ?_ ?_ _) | omega | (dsimp only; omega) | (simp; done) | (simp; omega))))) (by intro c hc; obtain ⟨r, _, rfl⟩ := List.mem_map.1 hc; exact routeCells_one r) (by have := HRO.out.len; simp; omega) (by decide) (Nat.le_refl _) ?_; intro vA wA hownA hbA; obtain ⟨hcA, hfA⟩ := bcellB hbA; have hsA := hbA.size; (try simp at hsA); obtain ⟨aA, cA, hshA⟩ := hownA.shape; subst hshA; (try have hPA : P < wA.heap.size := by omega); (try have hPA1 : P < wA.heap.size + 1 := by omega); (try (have BZA := B3.below (by first | exact b3_new _ _ | exact (b3_new _ _).below (below_drewN (Below.refl _ _) 1)) hbA; have BZAa := BZA.c0; have BZAb := BZA.c1; have BZAc := BZA.c2; have BZAd := BZA.f0; have BZAe := BZA.f1; have BZAf := BZA.f2; have BZAg := BZA.lt))) | (go_simp; (first | (go_at_call 19; refine (tlook_any aA cA _ _ R _ (by simp) (by first | simpa using hownA.sl | simpa using hownA.sl.below (by (repeat' (first | (with_reducible exact Below.refl _ _) | (with_reducible assumption) | (with_reducible refine Below.al ?_ _) | (with_reducible refine Below.dr ?_) | (with_reducible refine Below.step ?_ (by assumption)) | (with_reducible refine Below.set ?_ ?_ _) | omega | (dsimp only; omega) | (simp; done) | (simp; omega))))) HRO.out HFA.out).mono ?_; rintro e wD ⟨rfl, hbD⟩; obtain ⟨hcD, hfD⟩ := bcell hbD; have hsD := hbD.size; (try simp at hsD); (try have hPD : P < wD.heap.size := by omega); (try have hPD1 : P < wD.heap.size + 1 := by omega); (try (have BZD := BZA.below hbD; have BZDa := BZD.c0; have BZDb := BZD.c1; have BZDc := BZD.c2; have BZDd := BZD.f0; have BZDe := BZD.f1; have BZDf := BZD.f2; have BZDg := BZD.lt)); (try (have BZE := B3.below (by first | exact b3_new _ _ | exact (b3_new _ _).below (below_drewN (Below.refl _ _) 1)) hbD; have BZEa := BZE.c0; have BZEb := BZE.c1; have BZEc := BZE.c2; have BZEd := BZE.f0; have BZEe := BZE.f1; have BZEf := BZE.f2; have BZEg := BZE.lt))) | skip))); (refine hK.out _ _ ?_ (fun hHeld => ?_)); (· ((try dsimp only); (first | (first | (go_simp; done) | (simp [*, go_sem, World.cell?_alloc_past]; done) | (simp [*, go_sem, World.cell?_alloc_past, World.cell?_setCell_far]; done)) | exact ⟨(World.cell?_alloc_some _ _ _ (by rw [hHeld.1]; rfl)).trans hHeld.1, (World.cell?_alloc_some _ _ _ (by rw [hHeld.2.1]; rfl)).trans hHeld.2.1, (World.cell?_alloc_some _ _ _ (by rw [hHeld.2.2]; rfl)).trans hHeld.2.2⟩ | exact ⟨(hbD.cell (p := ⟨P, 0, none⟩) (by first | omega | (simp; omega))).trans hHeld.1, (hbD.cell (p := ⟨P, 1, none⟩) (by first | omega | (simp; omega))).trans hHeld.2.1, (hbD.cell (p := ⟨P, 2, none⟩) (by first | omega | (simp; omega))).trans hHeld.2.2⟩ | exact ⟨(hbA.cell (p := ⟨P, 0, none⟩) (by first | omega | (simp; omega))).trans hHeld.1, (hbA.cell (p := ⟨P, 1, none⟩) (by first | omega | (simp; omega))).trans hHeld.2.1, (hbA.cell (p := ⟨P, 2, none⟩) (by first | omega | (simp; omega))).trans hHeld.2.2⟩ | trivial))); (clear hK K; (try simp only [Act.put, List.setIfInBounds_toArray, List.set_cons_zero, List.set_cons_succ]))))
          | (refine wpAnyH_ready (rs := [8]) (by decide +kernel) (by simp) (AllReadyH.cons (by simp only [List.getElem?_toArray, List.getElem?_cons_zero, List.getElem?_cons_succ]; rfl) (fun K hK => ?_) AllReadyH.nil); all_goals ((first | (refine step_append_any rfl (.const (.slice none 0 0)) (.tmp 46) 43 49 5 40 _ rfl eiRoute _ (.slice none 0 0) [] rfl (Wk.Own.nil _ _ _ _) (.slice ra R.length rc) (R.map routeCells) rfl (HSl.out.below (by (repeat' (first | (with_reducible exact Below.refl _ _) | (with_reducible assumption) | (with_reducible refine Below.al ?_ _) | (with_reducible refine Below.dr ?_) | (with_reducible refine Below.step ?_ (by assumption)) | (with_reducible refine Below.set ?_ ?_ _) | omega | (dsimp only; omega) | (simp; done) | (simp; omega))))) (by intro c hc; obtain ⟨r, _, rfl⟩ := List.mem_map.1 hc; exact routeCells_one r) (by have := HRO.out.len; simp; omega) (by decide) (Nat.le_refl _) ?_; intro vA wA hownA hbA; obtain ⟨hcA, hfA⟩ := bcellB hbA; have hsA := hbA.size; (try simp at hsA); obtain ⟨aA, cA, hshA⟩ := hownA.shape; subst hshA; (try have hPA : P < wA.heap.size := by omega); (try have hPA1 : P < wA.heap.size + 1 := by omega); (try (have BZA := B3.below (by first | exact b3_new _ _ | exact (b3_new _ _).below (below_drewN (Below.refl _ _) 1)) hbA; have BZAa := BZA.c0; have BZAb := BZA.c1; have BZAc := BZA.c2; have BZAd := BZA.f0; have BZAe := BZA.f1; have BZAf := BZA.f2; have BZAg := BZA.lt))) | (go_simp; (first | (go_at_call 19; refine (tlook_any aA cA _ _ R _ (by simp) (by first | simpa using hownA.sl | simpa using hownA.sl.below (by (repeat' (first | (with_reducible exact Below.refl _ _) | (with_reducible assumption) | (with_reducible refine Below.al ?_ _) | (with_reducible refine Below.dr ?_) | (with_reducible refine Below.step ?_ (by assumption)) | (with_reducible refine Below.set ?_ ?_ _) | omega | (dsimp only; omega) | (simp; done) | (simp; omega))))) HRO.out HFA.out).mono ?_; rintro e wD ⟨rfl, hbD⟩; obtain ⟨hcD, hfD⟩ := bcell hbD; have hsD := hbD.size; (try simp at hsD); (try have hPD : P < wD.heap.size := by omega); (try have hPD1 : P < wD.heap.size + 1 := by omega); (try (have BZD := BZA.below hbD; have BZDa := BZD.c0; have BZDb := BZD.c1; have BZDc := BZD.c2; have BZDd := BZD.f0; have BZDe := BZD.f1; have BZDf := BZD.f2; have BZDg := BZD.lt)); (try (have BZE := B3.below (by first | exact b3_new _ _ | exact (b3_new _ _).below (below_drewN (Below.refl _ _) 1)) hbD; have BZEa := BZE.c0; have BZEb := BZE.c1; have BZEc := BZE.c2; have BZEd := BZE.f0; have BZEe := BZE.f1; have BZEf := BZE.f2; have BZEg := BZE.lt))) | skip))); (refine hK.out _ _ ?_ (fun hHeld => ?_)); (· ((try dsimp only); (first | (first | (go_simp; done) | (simp [*, go_sem, World.cell?_alloc_past]; done) | (simp [*, go_sem, World.cell?_alloc_past, World.cell?_setCell_far]; done)) | exact ⟨(World.cell?_alloc_some _ _ _ (by rw [hHeld.1]; rfl)).trans hHeld.1, (World.cell?_alloc_some _ _ _ (by rw [hHeld.2.1]; rfl)).trans hHeld.2.1, (World.cell?_alloc_some _ _ _ (by rw [hHeld.2.2]; rfl)).trans hHeld.2.2⟩ | exact ⟨(hbD.cell (p := ⟨P, 0, none⟩) (by first | omega | (simp; omega))).trans hHeld.1, (hbD.cell (p := ⟨P, 1, none⟩) (by first | omega | (simp; omega))).trans hHeld.2.1, (hbD.cell (p := ⟨P, 2, none⟩) (by first | omega | (simp; omega))).trans hHeld.2.2⟩ | exact ⟨(hbA.cell (p := ⟨P, 0, none⟩) (by first | omega | (simp; omega))).trans hHeld.1, (hbA.cell (p := ⟨P, 1, none⟩) (by first | omega | (simp; omega))).trans hHeld.2.1, (hbA.cell (p := ⟨P, 2, none⟩) (by first | omega | (simp; omega))).trans hHeld.2.2⟩ | trivial))); (clear hK K; (try simp only [Act.put, List.setIfInBounds_toArray, List.set_cons_zero, List.set_cons_succ]))))
          | (refine wpAnyH_done (by decide +kernel) ?_ _)
          | fail)
        all_goals go_wp2_with fail
        all_goals go_meet
        all_goals (first
          | exact ⟨_, rfl, rfl, Lib.hid (b3_newvT _ _ _ _ _), Lib.hid (by (repeat' (first | (with_reducible exact Below.refl _ _) | (with_reducible assumption) | (with_reducible refine Below.alloc ?_ ?_ _) | (with_reducible refine Below.drew ?_) | (with_reducible refine Below.stepG ?_ (by assumption) ?_) | (with_reducible refine Below.setCell ?_ ?_ _) | omega | (dsimp only; omega) | (simp; done) | (simp; omega))))⟩
          | exact ⟨_, rfl, rfl, Lib.hid (BZD.set 0 _ _), Lib.hid (by (repeat' (first | (with_reducible exact Below.refl _ _) | (with_reducible assumption) | (with_reducible refine Below.alloc ?_ ?_ _) | (with_reducible refine Below.drew ?_) | (with_reducible refine Below.stepG ?_ (by assumption) ?_) | (with_reducible refine Below.setCell ?_ ?_ _) | omega | (dsimp only; omega) | (simp; done) | (simp; omega))))⟩
          | exact ⟨_, rfl, rfl, Lib.hid (BZE.set 0 _ _), Lib.hid (by (repeat' (first | (with_reducible exact Below.refl _ _) | (with_reducible assumption) | (with_reducible refine Below.alloc ?_ ?_ _) | (with_reducible refine Below.drew ?_) | (with_reducible refine Below.stepG ?_ (by assumption) ?_) | (with_reducible refine Below.setCell ?_ ?_ _) | omega | (dsimp only; omega) | (simp; done) | (simp; omega))))⟩)
      case rest =>
        obtain ⟨b, rfl, rfl, HB3, HBX⟩ := hcut
        rw [HPA.out] at HB3
        have HGO := Lib.hid (goes_has HT.out nc)
        have c1 := HB3.out.c1
        have hbl := HB3.out.lt
        generalize (goesL R nc).1 = hop at *
        have HMX := Lib.hid (HMY.out.below HBX.out)
        have HAX := Lib.hid (fun x (hx : ma = some x) => (HMX.out.lt x.block (by rw [hx]; rfl)).2)
        have q0 := (HBX.out.cell (p := ⟨P, 0, none⟩) hPs).trans g0
        have q1 := (HBX.out.cell (p := ⟨P, 1, none⟩) hPs).trans g1
        have q2 := (HBX.out.cell (p := ⟨P, 2, none⟩) hPs).trans g2
        have hPx : P < wc.heap.size := Nat.lt_of_lt_of_le hPs HBX.out.size
        have HBW := Lib.hid (HBY.out.trans (HBX.out.mono HBY.out.size))
        have hml : ms.length ≤ 80 := Nat.le_trans HM.out.2.2.1 hpl
        clear g0 g1 g2 hPs HB3 HBX HBY HMY HRY HSl HRO HPA HT
        go_wp2_with fail
        go_loopw [14, 15] (fun v i wr => ∃ j : Nat, j ≤ ms.length ∧ i = .int .i64 j ∧ v = .bool (hasB false (ms.take j) nc) ∧ Hid (Below wc.heap.size wc wr)) (fun _ i _ => ms.length - (intOf i).toNat)
        case atStart => exact ⟨0, Nat.zero_le _, rfl, rfl, Below.refl _ _⟩
        case round =>
          obtain ⟨j, hj, rfl, rfl, HB⟩ := hrel
          have hzr := HB.out.size
          by_cases hlt : j < ms.length
          · obtain ⟨px, hx⟩ : ∃ s, ms[j]? = some s := ⟨_, List.getElem?_eq_getElem hlt⟩
            obtain ⟨g, off, rfl, hg, hgw, d0, d1, d2, d3⟩ := Sl.pf HMX.out.sl HB.out HAX.out hx
            have p0 := (HB.out.cell (p := ⟨P, 0, none⟩) hPx).trans q0
            have p1 := (HB.out.cell (p := ⟨P, 1, none⟩) hPx).trans q1
            have p2 := (HB.out.cell (p := ⟨P, 2, none⟩) hPx).trans q2
            have hPr : P < wr.heap.size := by omega
            have HA := Lib.hid (fun w => has_ok false px.1 px.2 nc w (HM.out.1.vp px (List.mem_of_getElem? hx)) HNF.out)
            have HTK := Lib.hid (show hasB false (ms.take (j + 1)) nc = (hasB false (ms.take j) nc || decide (cutN (wd false) nc px.2 = px.1)) by
              rw [List.take_add_one, hx]
              unfold hasB
              rw [List.any_append]
              simp)
            clear hx q0 q1 q2
            generalize hasB false (ms.take j) nc = hb at *
            generalize decide (cutN (wd false) nc px.2 = px.1) = is at *
            go_wp2_with fail
            refine wp_region_qb (by kernel_rfl) (by kernel_rfl) (fun kq => ?_)
            repeat (first | go_big_quiet_step ((with_reducible exact Calls.regrown_of (HA.out _))) | quiet_step ((with_reducible exact Calls.regrown_of (HA.out _))))
            clear kq
            refine wpQuiet_nil ?_; intro w6 hb6; (repeat (with_reducible (replace hb6 := Below.undrew hb6))); obtain ⟨hc6, hf6⟩ := bcell hb6; have hz6 := hb6.size; (repeat (first | rw [World.size_alloc] at hz6 | rw [World.size_drew] at hz6 | rw [World.size_setCell] at hz6)); (try have : w.heap.size < w6.heap.size := by omega); (try have : w.heap.size < w6.heap.size + 1 := by omega); (try have : w.heap.size < w6.heap.size + 1 + 1 := by omega); (try have : w.heap.size < w6.heap.size + 1 + 1 + 1 := by omega)
            have HB6 : Hid (Below wc.heap.size wc w6) := HB.out.trans (by (repeat' (first | (with_reducible exact Below.refl _ _) | (with_reducible assumption) | (with_reducible refine Below.alloc ?_ ?_ _) | (with_reducible refine Below.drew ?_) | (with_reducible refine Below.stepG ?_ (by assumption) ?_) | (with_reducible refine Below.setCell ?_ ?_ _) | omega | (dsimp only; omega) | (simp; done) | (simp; omega))))
            clear hb6 hc6 hf6 p0 p1 p2 d0 d1 d2 d3 HA
            cases hb
            · go_wp2_with fail
              go_roundw
              case rel => exact ⟨j + 1, by omega, by go_num, by rw [HTK.out]; simp, HB6⟩
              case measure => simp [intOf]; omega
            · go_wp2_with fail
              go_roundw
              case rel => exact ⟨j + 1, by omega, by go_num, by rw [HTK.out]; simp, HB6⟩
              case measure => simp [intOf]; omega
          · obtain rfl : j = ms.length := by omega
            rw [List.take_length]
            have e1 := (HB.out.cell (p := ⟨b, 1, none⟩) hbl).trans c1
            have hfin : hasB false ms nc = decide ((hop : Int) > 0) := by
              have h1 : hasB false ms nc = true ↔ 0 < hop := (hasB_iff HM.out.1.vp).trans ((HM.out.2.1 nc).trans (HPI.out.trans HGO.out.symm))
              by_cases h2 : 0 < hop
              · rw [h1.2 h2, decide_eq_true (by omega)]
              · rw [decide_eq_false (by omega)]
                exact Bool.eq_false_iff.2 fun h => h2 (h1.1 h)
            have HFI := Lib.hid hfin
            clear hfin
            generalize hasB false ms nc = hb at *
            rw [HFI.out]
            have HF := Lib.hid (HBW.out.trans (HB.out.mono HBW.out.size))
            go_wp2_with fail
            go_returns
            exact ⟨by simp, HF.out⟩
end Go.Proofs.Ytoecmoicaklbaaa
