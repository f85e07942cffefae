
/- TableUndone: the walk. -/
import Derived.Test.YticfcigkldkhmaaSame
set_option linter.unusedVariables false
set_option linter.unusedSimpArgs false
namespace Go.Proofs.Yticfcigkldkhmaa
open Go Go.RowKit Go.Sort Wc Wk


set_option maxRecDepth 100000 in
set_option maxHeartbeats 2000000 in
theorem tableUndone_walk (a0 : Option Addr) (len0 cap0 : Nat) (z0 : List RawJ) (p hp_ : Int) (w : World) (h0 : IsJobs w a0 len0 cap0 z0) (hp : -9223372036854775808 ≤ p ∧ p ≤ 9223372036854775807) (hk : -9223372036854775808 ≤ hp_ ∧ hp_ ≤ 9223372036854775807) :
    Calls Try.prog 10 #[.slice a0 len0 cap0, .int .i64 p, .int .i64 hp_] w fun e w' => e = .returned (.bool true) ∧ Below w.heap.size w w' := by
  have H0 := Lib.hid h0
  have PK := Lib.hid (fun w => picked_any hp_ 9 w (by decide) (by decide))
  have q0 := Int.emod_nonneg hp_ (show (9 : Int) ≠ 0 by decide)
  have q1 := Int.emod_lt_of_pos hp_ (show (0 : Int) < 9 by decide)
  obtain ⟨h, hh⟩ := Int.eq_ofNat_of_zero_le q0
  rw [hh] at PK q1
  have PR := Lib.hid (fun b w hc => pres_one b p w hc hp)
  have hVP := Lib.hid (pres_vp p)
  clear h0 q0 hh
  go_enter Try.func10, Try.ntmps10
  go_wp2_with fail
  refine (acts_any a0 len0 cap0 z0 60 w H0.out (by decide)).mono ?_
  rintro e w1 ⟨v1, rfl, HO1', hb1⟩
  have hz1 := hb1.size
  have HFT := Lib.hid (fun x (hx : x ∈ actsOf z0 60) => actsOf_fit x hx)
  have hn : (actsOf z0 60).length ≤ 60 := actsOf_len z0 60
  generalize actsOf z0 60 = al at *
  obtain ⟨va, vc, rfl⟩ := HO1'.shape
  rw [List.length_map] at HO1' ⊢
  have HS1 := Lib.hid HO1'.sl
  have HW1 := Lib.hid hb1
  have hlw1 := HO1'.sl.lens.2.1
  have hlw2 := HO1'.sl.lens.2.2
  clear HO1' hb1
  obtain ⟨N, hN⟩ : ∃ N, N = al.length := ⟨_, rfl⟩
  rw [← hN] at HS1 hn hlw1 ⊢
  have HN := Lib.hid hN
  clear hN
  go_wp2_with (first | ((with_reducible refine (PR.out _ _ (by first | (go_simp; done) | simp)).mono ?_); rintro e w2 ⟨g, gc, rfl, g1, g2, g3, g4, g5, g6, hb2⟩; (repeat (with_reducible (replace hb2 := Below.undrew hb2))); obtain ⟨hc2, hf2⟩ := bcell hb2; have hz2 := hb2.size; (repeat (first | rw [World.size_alloc] at hz2 | rw [World.size_drew] at hz2 | rw [World.size_setCell] at hz2)); (try have : w.heap.size < w2.heap.size := by omega); (try have : w.heap.size < w2.heap.size + 1 := by omega); (try have : w.heap.size < w2.heap.size + 1 + 1 := by omega); (try have : w.heap.size < w2.heap.size + 1 + 1 + 1 := by omega); (try have : w1.heap.size < w2.heap.size := by omega); (try have : w1.heap.size < w2.heap.size + 1 := by omega); (try have : w1.heap.size < w2.heap.size + 1 + 1 := by omega); (try have : w1.heap.size < w2.heap.size + 1 + 1 + 1 := by omega)))
  have HB2 := Lib.hid ((Below.refl w1.heap.size w1).alloc (Nat.le_refl _) (.cells #[.int .i64 p] 3) |>.trans (hb2.mono (by simp)))
  clear hb2 hc2 hf2 g1 g2 g3 g4 g5 g6
  generalize presN p = qn at *
  generalize presK p = qk at *
  have HP0 : PX (w2.alloc (.cells #[.bool false, .int .u64 (hiOf false qn), .int .u64 (loOf qn), .int .i64 qk] 33)) w2.heap.size qn qk := px_new w2 qn qk 33
  have HBW : Below w1.heap.size w1 (w2.alloc (.cells #[.bool false, .int .u64 (hiOf false qn), .int .u64 (loOf qn), .int .i64 qk] 33)) := HB2.out.alloc (by omega) _
  obtain ⟨P, hP⟩ : ∃ P, P = w2.heap.size := ⟨_, rfl⟩
  rw [← hP] at HP0 ⊢
  clear hP hz2 HB2
  generalize w2.alloc (.cells #[.bool false, .int .u64 (hiOf false qn), .int .u64 (loOf qn), .int .i64 qk] 33) = W at *
  have hzW := HBW.size
  have HS2 := Lib.hid (HS1.out.below HBW)
  refine (routesOf_any va vc N al W HN.out HS2.out (by have := HN.out; omega) HFT.out).mono ?_
  rintro e w3 ⟨v3, rfl, HO3, hb3⟩
  have HT := Lib.hid (tend_ok TabOk.nil HFT.out)
  have HU := Lib.hid (undone HT.out (h := 1 + h) hVP.out (by omega) (by omega))
  have HTE := Lib.hid (fun l => tend_app [] al l)
  generalize tend [] al = L at *
  obtain ⟨ra, rc, rfl⟩ := HO3.shape
  rw [List.length_map] at HO3 ⊢
  have HR := Lib.hid HO3.sl
  have hr1 := HO3.sl.lens.2.1
  have hr2 := HO3.sl.lens.2.2
  have HP3 := Lib.hid (HP0.below hb3)
  have HS3 := Lib.hid (HS2.out.below hb3)
  have HW3 := Lib.hid (HW1.out.trans ((HBW.trans (hb3.mono hzW)).mono hz1))
  have hP3 := HP3.out.lt
  have h60 : L.length ≤ 60 := HT.out.len
  clear HO3 hb3 HBW HP0 HS1 HS2 HW1
  go_wp2_with fail
  go_loopw [11, 12] (fun hv i wr => ∃ m : Nat, m ≤ L.length ∧ i = .int .i64 m ∧ hv = .int .i64 (hasL (L.take m) qn qk : Nat) ∧ Hid (Below w3.heap.size w3 wr)) (fun _ i _ => L.length - (intOf i).toNat)
  case atStart => exact ⟨0, Nat.zero_le _, rfl, rfl, Below.refl _ _⟩
  case round =>
    obtain ⟨m, hm, rfl, rfl, HB⟩ := hrel
    have hzr := HB.out.size
    by_cases hlt : m < L.length
    · obtain ⟨x, hx⟩ : ∃ x, L[m]? = some x := ⟨_, List.getElem?_eq_getElem hlt⟩
      have etk : L.take (m + 1) = L.take m ++ [x] := by rw [List.take_add_one, hx]; rfl
      have HS := Lib.hid (hasL_snoc (l := L.take m) (x := x) (by rw [← etk]; exact HT.out.srt.sublist (List.take_sublist _ _)) (by rw [← etk]; exact fun y hy => HT.out.hops y (List.mem_of_mem_take hy)) qn qk)
      rw [← etk] at HS
      have hvx := HT.out.vp x (List.mem_of_getElem? hx)
      obtain ⟨b, off, rfl, hb, d0, d1, d2, d3, d4⟩ := Sl.route HR.out HB.out hx
      have hpx := HP3.out.below HB.out
      have p0 := hpx.c0
      have p1 := hpx.c1
      have p2 := hpx.c2
      have p3 := hpx.c3
      clear hx etk hpx
      generalize hasL (L.take m) qn qk = hv at *
      by_cases hs : x.1 = qn ∧ x.2.1 = qk
      · have HSS := Lib.hid hs
        rw [hs.1] at d1 d2
        rw [hs.2] at d3
        clear hs hvx
        go_wp2_with fail
        go_quiet (fail)
        go_wp2
        go_roundw
        case rel => exact ⟨m + 1, by omega, by go_num, by rw [HS.out, if_pos HSS.out], below_drewN HB.out _⟩
        case measure => simp [intOf]; omega
      · have HSS := Lib.hid hs
        have hne : (x.2.1 = qk ∧ ¬ loOf x.1 = loOf qn) ∨ ¬ ((x.2.1 : Int) = qk) := by
          by_cases hkk : x.2.1 = qk
          · refine .inl ⟨hkk, fun e => hs ⟨?_, hkk⟩⟩
            rw [loOf_false hvx.1, loOf_false hVP.out.1] at e
            omega
          · exact .inr (by omega)
        clear hvx
        rcases hne with ⟨e, hne⟩ | hne
        · rw [e] at d3
          clear e hs
          go_wp2_with fail
          go_quiet (fail)
          go_wp2
          go_roundw
          case rel => exact ⟨m + 1, by omega, by go_num, by rw [HS.out, if_neg HSS.out], below_drewN HB.out _⟩
          case measure => simp [intOf]; omega
        · clear hs
          go_wp2_with fail
          go_quiet (fail)
          go_wp2
          go_roundw
          case rel => exact ⟨m + 1, by omega, by go_num, by rw [HS.out, if_neg HSS.out], below_drewN HB.out _⟩
          case measure => simp [intOf]; omega
    · obtain rfl : m = L.length := by omega
      rw [List.take_of_length_le (Nat.le_refl L.length)]
      have HRr := Lib.hid (HR.out.below HB.out)
      have HPr := Lib.hid (HP3.out.below HB.out)
      have HSr := Lib.hid (HS3.out.below HB.out)
      have HWr := Lib.hid (HW3.out.trans (HB.out.mono HW3.out.size))
      have hPr := HPr.out.lt
      have p0 := HPr.out.c0
      have p1 := HPr.out.c1
      have p2 := HPr.out.c2
      have p3 := HPr.out.c3
      have hd9 := HT.out
      have HD : Hid (hasL L qn qk ≤ 999) := Lib.hid (by
        by_cases hz : hasL L qn qk = 0
        · omega
        · exact HT.out.top _ (mem_hasL hz))
      clear hd9 HB HR HP3 HS3 HW3
      generalize hasL L qn qk = hv at *
      obtain ⟨Y, hY⟩ : ∃ Y : World, Y = wr := ⟨_, rfl⟩
      subst hY
      go_upto_region 10 with fail
      go_cut [13] (fun v13 wx => ∃ a13 c13, v13 = .slice a13 (N + 1) c13 ∧ Hid (Wk.Own wx Y.heap.size 35 9 (.slice a13 (N + 1) c13) ((al ++ [(⟨1, qn, qk, 1 + h, 0⟩ : ActD)]).map actCells)) ∧ Hid (Below Y.heap.size Y wx))
      case first =>
        have ew1 : IntKind.i64.wrap (1 + (h : Int)) = 1 + (h : Int) := IntWalk.i64_in _ (by omega)
        refine wp_region_held_drew (S := (fun w' => w'.cell? ⟨P, 0, none⟩ = some (.bool false) ∧ w'.cell? ⟨P, 1, none⟩ = some (.int .u64 (hiOf false qn)) ∧ w'.cell? ⟨P, 2, none⟩ = some (.int .u64 (loOf qn)) ∧ w'.cell? ⟨P, 3, none⟩ = some (.int .i64 qk))) (by kernel_rfl) ?rwS0 (fun hHeld => ?rwR0)
        case rwS0 => ((try dsimp only); (first | (first | (go_simp; done) | (simp [*, go_sem, World.cell?_alloc_past]; done) | (simp [*, go_sem, World.cell?_alloc_past, World.cell?_setCell_far]; done)) | exact ⟨(World.cell?_alloc_some _ _ _ (by rw [hHeld.1]; rfl)).trans hHeld.1, (World.cell?_alloc_some _ _ _ (by rw [hHeld.2.1]; rfl)).trans hHeld.2.1, (World.cell?_alloc_some _ _ _ (by rw [hHeld.2.2.1]; rfl)).trans hHeld.2.2.1, (World.cell?_alloc_some _ _ _ (by rw [hHeld.2.2.2]; rfl)).trans hHeld.2.2.2⟩ | exact ⟨(hbC.cell (p := ⟨P, 0, none⟩) (by simp; omega)).trans hHeld.1, (hbC.cell (p := ⟨P, 1, none⟩) (by simp; omega)).trans hHeld.2.1, (hbC.cell (p := ⟨P, 2, none⟩) (by simp; omega)).trans hHeld.2.2.1, (hbC.cell (p := ⟨P, 3, none⟩) (by simp; omega)).trans hHeld.2.2.2⟩ | exact ⟨(hbA.cell (p := ⟨P, 0, none⟩) (by simp; omega)).trans hHeld.1, (hbA.cell (p := ⟨P, 1, none⟩) (by simp; omega)).trans hHeld.2.1, (hbA.cell (p := ⟨P, 2, none⟩) (by simp; omega)).trans hHeld.2.2.1, (hbA.cell (p := ⟨P, 3, none⟩) (by simp; omega)).trans hHeld.2.2.2⟩))
        (refine wpAnyH_take (i := 0) (oi := _) (v := ?_) (by simp only [List.getElem?_toArray, List.getElem?_cons_zero, List.getElem?_cons_succ]; rfl) (by kernel_rfl) (by decide +kernel) (by decide +kernel) (by exact fun _ _ _ h => h) (Or.inl ⟨by rfl, ?_⟩) (by assumption) ?_; rotate_left; (· ((intro w hSw); (try dsimp only at hSw); go_simp; (try with_reducible rfl))); (try simp only [Act.put, List.setIfInBounds_toArray, List.set_cons_zero, List.set_cons_succ]))
        (refine wpAnyH_take (i := 2) (oi := _) (v := ?_) (by simp only [List.getElem?_toArray, List.getElem?_cons_zero, List.getElem?_cons_succ]; rfl) (by kernel_rfl) (by decide +kernel) (by decide +kernel) (by exact fun _ _ _ h => h) (Or.inl ⟨by rfl, ?_⟩) (by assumption) ?_; rotate_left; (· ((intro w hSw); (try dsimp only at hSw); go_simp; (try with_reducible rfl))); (try simp only [Act.put, List.setIfInBounds_toArray, List.set_cons_zero, List.set_cons_succ]))
        (refine wpAnyH_take (i := 3) (oi := _) (v := ?_) (by simp only [List.getElem?_toArray, List.getElem?_cons_zero, List.getElem?_cons_succ]; rfl) (by kernel_rfl) (by decide +kernel) (by decide +kernel) (by exact fun _ _ _ h => h) (Or.inl ⟨by rfl, ?_⟩) (by assumption) ?_; rotate_left; (· ((intro w hSw); (try dsimp only at hSw); go_simp; (try with_reducible rfl))); (try simp only [Act.put, List.setIfInBounds_toArray, List.set_cons_zero, List.set_cons_succ]))
        repeat' (first
          | (refine wpAnyH_take (i := 5) (oi := _) (v := ?_) (by simp only [List.getElem?_toArray, List.getElem?_cons_zero, List.getElem?_cons_succ]; rfl) (by kernel_rfl) (by decide +kernel) (by decide +kernel) (by exact fun _ _ _ h => h) (Or.inl ⟨by rfl, ?_⟩) (by assumption) ?_; rotate_left; (· ((intro w hSw); (try dsimp only at hSw); go_simp; (try with_reducible rfl))); (try simp only [Act.put, List.setIfInBounds_toArray, List.set_cons_zero, List.set_cons_succ]))
          | (refine wpAnyH_take (i := 6) (oi := _) (v := ?_) (by simp only [List.getElem?_toArray, List.getElem?_cons_zero, List.getElem?_cons_succ]; rfl) (by kernel_rfl) (by decide +kernel) (by decide +kernel) (by exact fun _ _ _ h => h) (Or.inl ⟨by rfl, ?_⟩) (by assumption) ?_; rotate_left; (· ((intro w hSw); (try dsimp only at hSw); go_simp; (try with_reducible rfl))); (try simp only [Act.put, List.setIfInBounds_toArray, List.set_cons_zero, List.set_cons_succ]))
          | (refine wpAnyH_take (i := 9) (oi := _) (v := ?_) (by simp only [List.getElem?_toArray, List.getElem?_cons_zero, List.getElem?_cons_succ]; rfl) (by kernel_rfl) (by decide +kernel) (by decide +kernel) (by exact fun _ _ _ h => h) (Or.inl ⟨by rfl, ?_⟩) (by assumption) ?_; rotate_left; (· ((intro w hSw); (try dsimp only at hSw); go_simp; (try with_reducible rfl))); (try simp only [Act.put, List.setIfInBounds_toArray, List.set_cons_zero, List.set_cons_succ]))
          | (refine wpAnyH_ready (rs := [1, 4]) (by decide +kernel) (by simp) (AllReadyH.cons (by simp only [List.getElem?_toArray, List.getElem?_cons_zero, List.getElem?_cons_succ]; rfl) (fun K hK => ?_) (AllReadyH.cons (by simp only [List.getElem?_toArray, List.getElem?_cons_zero, List.getElem?_cons_succ]; rfl) (fun K hK => ?_) AllReadyH.nil)); all_goals ((first | (refine step_append_any rfl (.const (.slice none 0 0)) (.tmp 46) 39 35 9 72 _ rfl eiAct _ (.slice none 0 0) [] rfl (Wk.Own.nil _ _ _ _) (.slice va N vc) (al.map actCells) rfl (HSr.out.below (by (repeat' (first | (with_reducible exact Below.refl _ _) | (with_reducible assumption) | (with_reducible refine Below.al ?_ _) | (with_reducible refine Below.dr ?_) | (with_reducible refine Below.step ?_ (by assumption)) | (with_reducible refine Below.set ?_ ?_ _) | omega | (dsimp only; omega) | (simp; done) | (simp; omega))))) (by intro c hc; obtain ⟨r, _, rfl⟩ := List.mem_map.1 hc; exact actCells_one r) (by have := HN.out; simp; omega) (by decide) (Nat.le_refl _) ?_; intro vA wA hownA hbA; obtain ⟨hcA, hfA⟩ := bcellB hbA; have hsA := hbA.size; (try simp at hsA)) | (refine step_append_any rfl (.tmp 47) (.tmp 53) 39 35 9 72 _ rfl eiAct _ vA ([] ++ al.map actCells) rfl (hownA.alloc _) (.slice (some ⟨_, 0, none⟩) 1 1) [actCells ⟨1, qn, qk, 1 + h, 0⟩] rfl (sl_new (c := actCells ⟨1, qn, qk, 1 + h, 0⟩) (by first | rfl | simp) rfl) (by intro c hc; simp at hc; subst hc; exact actCells_one _) (by have := HN.out; simp; omega) (by decide) (by have := hbA.size; simp at this ⊢; omega) ?_; intro vC wC hownC hbC; obtain ⟨hcC, hfC⟩ := bcellB hbC; have hsC := hbC.size; (try simp at hsC); obtain ⟨aC, cC, hshC⟩ := hownC.shape; subst hshC) | (refine step_append_any rfl (.tmp 47) (.tmp 53) 39 35 9 72 _ rfl eiAct _ vA ([] ++ al.map actCells) rfl hownA (.slice (some ⟨_, 0, none⟩) 1 1) [actCells ⟨1, qn, qk, 1 + h, 0⟩] rfl (Sl.below (sl_new (c := actCells ⟨1, qn, qk, 1 + h, 0⟩) rfl rfl) hbA) (by intro c hc; simp at hc; subst hc; exact actCells_one _) (by have := HN.out; simp; omega) (by decide) (by have := hbA.size; simp at this ⊢; omega) ?_; intro vC wC hownC hbC; obtain ⟨hcC, hfC⟩ := bcellB hbC; have hsC := hbC.size; (try simp at hsC); obtain ⟨aC, cC, hshC⟩ := hownC.shape; subst hshC) | (refine step_append_any rfl (.tmp 47) (.tmp 53) 39 35 9 72 _ rfl eiAct _ vA ([] ++ al.map actCells) rfl hownA (.slice (some ⟨_, 0, none⟩) 1 1) [actCells ⟨1, qn, qk, 1 + h, 0⟩] rfl (Sl.below (Sl.below (sl_new (c := actCells ⟨1, qn, qk, 1 + h, 0⟩) rfl rfl) (below_drewN (Below.refl _ _) 1)) hbA) (by intro c hc; simp at hc; subst hc; exact actCells_one _) (by have := HN.out; simp; omega) (by decide) (by have := hbA.size; simp at this ⊢; omega) ?_; intro vC wC hownC hbC; obtain ⟨hcC, hfC⟩ := bcellB hbC; have hsC := hbC.size; (try simp at hsC); obtain ⟨aC, cC, hshC⟩ := hownC.shape; subst hshC) | (go_simp; (first | ((with_reducible refine (PK.out _).mono ?_); rintro e w' ⟨rfl, rfl⟩) | skip))); (refine hK.out _ _ ?_ (fun hHeld => ?_)); (· ((try dsimp only); (first | (first | (go_simp; done) | (simp [*, go_sem, World.cell?_alloc_past]; done) | (simp [*, go_sem, World.cell?_alloc_past, World.cell?_setCell_far]; done)) | exact ⟨(World.cell?_alloc_some _ _ _ (by rw [hHeld.1]; rfl)).trans hHeld.1, (World.cell?_alloc_some _ _ _ (by rw [hHeld.2.1]; rfl)).trans hHeld.2.1, (World.cell?_alloc_some _ _ _ (by rw [hHeld.2.2.1]; rfl)).trans hHeld.2.2.1, (World.cell?_alloc_some _ _ _ (by rw [hHeld.2.2.2]; rfl)).trans hHeld.2.2.2⟩ | exact ⟨(hbC.cell (p := ⟨P, 0, none⟩) (by simp; omega)).trans hHeld.1, (hbC.cell (p := ⟨P, 1, none⟩) (by simp; omega)).trans hHeld.2.1, (hbC.cell (p := ⟨P, 2, none⟩) (by simp; omega)).trans hHeld.2.2.1, (hbC.cell (p := ⟨P, 3, none⟩) (by simp; omega)).trans hHeld.2.2.2⟩ | exact ⟨(hbA.cell (p := ⟨P, 0, none⟩) (by simp; omega)).trans hHeld.1, (hbA.cell (p := ⟨P, 1, none⟩) (by simp; omega)).trans hHeld.2.1, (hbA.cell (p := ⟨P, 2, none⟩) (by simp; omega)).trans hHeld.2.2.1, (hbA.cell (p := ⟨P, 3, none⟩) (by simp; omega)).trans hHeld.2.2.2⟩))); (clear hK K; (try simp only [Act.put, List.setIfInBounds_toArray, List.set_cons_zero, List.set_cons_succ]))))
          | (refine wpAnyH_ready (rs := [1]) (by decide +kernel) (by simp) (AllReadyH.cons (by simp only [List.getElem?_toArray, List.getElem?_cons_zero, List.getElem?_cons_succ]; rfl) (fun K hK => ?_) AllReadyH.nil); all_goals ((first | (refine step_append_any rfl (.const (.slice none 0 0)) (.tmp 46) 39 35 9 72 _ rfl eiAct _ (.slice none 0 0) [] rfl (Wk.Own.nil _ _ _ _) (.slice va N vc) (al.map actCells) rfl (HSr.out.below (by (repeat' (first | (with_reducible exact Below.refl _ _) | (with_reducible assumption) | (with_reducible refine Below.al ?_ _) | (with_reducible refine Below.dr ?_) | (with_reducible refine Below.step ?_ (by assumption)) | (with_reducible refine Below.set ?_ ?_ _) | omega | (dsimp only; omega) | (simp; done) | (simp; omega))))) (by intro c hc; obtain ⟨r, _, rfl⟩ := List.mem_map.1 hc; exact actCells_one r) (by have := HN.out; simp; omega) (by decide) (Nat.le_refl _) ?_; intro vA wA hownA hbA; obtain ⟨hcA, hfA⟩ := bcellB hbA; have hsA := hbA.size; (try simp at hsA)) | (refine step_append_any rfl (.tmp 47) (.tmp 53) 39 35 9 72 _ rfl eiAct _ vA ([] ++ al.map actCells) rfl (hownA.alloc _) (.slice (some ⟨_, 0, none⟩) 1 1) [actCells ⟨1, qn, qk, 1 + h, 0⟩] rfl (sl_new (c := actCells ⟨1, qn, qk, 1 + h, 0⟩) (by first | rfl | simp) rfl) (by intro c hc; simp at hc; subst hc; exact actCells_one _) (by have := HN.out; simp; omega) (by decide) (by have := hbA.size; simp at this ⊢; omega) ?_; intro vC wC hownC hbC; obtain ⟨hcC, hfC⟩ := bcellB hbC; have hsC := hbC.size; (try simp at hsC); obtain ⟨aC, cC, hshC⟩ := hownC.shape; subst hshC) | (refine step_append_any rfl (.tmp 47) (.tmp 53) 39 35 9 72 _ rfl eiAct _ vA ([] ++ al.map actCells) rfl hownA (.slice (some ⟨_, 0, none⟩) 1 1) [actCells ⟨1, qn, qk, 1 + h, 0⟩] rfl (Sl.below (sl_new (c := actCells ⟨1, qn, qk, 1 + h, 0⟩) rfl rfl) hbA) (by intro c hc; simp at hc; subst hc; exact actCells_one _) (by have := HN.out; simp; omega) (by decide) (by have := hbA.size; simp at this ⊢; omega) ?_; intro vC wC hownC hbC; obtain ⟨hcC, hfC⟩ := bcellB hbC; have hsC := hbC.size; (try simp at hsC); obtain ⟨aC, cC, hshC⟩ := hownC.shape; subst hshC) | (refine step_append_any rfl (.tmp 47) (.tmp 53) 39 35 9 72 _ rfl eiAct _ vA ([] ++ al.map actCells) rfl hownA (.slice (some ⟨_, 0, none⟩) 1 1) [actCells ⟨1, qn, qk, 1 + h, 0⟩] rfl (Sl.below (Sl.below (sl_new (c := actCells ⟨1, qn, qk, 1 + h, 0⟩) rfl rfl) (below_drewN (Below.refl _ _) 1)) hbA) (by intro c hc; simp at hc; subst hc; exact actCells_one _) (by have := HN.out; simp; omega) (by decide) (by have := hbA.size; simp at this ⊢; omega) ?_; intro vC wC hownC hbC; obtain ⟨hcC, hfC⟩ := bcellB hbC; have hsC := hbC.size; (try simp at hsC); obtain ⟨aC, cC, hshC⟩ := hownC.shape; subst hshC) | (go_simp; (first | ((with_reducible refine (PK.out _).mono ?_); rintro e w' ⟨rfl, rfl⟩) | skip))); (refine hK.out _ _ ?_ (fun hHeld => ?_)); (· ((try dsimp only); (first | (first | (go_simp; done) | (simp [*, go_sem, World.cell?_alloc_past]; done) | (simp [*, go_sem, World.cell?_alloc_past, World.cell?_setCell_far]; done)) | exact ⟨(World.cell?_alloc_some _ _ _ (by rw [hHeld.1]; rfl)).trans hHeld.1, (World.cell?_alloc_some _ _ _ (by rw [hHeld.2.1]; rfl)).trans hHeld.2.1, (World.cell?_alloc_some _ _ _ (by rw [hHeld.2.2.1]; rfl)).trans hHeld.2.2.1, (World.cell?_alloc_some _ _ _ (by rw [hHeld.2.2.2]; rfl)).trans hHeld.2.2.2⟩ | exact ⟨(hbC.cell (p := ⟨P, 0, none⟩) (by simp; omega)).trans hHeld.1, (hbC.cell (p := ⟨P, 1, none⟩) (by simp; omega)).trans hHeld.2.1, (hbC.cell (p := ⟨P, 2, none⟩) (by simp; omega)).trans hHeld.2.2.1, (hbC.cell (p := ⟨P, 3, none⟩) (by simp; omega)).trans hHeld.2.2.2⟩ | exact ⟨(hbA.cell (p := ⟨P, 0, none⟩) (by simp; omega)).trans hHeld.1, (hbA.cell (p := ⟨P, 1, none⟩) (by simp; omega)).trans hHeld.2.1, (hbA.cell (p := ⟨P, 2, none⟩) (by simp; omega)).trans hHeld.2.2.1, (hbA.cell (p := ⟨P, 3, none⟩) (by simp; omega)).trans hHeld.2.2.2⟩))); (clear hK K; (try simp only [Act.put, List.setIfInBounds_toArray, List.set_cons_zero, List.set_cons_succ]))))
          | (refine wpAnyH_ready (rs := [4]) (by decide +kernel) (by simp) (AllReadyH.cons (by simp only [List.getElem?_toArray, List.getElem?_cons_zero, List.getElem?_cons_succ]; rfl) (fun K hK => ?_) AllReadyH.nil); all_goals ((first | (refine step_append_any rfl (.const (.slice none 0 0)) (.tmp 46) 39 35 9 72 _ rfl eiAct _ (.slice none 0 0) [] rfl (Wk.Own.nil _ _ _ _) (.slice va N vc) (al.map actCells) rfl (HSr.out.below (by (repeat' (first | (with_reducible exact Below.refl _ _) | (with_reducible assumption) | (with_reducible refine Below.al ?_ _) | (with_reducible refine Below.dr ?_) | (with_reducible refine Below.step ?_ (by assumption)) | (with_reducible refine Below.set ?_ ?_ _) | omega | (dsimp only; omega) | (simp; done) | (simp; omega))))) (by intro c hc; obtain ⟨r, _, rfl⟩ := List.mem_map.1 hc; exact actCells_one r) (by have := HN.out; simp; omega) (by decide) (Nat.le_refl _) ?_; intro vA wA hownA hbA; obtain ⟨hcA, hfA⟩ := bcellB hbA; have hsA := hbA.size; (try simp at hsA)) | (refine step_append_any rfl (.tmp 47) (.tmp 53) 39 35 9 72 _ rfl eiAct _ vA ([] ++ al.map actCells) rfl (hownA.alloc _) (.slice (some ⟨_, 0, none⟩) 1 1) [actCells ⟨1, qn, qk, 1 + h, 0⟩] rfl (sl_new (c := actCells ⟨1, qn, qk, 1 + h, 0⟩) (by first | rfl | simp) rfl) (by intro c hc; simp at hc; subst hc; exact actCells_one _) (by have := HN.out; simp; omega) (by decide) (by have := hbA.size; simp at this ⊢; omega) ?_; intro vC wC hownC hbC; obtain ⟨hcC, hfC⟩ := bcellB hbC; have hsC := hbC.size; (try simp at hsC); obtain ⟨aC, cC, hshC⟩ := hownC.shape; subst hshC) | (refine step_append_any rfl (.tmp 47) (.tmp 53) 39 35 9 72 _ rfl eiAct _ vA ([] ++ al.map actCells) rfl hownA (.slice (some ⟨_, 0, none⟩) 1 1) [actCells ⟨1, qn, qk, 1 + h, 0⟩] rfl (Sl.below (sl_new (c := actCells ⟨1, qn, qk, 1 + h, 0⟩) rfl rfl) hbA) (by intro c hc; simp at hc; subst hc; exact actCells_one _) (by have := HN.out; simp; omega) (by decide) (by have := hbA.size; simp at this ⊢; omega) ?_; intro vC wC hownC hbC; obtain ⟨hcC, hfC⟩ := bcellB hbC; have hsC := hbC.size; (try simp at hsC); obtain ⟨aC, cC, hshC⟩ := hownC.shape; subst hshC) | (refine step_append_any rfl (.tmp 47) (.tmp 53) 39 35 9 72 _ rfl eiAct _ vA ([] ++ al.map actCells) rfl hownA (.slice (some ⟨_, 0, none⟩) 1 1) [actCells ⟨1, qn, qk, 1 + h, 0⟩] rfl (Sl.below (Sl.below (sl_new (c := actCells ⟨1, qn, qk, 1 + h, 0⟩) rfl rfl) (below_drewN (Below.refl _ _) 1)) hbA) (by intro c hc; simp at hc; subst hc; exact actCells_one _) (by have := HN.out; simp; omega) (by decide) (by have := hbA.size; simp at this ⊢; omega) ?_; intro vC wC hownC hbC; obtain ⟨hcC, hfC⟩ := bcellB hbC; have hsC := hbC.size; (try simp at hsC); obtain ⟨aC, cC, hshC⟩ := hownC.shape; subst hshC) | (go_simp; (first | ((with_reducible refine (PK.out _).mono ?_); rintro e w' ⟨rfl, rfl⟩) | skip))); (refine hK.out _ _ ?_ (fun hHeld => ?_)); (· ((try dsimp only); (first | (first | (go_simp; done) | (simp [*, go_sem, World.cell?_alloc_past]; done) | (simp [*, go_sem, World.cell?_alloc_past, World.cell?_setCell_far]; done)) | exact ⟨(World.cell?_alloc_some _ _ _ (by rw [hHeld.1]; rfl)).trans hHeld.1, (World.cell?_alloc_some _ _ _ (by rw [hHeld.2.1]; rfl)).trans hHeld.2.1, (World.cell?_alloc_some _ _ _ (by rw [hHeld.2.2.1]; rfl)).trans hHeld.2.2.1, (World.cell?_alloc_some _ _ _ (by rw [hHeld.2.2.2]; rfl)).trans hHeld.2.2.2⟩ | exact ⟨(hbC.cell (p := ⟨P, 0, none⟩) (by simp; omega)).trans hHeld.1, (hbC.cell (p := ⟨P, 1, none⟩) (by simp; omega)).trans hHeld.2.1, (hbC.cell (p := ⟨P, 2, none⟩) (by simp; omega)).trans hHeld.2.2.1, (hbC.cell (p := ⟨P, 3, none⟩) (by simp; omega)).trans hHeld.2.2.2⟩ | exact ⟨(hbA.cell (p := ⟨P, 0, none⟩) (by simp; omega)).trans hHeld.1, (hbA.cell (p := ⟨P, 1, none⟩) (by simp; omega)).trans hHeld.2.1, (hbA.cell (p := ⟨P, 2, none⟩) (by simp; omega)).trans hHeld.2.2.1, (hbA.cell (p := ⟨P, 3, none⟩) (by simp; omega)).trans hHeld.2.2.2⟩))); (clear hK K; (try simp only [Act.put, List.setIfInBounds_toArray, List.set_cons_zero, List.set_cons_succ]))))
          | (refine wpAnyH_ready (rs := [1, 7]) (by decide +kernel) (by simp) (AllReadyH.cons (by simp only [List.getElem?_toArray, List.getElem?_cons_zero, List.getElem?_cons_succ]; rfl) (fun K hK => ?_) (AllReadyH.cons (by simp only [List.getElem?_toArray, List.getElem?_cons_zero, List.getElem?_cons_succ]; rfl) (fun K hK => ?_) AllReadyH.nil)); all_goals ((first | (refine step_append_any rfl (.const (.slice none 0 0)) (.tmp 46) 39 35 9 72 _ rfl eiAct _ (.slice none 0 0) [] rfl (Wk.Own.nil _ _ _ _) (.slice va N vc) (al.map actCells) rfl (HSr.out.below (by (repeat' (first | (with_reducible exact Below.refl _ _) | (with_reducible assumption) | (with_reducible refine Below.al ?_ _) | (with_reducible refine Below.dr ?_) | (with_reducible refine Below.step ?_ (by assumption)) | (with_reducible refine Below.set ?_ ?_ _) | omega | (dsimp only; omega) | (simp; done) | (simp; omega))))) (by intro c hc; obtain ⟨r, _, rfl⟩ := List.mem_map.1 hc; exact actCells_one r) (by have := HN.out; simp; omega) (by decide) (Nat.le_refl _) ?_; intro vA wA hownA hbA; obtain ⟨hcA, hfA⟩ := bcellB hbA; have hsA := hbA.size; (try simp at hsA)) | (refine step_append_any rfl (.tmp 47) (.tmp 53) 39 35 9 72 _ rfl eiAct _ vA ([] ++ al.map actCells) rfl (hownA.alloc _) (.slice (some ⟨_, 0, none⟩) 1 1) [actCells ⟨1, qn, qk, 1 + h, 0⟩] rfl (sl_new (c := actCells ⟨1, qn, qk, 1 + h, 0⟩) (by first | rfl | simp) rfl) (by intro c hc; simp at hc; subst hc; exact actCells_one _) (by have := HN.out; simp; omega) (by decide) (by have := hbA.size; simp at this ⊢; omega) ?_; intro vC wC hownC hbC; obtain ⟨hcC, hfC⟩ := bcellB hbC; have hsC := hbC.size; (try simp at hsC); obtain ⟨aC, cC, hshC⟩ := hownC.shape; subst hshC) | (refine step_append_any rfl (.tmp 47) (.tmp 53) 39 35 9 72 _ rfl eiAct _ vA ([] ++ al.map actCells) rfl hownA (.slice (some ⟨_, 0, none⟩) 1 1) [actCells ⟨1, qn, qk, 1 + h, 0⟩] rfl (Sl.below (sl_new (c := actCells ⟨1, qn, qk, 1 + h, 0⟩) rfl rfl) hbA) (by intro c hc; simp at hc; subst hc; exact actCells_one _) (by have := HN.out; simp; omega) (by decide) (by have := hbA.size; simp at this ⊢; omega) ?_; intro vC wC hownC hbC; obtain ⟨hcC, hfC⟩ := bcellB hbC; have hsC := hbC.size; (try simp at hsC); obtain ⟨aC, cC, hshC⟩ := hownC.shape; subst hshC) | (refine step_append_any rfl (.tmp 47) (.tmp 53) 39 35 9 72 _ rfl eiAct _ vA ([] ++ al.map actCells) rfl hownA (.slice (some ⟨_, 0, none⟩) 1 1) [actCells ⟨1, qn, qk, 1 + h, 0⟩] rfl (Sl.below (Sl.below (sl_new (c := actCells ⟨1, qn, qk, 1 + h, 0⟩) rfl rfl) (below_drewN (Below.refl _ _) 1)) hbA) (by intro c hc; simp at hc; subst hc; exact actCells_one _) (by have := HN.out; simp; omega) (by decide) (by have := hbA.size; simp at this ⊢; omega) ?_; intro vC wC hownC hbC; obtain ⟨hcC, hfC⟩ := bcellB hbC; have hsC := hbC.size; (try simp at hsC); obtain ⟨aC, cC, hshC⟩ := hownC.shape; subst hshC) | (go_simp; (first | ((with_reducible refine (PK.out _).mono ?_); rintro e w' ⟨rfl, rfl⟩) | skip))); (refine hK.out _ _ ?_ (fun hHeld => ?_)); (· ((try dsimp only); (first | (first | (go_simp; done) | (simp [*, go_sem, World.cell?_alloc_past]; done) | (simp [*, go_sem, World.cell?_alloc_past, World.cell?_setCell_far]; done)) | exact ⟨(World.cell?_alloc_some _ _ _ (by rw [hHeld.1]; rfl)).trans hHeld.1, (World.cell?_alloc_some _ _ _ (by rw [hHeld.2.1]; rfl)).trans hHeld.2.1, (World.cell?_alloc_some _ _ _ (by rw [hHeld.2.2.1]; rfl)).trans hHeld.2.2.1, (World.cell?_alloc_some _ _ _ (by rw [hHeld.2.2.2]; rfl)).trans hHeld.2.2.2⟩ | exact ⟨(hbC.cell (p := ⟨P, 0, none⟩) (by simp; omega)).trans hHeld.1, (hbC.cell (p := ⟨P, 1, none⟩) (by simp; omega)).trans hHeld.2.1, (hbC.cell (p := ⟨P, 2, none⟩) (by simp; omega)).trans hHeld.2.2.1, (hbC.cell (p := ⟨P, 3, none⟩) (by simp; omega)).trans hHeld.2.2.2⟩ | exact ⟨(hbA.cell (p := ⟨P, 0, none⟩) (by simp; omega)).trans hHeld.1, (hbA.cell (p := ⟨P, 1, none⟩) (by simp; omega)).trans hHeld.2.1, (hbA.cell (p := ⟨P, 2, none⟩) (by simp; omega)).trans hHeld.2.2.1, (hbA.cell (p := ⟨P, 3, none⟩) (by simp; omega)).trans hHeld.2.2.2⟩))); (clear hK K; (try simp only [Act.put, List.setIfInBounds_toArray, List.set_cons_zero, List.set_cons_succ]))))
          | (refine wpAnyH_ready (rs := [7]) (by decide +kernel) (by simp) (AllReadyH.cons (by simp only [List.getElem?_toArray, List.getElem?_cons_zero, List.getElem?_cons_succ]; rfl) (fun K hK => ?_) AllReadyH.nil); all_goals ((first | (refine step_append_any rfl (.const (.slice none 0 0)) (.tmp 46) 39 35 9 72 _ rfl eiAct _ (.slice none 0 0) [] rfl (Wk.Own.nil _ _ _ _) (.slice va N vc) (al.map actCells) rfl (HSr.out.below (by (repeat' (first | (with_reducible exact Below.refl _ _) | (with_reducible assumption) | (with_reducible refine Below.al ?_ _) | (with_reducible refine Below.dr ?_) | (with_reducible refine Below.step ?_ (by assumption)) | (with_reducible refine Below.set ?_ ?_ _) | omega | (dsimp only; omega) | (simp; done) | (simp; omega))))) (by intro c hc; obtain ⟨r, _, rfl⟩ := List.mem_map.1 hc; exact actCells_one r) (by have := HN.out; simp; omega) (by decide) (Nat.le_refl _) ?_; intro vA wA hownA hbA; obtain ⟨hcA, hfA⟩ := bcellB hbA; have hsA := hbA.size; (try simp at hsA)) | (refine step_append_any rfl (.tmp 47) (.tmp 53) 39 35 9 72 _ rfl eiAct _ vA ([] ++ al.map actCells) rfl (hownA.alloc _) (.slice (some ⟨_, 0, none⟩) 1 1) [actCells ⟨1, qn, qk, 1 + h, 0⟩] rfl (sl_new (c := actCells ⟨1, qn, qk, 1 + h, 0⟩) (by first | rfl | simp) rfl) (by intro c hc; simp at hc; subst hc; exact actCells_one _) (by have := HN.out; simp; omega) (by decide) (by have := hbA.size; simp at this ⊢; omega) ?_; intro vC wC hownC hbC; obtain ⟨hcC, hfC⟩ := bcellB hbC; have hsC := hbC.size; (try simp at hsC); obtain ⟨aC, cC, hshC⟩ := hownC.shape; subst hshC) | (refine step_append_any rfl (.tmp 47) (.tmp 53) 39 35 9 72 _ rfl eiAct _ vA ([] ++ al.map actCells) rfl hownA (.slice (some ⟨_, 0, none⟩) 1 1) [actCells ⟨1, qn, qk, 1 + h, 0⟩] rfl (Sl.below (sl_new (c := actCells ⟨1, qn, qk, 1 + h, 0⟩) rfl rfl) hbA) (by intro c hc; simp at hc; subst hc; exact actCells_one _) (by have := HN.out; simp; omega) (by decide) (by have := hbA.size; simp at this ⊢; omega) ?_; intro vC wC hownC hbC; obtain ⟨hcC, hfC⟩ := bcellB hbC; have hsC := hbC.size; (try simp at hsC); obtain ⟨aC, cC, hshC⟩ := hownC.shape; subst hshC) | (refine step_append_any rfl (.tmp 47) (.tmp 53) 39 35 9 72 _ rfl eiAct _ vA ([] ++ al.map actCells) rfl hownA (.slice (some ⟨_, 0, none⟩) 1 1) [actCells ⟨1, qn, qk, 1 + h, 0⟩] rfl (Sl.below (Sl.below (sl_new (c := actCells ⟨1, qn, qk, 1 + h, 0⟩) rfl rfl) (below_drewN (Below.refl _ _) 1)) hbA) (by intro c hc; simp at hc; subst hc; exact actCells_one _) (by have := HN.out; simp; omega) (by decide) (by have := hbA.size; simp at this ⊢; omega) ?_; intro vC wC hownC hbC; obtain ⟨hcC, hfC⟩ := bcellB hbC; have hsC := hbC.size; (try simp at hsC); obtain ⟨aC, cC, hshC⟩ := hownC.shape; subst hshC) | (go_simp; (first | ((with_reducible refine (PK.out _).mono ?_); rintro e w' ⟨rfl, rfl⟩) | skip))); (refine hK.out _ _ ?_ (fun hHeld => ?_)); (· ((try dsimp only); (first | (first | (go_simp; done) | (simp [*, go_sem, World.cell?_alloc_past]; done) | (simp [*, go_sem, World.cell?_alloc_past, World.cell?_setCell_far]; done)) | exact ⟨(World.cell?_alloc_some _ _ _ (by rw [hHeld.1]; rfl)).trans hHeld.1, (World.cell?_alloc_some _ _ _ (by rw [hHeld.2.1]; rfl)).trans hHeld.2.1, (World.cell?_alloc_some _ _ _ (by rw [hHeld.2.2.1]; rfl)).trans hHeld.2.2.1, (World.cell?_alloc_some _ _ _ (by rw [hHeld.2.2.2]; rfl)).trans hHeld.2.2.2⟩ | exact ⟨(hbC.cell (p := ⟨P, 0, none⟩) (by simp; omega)).trans hHeld.1, (hbC.cell (p := ⟨P, 1, none⟩) (by simp; omega)).trans hHeld.2.1, (hbC.cell (p := ⟨P, 2, none⟩) (by simp; omega)).trans hHeld.2.2.1, (hbC.cell (p := ⟨P, 3, none⟩) (by simp; omega)).trans hHeld.2.2.2⟩ | exact ⟨(hbA.cell (p := ⟨P, 0, none⟩) (by simp; omega)).trans hHeld.1, (hbA.cell (p := ⟨P, 1, none⟩) (by simp; omega)).trans hHeld.2.1, (hbA.cell (p := ⟨P, 2, none⟩) (by simp; omega)).trans hHeld.2.2.1, (hbA.cell (p := ⟨P, 3, none⟩) (by simp; omega)).trans hHeld.2.2.2⟩))); (clear hK K; (try simp only [Act.put, List.setIfInBounds_toArray, List.set_cons_zero, List.set_cons_succ]))))
          | (refine wpAnyH_ready (rs := [8]) (by decide +kernel) (by simp) (AllReadyH.cons (by simp only [List.getElem?_toArray, List.getElem?_cons_zero, List.getElem?_cons_succ]; rfl) (fun K hK => ?_) AllReadyH.nil); all_goals ((first | (refine step_append_any rfl (.const (.slice none 0 0)) (.tmp 46) 39 35 9 72 _ rfl eiAct _ (.slice none 0 0) [] rfl (Wk.Own.nil _ _ _ _) (.slice va N vc) (al.map actCells) rfl (HSr.out.below (by (repeat' (first | (with_reducible exact Below.refl _ _) | (with_reducible assumption) | (with_reducible refine Below.al ?_ _) | (with_reducible refine Below.dr ?_) | (with_reducible refine Below.step ?_ (by assumption)) | (with_reducible refine Below.set ?_ ?_ _) | omega | (dsimp only; omega) | (simp; done) | (simp; omega))))) (by intro c hc; obtain ⟨r, _, rfl⟩ := List.mem_map.1 hc; exact actCells_one r) (by have := HN.out; simp; omega) (by decide) (Nat.le_refl _) ?_; intro vA wA hownA hbA; obtain ⟨hcA, hfA⟩ := bcellB hbA; have hsA := hbA.size; (try simp at hsA)) | (refine step_append_any rfl (.tmp 47) (.tmp 53) 39 35 9 72 _ rfl eiAct _ vA ([] ++ al.map actCells) rfl (hownA.alloc _) (.slice (some ⟨_, 0, none⟩) 1 1) [actCells ⟨1, qn, qk, 1 + h, 0⟩] rfl (sl_new (c := actCells ⟨1, qn, qk, 1 + h, 0⟩) (by first | rfl | simp) rfl) (by intro c hc; simp at hc; subst hc; exact actCells_one _) (by have := HN.out; simp; omega) (by decide) (by have := hbA.size; simp at this ⊢; omega) ?_; intro vC wC hownC hbC; obtain ⟨hcC, hfC⟩ := bcellB hbC; have hsC := hbC.size; (try simp at hsC); obtain ⟨aC, cC, hshC⟩ := hownC.shape; subst hshC) | (refine step_append_any rfl (.tmp 47) (.tmp 53) 39 35 9 72 _ rfl eiAct _ vA ([] ++ al.map actCells) rfl hownA (.slice (some ⟨_, 0, none⟩) 1 1) [actCells ⟨1, qn, qk, 1 + h, 0⟩] rfl (Sl.below (sl_new (c := actCells ⟨1, qn, qk, 1 + h, 0⟩) rfl rfl) hbA) (by intro c hc; simp at hc; subst hc; exact actCells_one _) (by have := HN.out; simp; omega) (by decide) (by have := hbA.size; simp at this ⊢; omega) ?_; intro vC wC hownC hbC; obtain ⟨hcC, hfC⟩ := bcellB hbC; have hsC := hbC.size; (try simp at hsC); obtain ⟨aC, cC, hshC⟩ := hownC.shape; subst hshC) | (refine step_append_any rfl (.tmp 47) (.tmp 53) 39 35 9 72 _ rfl eiAct _ vA ([] ++ al.map actCells) rfl hownA (.slice (some ⟨_, 0, none⟩) 1 1) [actCells ⟨1, qn, qk, 1 + h, 0⟩] rfl (Sl.below (Sl.below (sl_new (c := actCells ⟨1, qn, qk, 1 + h, 0⟩) rfl rfl) (below_drewN (Below.refl _ _) 1)) hbA) (by intro c hc; simp at hc; subst hc; exact actCells_one _) (by have := HN.out; simp; omega) (by decide) (by have := hbA.size; simp at this ⊢; omega) ?_; intro vC wC hownC hbC; obtain ⟨hcC, hfC⟩ := bcellB hbC; have hsC := hbC.size; (try simp at hsC); obtain ⟨aC, cC, hshC⟩ := hownC.shape; subst hshC) | (go_simp; (first | ((with_reducible refine (PK.out _).mono ?_); rintro e w' ⟨rfl, rfl⟩) | skip))); (refine hK.out _ _ ?_ (fun hHeld => ?_)); (· ((try dsimp only); (first | (first | (go_simp; done) | (simp [*, go_sem, World.cell?_alloc_past]; done) | (simp [*, go_sem, World.cell?_alloc_past, World.cell?_setCell_far]; done)) | exact ⟨(World.cell?_alloc_some _ _ _ (by rw [hHeld.1]; rfl)).trans hHeld.1, (World.cell?_alloc_some _ _ _ (by rw [hHeld.2.1]; rfl)).trans hHeld.2.1, (World.cell?_alloc_some _ _ _ (by rw [hHeld.2.2.1]; rfl)).trans hHeld.2.2.1, (World.cell?_alloc_some _ _ _ (by rw [hHeld.2.2.2]; rfl)).trans hHeld.2.2.2⟩ | exact ⟨(hbC.cell (p := ⟨P, 0, none⟩) (by simp; omega)).trans hHeld.1, (hbC.cell (p := ⟨P, 1, none⟩) (by simp; omega)).trans hHeld.2.1, (hbC.cell (p := ⟨P, 2, none⟩) (by simp; omega)).trans hHeld.2.2.1, (hbC.cell (p := ⟨P, 3, none⟩) (by simp; omega)).trans hHeld.2.2.2⟩ | exact ⟨(hbA.cell (p := ⟨P, 0, none⟩) (by simp; omega)).trans hHeld.1, (hbA.cell (p := ⟨P, 1, none⟩) (by simp; omega)).trans hHeld.2.1, (hbA.cell (p := ⟨P, 2, none⟩) (by simp; omega)).trans hHeld.2.2.1, (hbA.cell (p := ⟨P, 3, none⟩) (by simp; omega)).trans hHeld.2.2.2⟩))); (clear hK K; (try simp only [Act.put, List.setIfInBounds_toArray, List.set_cons_zero, List.set_cons_succ]))))
          | (refine wpAnyH_done (by decide +kernel) ?_ _)
          | fail)
        all_goals go_wp2_with fail
        all_goals go_meet
        all_goals exact ⟨aC, cC, by first | rfl | (rw [HN.out]) | (simp [HN.out]), Lib.hid (by rw [HN.out, List.map_append]; have h9 := hownC.base (B := Y.heap.size) (by first | exact Nat.le_refl _ | (simp; done) | (have := hbA.size; simp at this ⊢; omega)); simpa using h9), Lib.hid (by (repeat' (first | (with_reducible exact Below.refl _ _) | (with_reducible assumption) | (with_reducible refine Below.alloc ?_ ?_ _) | (with_reducible refine Below.drew ?_) | (with_reducible refine Below.stepG ?_ (by assumption) ?_) | (with_reducible refine Below.setCell ?_ ?_ _) | omega | (dsimp only; omega) | (simp; done) | (simp; omega))))⟩
      case rest =>
        obtain ⟨a13, c13, rfl, HO, HBX⟩ := hcut
        obtain ⟨X, hX⟩ : ∃ X : World, X = wc := ⟨_, rfl⟩
        subst hX
        have hzX := HBX.out.size
        have HPx := Lib.hid (HPr.out.below HBX.out)
        have x0 := HPx.out.c0
        have x1 := HPx.out.c1
        have x2 := HPx.out.c2
        have x3 := HPx.out.c3
        have hPx := HPx.out.lt
        have ho1 := HO.out.sl.lens.2.1
        have ho2 := HO.out.sl.lens.2.2
        clear p0 p1 p2 p3
        by_cases hz : hv = 0
        · subst hz
          go_wp2_with (at_builtin; refine wpList_append_rows rfl _ _ 39 35 9 72 _ rfl eiAct Y.heap.size _ ((al ++ [(⟨1, qn, qk, 1 + h, 0⟩ : ActD)]).map actCells) rfl (HO.out.alloc _) _ [actCells ⟨2, qn, qk, 0, 0⟩] rfl (sl_new (c := actCells ⟨2, qn, qk, 0, 0⟩) (by simp) rfl) (by intro c hc; simp at hc; subst hc; exact actCells_one _) (by have := HN.out; simp; omega) (by decide) (by simp; omega) (by simp) ?_; intro v5 w5 hown5 hgr hb5)
          obtain ⟨a5, c5, h5⟩ : ∃ a c, v5 = .slice a (N + 2) c := by
            obtain ⟨a, c, hsh⟩ := hown5.shape
            exact ⟨a, c, by rw [hsh]; simp [HN.out]⟩
          subst h5
          have hB5 : Below Y.heap.size X w5 := ((Below.refl _ X).alloc (by omega) _).trans hb5
          have HB5 := Lib.hid hB5
          have HS5 := Lib.hid (show Sl w5 9 (.slice a5 (N + 2) c5) ((al ++ [(⟨1, qn, qk, 1 + h, 0⟩ : ActD), ⟨2, qn, qk, 0, 0⟩]).map actCells) by have := hown5.sl; simpa using this)
          have hz5 := hB5.size
          clear hown5 hgr hb5 hB5
          go_wp2_with fail
          refine (routesOf_any a5 c5 _ (al ++ [(⟨1, qn, qk, 1 + h, 0⟩ : ActD), ⟨2, qn, qk, 0, 0⟩]) w5 (by simp [HN.out]) HS5.out (by have := HN.out; simp; omega) (fun x hx => by
            rcases List.mem_append.1 hx with hx | hx
            · exact HFT.out x hx
            · simp only [List.mem_cons, List.not_mem_nil, or_false] at hx
              rcases hx with rfl | rfl
              · exact ⟨hVP.out, fits0, (by decide : 1 ≤ 1 ∧ 1 ≤ 4), fun _ => (by show 1 ≤ 1 + h; omega), (by show 1 + h ≤ 999; omega)⟩
              · exact ⟨hVP.out, fits0, (by decide : 1 ≤ 2 ∧ 2 ≤ 4), (fun h => by cases h), (by decide : 0 ≤ 999)⟩)).mono ?_
          rintro e w6 ⟨v6, rfl, HO6, hb6⟩
          rw [HTE.out, HU.out.1 (by first | rfl | trivial)] at HO6
          obtain ⟨a6, c6, rfl⟩ := HO6.shape
          rw [List.length_map] at HO6 ⊢
          have h61 := HO6.sl.lens.2.1
          have h62 := HO6.sl.lens.2.2
          have HS6 := Lib.hid HO6.sl
          have HB6 := Lib.hid (HB5.out.trans (hb6.mono (by omega)))
          have HR6 := Lib.hid (HRr.out.below (HBX.out.trans HB6.out))
          have hz6 := HB6.out.size
          clear HO6 hb6
          go_wp2_with fail
          refine (same_yes _ _ _ _ _ _ L w6 rfl rfl HR6.out HS6.out).mono ?_
          rintro e w7 ⟨rfl, hb7⟩
          go_wp2
          go_returns
          exact ⟨rfl, HWr.out.trans (((HBX.out.trans HB6.out).trans (hb7.mono (by omega))).mono HWr.out.size)⟩
        · have hz1 : ((hv : Int) == 0) = false := by rw [beq_eq_false_iff_ne]; omega
          have hz2 : ¬ ((hv : Int) = 0) := by omega
          go_wp2_with (at_builtin; refine wpList_append_rows rfl _ _ 39 35 9 72 _ rfl eiAct Y.heap.size _ ((al ++ [(⟨1, qn, qk, 1 + h, 0⟩ : ActD)]).map actCells) rfl (HO.out.alloc _) _ [actCells ⟨1, qn, qk, hv, 0⟩] rfl (sl_new (c := actCells ⟨1, qn, qk, hv, 0⟩) (by simp) rfl) (by intro c hc; simp at hc; subst hc; exact actCells_one _) (by have := HN.out; simp; omega) (by decide) (by simp; omega) (by simp) ?_; intro v5 w5 hown5 hgr hb5)
          obtain ⟨a5, c5, h5⟩ : ∃ a c, v5 = .slice a (N + 2) c := by
            obtain ⟨a, c, hsh⟩ := hown5.shape
            exact ⟨a, c, by rw [hsh]; simp [HN.out]⟩
          subst h5
          have hB5 : Below Y.heap.size X w5 := ((Below.refl _ X).alloc (by omega) _).trans hb5
          have HB5 := Lib.hid hB5
          have HS5 := Lib.hid (show Sl w5 9 (.slice a5 (N + 2) c5) ((al ++ [(⟨1, qn, qk, 1 + h, 0⟩ : ActD), ⟨1, qn, qk, hv, 0⟩]).map actCells) by have := hown5.sl; simpa using this)
          have hz5 := hB5.size
          clear hown5 hgr hb5 hB5
          go_wp2_with fail
          refine (routesOf_any a5 c5 _ (al ++ [(⟨1, qn, qk, 1 + h, 0⟩ : ActD), ⟨1, qn, qk, hv, 0⟩]) w5 (by simp [HN.out]) HS5.out (by have := HN.out; simp; omega) (fun x hx => by
            rcases List.mem_append.1 hx with hx | hx
            · exact HFT.out x hx
            · simp only [List.mem_cons, List.not_mem_nil, or_false] at hx
              rcases hx with rfl | rfl
              · exact ⟨hVP.out, fits0, (by decide : 1 ≤ 1 ∧ 1 ≤ 4), fun _ => (by show 1 ≤ 1 + h; omega), (by show 1 + h ≤ 999; omega)⟩
              · exact ⟨hVP.out, fits0, (by decide : 1 ≤ 1 ∧ 1 ≤ 4), fun _ => (by show 1 ≤ hv; omega), HD.out⟩)).mono ?_
          rintro e w6 ⟨v6, rfl, HO6, hb6⟩
          rw [HTE.out, HU.out.2 hz] at HO6
          obtain ⟨a6, c6, rfl⟩ := HO6.shape
          rw [List.length_map] at HO6 ⊢
          have h61 := HO6.sl.lens.2.1
          have h62 := HO6.sl.lens.2.2
          have HS6 := Lib.hid HO6.sl
          have HB6 := Lib.hid (HB5.out.trans (hb6.mono (by omega)))
          have HR6 := Lib.hid (HRr.out.below (HBX.out.trans HB6.out))
          have hz6 := HB6.out.size
          clear HO6 hb6
          go_wp2_with fail
          refine (same_yes _ _ _ _ _ _ L w6 rfl rfl HR6.out HS6.out).mono ?_
          rintro e w7 ⟨rfl, hb7⟩
          go_wp2
          go_returns
          exact ⟨rfl, HWr.out.trans (((HBX.out.trans HB6.out).trans (hb7.mono (by omega))).mono HWr.out.size)⟩
end Go.Proofs.Yticfcigkldkhmaa
