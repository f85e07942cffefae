
/- PairIdle: the walk. -/
import Derived.Test.YteadfobfenopkaaPrY
import Derived.Test.YteadfobfenopkaaPrX
import Derived.Test.YteadfobfenopkaaAp
set_option linter.unusedVariables false
set_option linter.unusedSimpArgs false
namespace Go.Proofs.Yteadfobfenopkaa
open Go Go.RowKit Go.Sort Wc Wk

def keepI (a : AskD) : Bool := !a.rd || decide (a.n ≠ 3)
theorem keepI_idle (al : List AskD) : ∀ a ∈ al.filter keepI, a.rd = false ∨ a.n ≠ 3 := fun a ha => by
  have := (List.mem_filter.1 ha).2
  unfold keepI at this
  cases h : a.rd with
  | false => exact .inl rfl
  | true => exact .inr (by rw [h] at this; simpa using this)

set_option maxRecDepth 100000 in
set_option maxHeartbeats 8000000 in
theorem pairIdle_walk (a0 : Option Addr) (len0 cap0 : Nat) (z0 : List RawJ) (a1 : Option Addr) (len1 cap1 : Nat) (z1 : List Int) (tn : Int) (w : World) (h0 : IsJobs w a0 len0 cap0 z0) (h1 : IsRow .i64 w a1 len1 cap1 z1) (hk : -9223372036854775808 ≤ tn ∧ tn ≤ 9223372036854775807) :
    Calls Try.prog 14 #[.slice a0 len0 cap0, .slice a1 len1 cap1, .int .i64 tn] w fun e w' => e = .returned (.bool true) ∧ Below w.heap.size w w' := by
  have H0 := Lib.hid h0
  have H1 := Lib.hid h1
  clear h0 h1
  go_enter Try.func14, Try.ntmps14
  go_wp2_with fail
  refine (asks_any a0 len0 cap0 z0 30 w H0.out (by decide)).mono ?_
  rintro e w1 ⟨v1, al, rfl, ho1, hok1, hl1, hb1⟩
  obtain ⟨aa, ac, rfl⟩ := ho1.shape
  rw [List.length_map] at ho1 ⊢
  have HA := Lib.hid ho1.sl
  have HOK := Lib.hid hok1
  have HW := Lib.hid hb1
  have ua := ho1.sl.lens.2.1
  have va := ho1.sl.lens.2.2
  clear ho1 hok1 hb1
  obtain ⟨X, hX⟩ : ∃ X : World, X = w1 := ⟨_, rfl⟩
  subst hX
  go_wp2_with fail
  go_loopw [8, 9] (fun v i wr => ∃ m : Nat, m ≤ al.length ∧ i = .int .i64 m ∧ Hid (Wk.Own wr X.heap.size 79 14 v (((al.take m).filter keepI).map askCells)) ∧ Hid (Below X.heap.size X wr)) (fun _ i _ => al.length - (intOf i).toNat)
  case atStart => exact ⟨0, Nat.zero_le _, rfl, Wk.Own.nil _ _ _ _, Below.refl _ _⟩
  case round =>
    obtain ⟨m, hm, rfl, HO, HB⟩ := hrel
    have hzr := HB.out.size
    by_cases hlt : m < al.length
    · obtain ⟨x, hx⟩ : ∃ x, al[m]? = some x := ⟨_, List.getElem?_eq_getElem hlt⟩
      obtain ⟨b, off, rfl, hb, e0, e1, e2, e3, e4, e5, e6, e7, e8, e9, e10, e11, e12, e13⟩ := Sl.ask HA.out HB.out hx
      have HT := Lib.hid (show (al.take (m + 1)).filter keepI = (al.take m).filter keepI ++ if keepI x = true then [x] else [] by
        rw [List.take_add_one, hx]
        show ((al.take m) ++ [x]).filter keepI = _
        rw [List.filter_append]
        congr 1
        by_cases g : keepI x = true
        · rw [if_pos g]; simp [g]
        · rw [if_neg g]; simp [g])
      have hlen : ((al.take m).filter keepI).length ≤ 30 := by
        refine Nat.le_trans (List.length_filter_le _ _) ?_
        rw [List.length_take]
        omega
      have HLEN := Lib.hid hlen
      generalize (al.take m).filter keepI = F at *
      clear hx hlen
      have HO2 := Lib.hid (HO.out.below ((Below.refl _ _).alloc (Nat.le_refl _) (.cells (askCells x).toArray 79)))
      by_cases hkp : keepI x = true
      · rw [if_pos hkp] at HT
        have hcond : (askKind x = 2) ∨ (askKind x = 1 ∧ x.n ≠ 3) := by
          unfold keepI at hkp
          unfold askKind
          cases h : x.rd with
          | false => exact .inl rfl
          | true => rw [h] at hkp; exact .inr ⟨rfl, by simpa using hkp⟩
        have hcases : ((askKind x == 2) = true) ∨ ((askKind x == 2) = false ∧ ((x.n : Int) != 3) = true) := by
          rcases hcond with h | ⟨h, h'⟩
          · exact .inl (by rw [h]; rfl)
          · refine .inr ⟨by rw [h]; rfl, ?_⟩
            rw [bne_iff_ne]
            omega
        clear hcond hkp
        rcases hcases with c1 | ⟨c1, c2⟩
        all_goals
          go_wp2_with (at_builtin; refine wpList_append_rows rfl _ _ 72 79 14 112 _ rfl eiAsk X.heap.size _ (F.map askCells) rfl HO2.out _ [askCells x] rfl (sl_new (c := askCells x) (by simp) rfl) (by intro c hc; simp at hc; subst hc; exact askCells_one x) (by have := HLEN.out; simp; omega) (by decide) (by simp; omega) (by simp) ?_; intro v' w5 hown' hgr hb5)
          have hown2 : Wk.Own w5 X.heap.size 79 14 v' (((al.take (m + 1)).filter keepI).map askCells) := by rw [HT.out, List.map_append]; exact hown'
          have hB5 : Below X.heap.size X w5 := (HB.out.alloc hzr _).trans (hb5.mono (Nat.le_refl _))
          have HO5 := Lib.hid hown2
          have HB5 := Lib.hid hB5
          clear hown' hgr hb5 hown2 hB5
          go_roundw
          case rel => exact ⟨m + 1, by omega, by go_num, HO5, HB5⟩
          case measure => simp [intOf]; omega
      · rw [if_neg hkp, List.append_nil] at HT
        have hcond : (askKind x == 2) = false ∧ ((x.n : Int) != 3) = false := by
          unfold keepI at hkp
          unfold askKind
          cases h : x.rd with
          | false => rw [h] at hkp; exact absurd rfl hkp
          | true =>
            rw [h] at hkp
            refine ⟨rfl, ?_⟩
            have : x.n = 3 := by simpa using hkp
            rw [this]; rfl
        obtain ⟨c1, c2⟩ := hcond
        rw [← HT.out] at HO
        clear hkp
        go_wp2_with fail
        go_roundw
        case rel => exact ⟨m + 1, by omega, by go_num, HO, HB⟩
        case measure => simp [intOf]; omega
    · obtain rfl : m = al.length := by omega
      have e1 : al.take al.length = al := List.take_of_length_le (Nat.le_refl _)
      rw [e1] at HO
      clear e1
      have ho := HO.out
      obtain ⟨va, vc, rfl⟩ := ho.shape
      rw [List.length_map] at ho ⊢
      have HA2 := Lib.hid ho.sl
      have uf := ho.sl.lens.2.1
      have vf := ho.sl.lens.2.2
      have HOK2 := Lib.hid (show ∀ x ∈ al.filter keepI, x.ok from fun x hx => HOK.out x (List.mem_filter.1 hx).1)
      have HID := Lib.hid (keepI_idle al)
      have hlf : (al.filter keepI).length ≤ 30 := Nat.le_trans (List.length_filter_le _ _) hl1
      have HW2 := Lib.hid (HW.out.trans (HB.out.mono HW.out.size))
      generalize al.filter keepI = fl at *
      clear ho HO
      go_wp2_with fail
      refine (picks_any a1 len1 cap1 z1 150 w _ H1.out HW2.out (by decide)).mono ?_
      rintro e w2 ⟨v2, pl, rfl, ho2, hok2, hl2, hb2⟩
      obtain ⟨pa, pc, rfl⟩ := ho2.shape
      rw [List.length_map] at ho2 ⊢
      have HP := Lib.hid ho2.sl
      have HPO := Lib.hid ho2
      have HOP := Lib.hid hok2
      replace HA2 := Lib.hid (HA2.out.below hb2)
      replace HW2 := Lib.hid (HW2.out.trans (hb2.mono HW2.out.size))
      have ub := ho2.sl.lens.2.1
      have vb := ho2.sl.lens.2.2
      clear ho2 hok2 hb2
      obtain ⟨Y, hY⟩ : ∃ Y : World, Y = w2 := ⟨_, rfl⟩
      subst hY
      have PK := Lib.hid (fun w => picked_any tn (pl.length + 1) w (by omega) (by omega))
      have t0 := Int.emod_nonneg tn (show ((pl.length : Int) + 1) ≠ 0 by omega)
      have t1 := Int.emod_lt_of_pos tn (show (0 : Int) < (pl.length : Int) + 1 by omega)
      obtain ⟨k, hk0⟩ := Int.eq_ofNat_of_zero_le t0
      rw [hk0] at PK t1
      clear t0 hk0
      have hkl : k ≤ pl.length := by omega
      clear t1
      obtain ⟨HTK0, hs1⟩ := pick_take HPO.out k hkl
      obtain ⟨ad, cd, HDR0, hs2⟩ := pick_drop HPO.out k hkl
      have HTK := Lib.hid HTK0
      have HDR := Lib.hid HDR0
      have HS1 := Lib.hid hs1
      have HS2 := Lib.hid hs2
      clear HTK0 HDR0 hs1 hs2
      go_upto_region 10 with (first | ((with_reducible refine (PK.out _).mono ?_); rintro e w' ⟨rfl, rfl⟩))
      have htk := HTK.out
      have hdr := HDR.out
      obtain ⟨Q, hQ⟩ : ∃ Q : List Nat, Q = pl.take k ++ [3, 3, 3] ++ pl.drop k := ⟨_, rfl⟩
      have HMQ := Lib.hid (show (pl.take k).map pickCells ++ [3, 3, 3].map pickCells ++ (pl.drop k).map pickCells = Q.map pickCells by rw [hQ, List.map_append, List.map_append])
      have HQ := Lib.hid hQ
      have hql : Q.length = pl.length + 3 := by rw [hQ]; simp; omega
      have HLK := Lib.hid (show ((pl.take k).map pickCells).length = k by simp; omega)
      have HLC := Lib.hid (show ((pl.take k).map pickCells ++ [3, 3, 3].map pickCells).length = k + 3 by simp; omega)
      have HLD := Lib.hid (show ((pl.take k).map pickCells ++ [3, 3, 3].map pickCells ++ (pl.drop k).map pickCells).length = Q.length by rw [HMQ.out, List.length_map])
      have HQL := Lib.hid hql
      clear hQ hql
      go_cut [12] (fun vr wx => ∃ ar cr, vr = .slice ar Q.length cr ∧ Hid (Wk.Own wx Y.heap.size 3 1 (.slice ar Q.length cr) (Q.map pickCells)) ∧ Hid (Below Y.heap.size Y wx))
      case first =>
        have hzw : Y.heap.size ≤ Y.heap.size := Nat.le_refl _
        refine wp_region_held_drew (S := (fun w' => Below Y.heap.size Y w')) (by kernel_rfl) ?_ (fun hHeld => ?_)
        · ((try dsimp only); (repeat' (first | (with_reducible exact Below.refl _ _) | (with_reducible assumption) | (with_reducible refine Below.alloc ?_ ?_ _) | (with_reducible refine Below.drew ?_) | (with_reducible refine Below.stepG ?_ (by assumption) ?_) | (with_reducible refine Below.setCell ?_ ?_ _) | omega | (dsimp only; omega) | (simp; done) | (simp; omega))))
        (refine wpAnyH_take (i := 0) (oi := _) (v := ?_) (by simp only [List.getElem?_toArray, List.getElem?_cons_zero, List.getElem?_cons_succ]; rfl) (by kernel_rfl) (by decide +kernel) (by decide +kernel) (by exact fun _ _ _ h => h) (Or.inl ⟨by rfl, ?_⟩) (by assumption) ?_; rotate_left; (· ((intro w hSw); (have hSc := Below.cellAt hSw); clear hSw; go_simp; (try with_reducible rfl))); (try simp only [Act.put, List.setIfInBounds_toArray, List.set_cons_zero, List.set_cons_succ]))
        (refine wpAnyH_take (i := 1) (oi := _) (v := ?_) (by simp only [List.getElem?_toArray, List.getElem?_cons_zero, List.getElem?_cons_succ]; rfl) (by kernel_rfl) (by decide +kernel) (by decide +kernel) (by exact fun _ _ _ h => h) (Or.inl ⟨by rfl, ?_⟩) (by assumption) ?_; rotate_left; (· ((intro w hSw); (have hSc := Below.cellAt hSw); clear hSw; go_simp; (try with_reducible rfl))); (try simp only [Act.put, List.setIfInBounds_toArray, List.set_cons_zero, List.set_cons_succ]))
        (refine wpAnyH_take (i := 2) (oi := _) (v := ?_) (by simp only [List.getElem?_toArray, List.getElem?_cons_zero, List.getElem?_cons_succ]; rfl) (by kernel_rfl) (by decide +kernel) (by decide +kernel) (by exact fun _ _ _ h => h) (Or.inl ⟨by rfl, ?_⟩) (by assumption) ?_; rotate_left; (· ((intro w hSw); (have hSc := Below.cellAt hSw); clear hSw; go_simp; (try with_reducible rfl))); (try simp only [Act.put, List.setIfInBounds_toArray, List.set_cons_zero, List.set_cons_succ]))
        (refine wpAnyH_take (i := 6) (oi := _) (v := ?_) (by simp only [List.getElem?_toArray, List.getElem?_cons_zero, List.getElem?_cons_succ]; rfl) (by kernel_rfl) (by decide +kernel) (by decide +kernel) (by exact fun _ _ _ h => h) (Or.inl ⟨by rfl, ?_⟩) (by assumption) ?_; rotate_left; (· ((intro w hSw); (have hSc := Below.cellAt hSw); clear hSw; go_simp; (try with_reducible rfl))); (try simp only [Act.put, List.setIfInBounds_toArray, List.set_cons_zero, List.set_cons_succ]))
        (refine wpAnyH_take (i := 7) (oi := _) (v := ?_) (by simp only [List.getElem?_toArray, List.getElem?_cons_zero, List.getElem?_cons_succ]; rfl) (by kernel_rfl) (by decide +kernel) (by decide +kernel) (by exact fun _ _ _ h => h) (Or.inl ⟨by rfl, ?_⟩) (by assumption) ?_; rotate_left; (· ((intro w hSw); (have hSc := Below.cellAt hSw); clear hSw; go_simp; (try with_reducible rfl))); (try simp only [Act.put, List.setIfInBounds_toArray, List.set_cons_zero, List.set_cons_succ]))
        (refine wpAnyH_take (i := 8) (oi := _) (v := ?_) (by simp only [List.getElem?_toArray, List.getElem?_cons_zero, List.getElem?_cons_succ]; rfl) (by kernel_rfl) (by decide +kernel) (by decide +kernel) (by exact fun _ _ _ h => h) (Or.inl ⟨by rfl, ?_⟩) (by assumption) ?_; rotate_left; (· ((intro w hSw); (have hSc := Below.cellAt hSw); clear hSw; go_simp; (try with_reducible rfl))); (try simp only [Act.put, List.setIfInBounds_toArray, List.set_cons_zero, List.set_cons_succ]))
        repeat' (first
          | (refine wpAnyH_take (i := 10) (oi := _) (v := ?_) (by simp only [List.getElem?_toArray, List.getElem?_cons_zero, List.getElem?_cons_succ]; rfl) (by kernel_rfl) (by decide +kernel) (by decide +kernel) (by exact fun _ _ _ h => h) (Or.inl ⟨by rfl, ?_⟩) (by assumption) ?_; rotate_left; (· ((intro w hSw); (have hSc := Below.cellAt hSw); clear hSw; go_simp; (try with_reducible rfl))); (try simp only [Act.put, List.setIfInBounds_toArray, List.set_cons_zero, List.set_cons_succ]))
          | (refine wpAnyH_ready (rs := [3, 4]) (by decide +kernel) (by simp) (AllReadyH.cons (by simp only [List.getElem?_toArray, List.getElem?_cons_zero, List.getElem?_cons_succ]; rfl) (fun K hK => ?_) (AllReadyH.cons (by simp only [List.getElem?_toArray, List.getElem?_cons_zero, List.getElem?_cons_succ]; rfl) (fun K hK => ?_) AllReadyH.nil)); all_goals ((first | (refine step_append_any rfl (.const (.slice none 0 0)) (.tmp 58) 57 3 1 8 _ rfl eiPick _ (.slice none 0 0) [] rfl (Wk.Own.nil _ _ _ _) (.slice pa k pc) ((pl.take k).map pickCells) rfl (HS1.out.below (by (repeat' (first | (with_reducible exact Below.refl _ _) | (with_reducible assumption) | (with_reducible refine Below.alloc ?_ ?_ _) | (with_reducible refine Below.drew ?_) | (with_reducible refine Below.stepG ?_ (by assumption) ?_) | (with_reducible refine Below.setCell ?_ ?_ _) | omega | (dsimp only; omega) | (simp; done) | (simp; omega))))) (by intro c hc; obtain ⟨r, _, rfl⟩ := List.mem_map.1 hc; exact pickCells_one r) (by simp; omega) (by decide) (Nat.le_refl _) ?_; intro vA wA hownA hbA; have hsA := hbA.size; (try simp at hsA); rw [List.nil_append] at hownA; obtain ⟨aA, cA, hshA⟩ := hownA.shape; rw [HLK.out] at hshA; subst hshA) | (refine step_append_any rfl (.tmp 59) (.tmp 60) 57 3 1 8 _ rfl eiPick _ (.slice aA k cA) ((pl.take k).map pickCells) rfl (hownA.alloc _) (.slice (some ⟨_, 0, none⟩) 3 3) ([3, 3, 3].map pickCells) rfl (sl_many (n := 3) (xs := [3, 3, 3].map pickCells) rfl (by intro c hc; obtain ⟨j, _, rfl⟩ := List.mem_map.1 hc; rfl) rfl rfl (by decide)) (by intro c hc; obtain ⟨r, _, rfl⟩ := List.mem_map.1 hc; exact pickCells_one r) (by simp; omega) (by decide) (by simp; omega) ?_; intro vC wC hownC hbC; have hsC := hbC.size; (try simp at hsC); obtain ⟨aC, cC, hshC⟩ := hownC.shape; rw [HLC.out] at hshC; subst hshC) | (refine step_append_any rfl (.tmp 59) (.tmp 60) 57 3 1 8 _ rfl eiPick _ (.slice aA k cA) ((pl.take k).map pickCells) rfl hownA (.slice (some ⟨_, 0, none⟩) 3 3) ([3, 3, 3].map pickCells) rfl (Sl.below (Sl.below (sl_many (n := 3) (xs := [3, 3, 3].map pickCells) rfl (by intro c hc; obtain ⟨j, _, rfl⟩ := List.mem_map.1 hc; rfl) rfl rfl (by decide)) (below_drewN (Below.refl _ _) 1)) hbA) (by intro c hc; obtain ⟨r, _, rfl⟩ := List.mem_map.1 hc; exact pickCells_one r) (by simp; omega) (by decide) (by simp; omega) ?_; intro vC wC hownC hbC; have hsC := hbC.size; (try simp at hsC); obtain ⟨aC, cC, hshC⟩ := hownC.shape; rw [HLC.out] at hshC; subst hshC) | (refine step_append_any rfl (.tmp 61) (.tmp 64) 57 3 1 8 _ rfl eiPick _ (.slice aC (k + 3) cC) _ rfl hownC (.slice ad (pl.length - k) cd) ((pl.drop k).map pickCells) rfl (HS2.out.below (by (repeat' (first | (with_reducible exact Below.refl _ _) | (with_reducible assumption) | (with_reducible refine Below.alloc ?_ ?_ _) | (with_reducible refine Below.drew ?_) | (with_reducible refine Below.stepG ?_ (by assumption) ?_) | (with_reducible refine Below.setCell ?_ ?_ _) | omega | (dsimp only; omega) | (simp; done) | (simp; omega))))) (by intro c hc; obtain ⟨r, _, rfl⟩ := List.mem_map.1 hc; exact pickCells_one r) (by simp; omega) (by decide) (by simp; omega) ?_; intro vD wD hownD hbD; have hsD := hbD.size; (try simp at hsD); obtain ⟨aD, cD, hshD⟩ := hownD.shape; rw [HLD.out] at hshD; subst hshD) | (go_simp; (first | fail | skip))); (refine hK.out _ _ ?_ (fun hHeld => ?_)); (· ((try dsimp only); (repeat' (first | (with_reducible exact Below.refl _ _) | (with_reducible assumption) | (with_reducible refine Below.alloc ?_ ?_ _) | (with_reducible refine Below.drew ?_) | (with_reducible refine Below.stepG ?_ (by assumption) ?_) | (with_reducible refine Below.setCell ?_ ?_ _) | omega | (dsimp only; omega) | (simp; done) | (simp; omega))))); (clear hK K; (try simp only [Act.put, List.setIfInBounds_toArray, List.set_cons_zero, List.set_cons_succ]))))
          | (refine wpAnyH_ready (rs := [3]) (by decide +kernel) (by simp) (AllReadyH.cons (by simp only [List.getElem?_toArray, List.getElem?_cons_zero, List.getElem?_cons_succ]; rfl) (fun K hK => ?_) AllReadyH.nil); all_goals ((first | (refine step_append_any rfl (.const (.slice none 0 0)) (.tmp 58) 57 3 1 8 _ rfl eiPick _ (.slice none 0 0) [] rfl (Wk.Own.nil _ _ _ _) (.slice pa k pc) ((pl.take k).map pickCells) rfl (HS1.out.below (by (repeat' (first | (with_reducible exact Below.refl _ _) | (with_reducible assumption) | (with_reducible refine Below.alloc ?_ ?_ _) | (with_reducible refine Below.drew ?_) | (with_reducible refine Below.stepG ?_ (by assumption) ?_) | (with_reducible refine Below.setCell ?_ ?_ _) | omega | (dsimp only; omega) | (simp; done) | (simp; omega))))) (by intro c hc; obtain ⟨r, _, rfl⟩ := List.mem_map.1 hc; exact pickCells_one r) (by simp; omega) (by decide) (Nat.le_refl _) ?_; intro vA wA hownA hbA; have hsA := hbA.size; (try simp at hsA); rw [List.nil_append] at hownA; obtain ⟨aA, cA, hshA⟩ := hownA.shape; rw [HLK.out] at hshA; subst hshA) | (refine step_append_any rfl (.tmp 59) (.tmp 60) 57 3 1 8 _ rfl eiPick _ (.slice aA k cA) ((pl.take k).map pickCells) rfl (hownA.alloc _) (.slice (some ⟨_, 0, none⟩) 3 3) ([3, 3, 3].map pickCells) rfl (sl_many (n := 3) (xs := [3, 3, 3].map pickCells) rfl (by intro c hc; obtain ⟨j, _, rfl⟩ := List.mem_map.1 hc; rfl) rfl rfl (by decide)) (by intro c hc; obtain ⟨r, _, rfl⟩ := List.mem_map.1 hc; exact pickCells_one r) (by simp; omega) (by decide) (by simp; omega) ?_; intro vC wC hownC hbC; have hsC := hbC.size; (try simp at hsC); obtain ⟨aC, cC, hshC⟩ := hownC.shape; rw [HLC.out] at hshC; subst hshC) | (refine step_append_any rfl (.tmp 59) (.tmp 60) 57 3 1 8 _ rfl eiPick _ (.slice aA k cA) ((pl.take k).map pickCells) rfl hownA (.slice (some ⟨_, 0, none⟩) 3 3) ([3, 3, 3].map pickCells) rfl (Sl.below (Sl.below (sl_many (n := 3) (xs := [3, 3, 3].map pickCells) rfl (by intro c hc; obtain ⟨j, _, rfl⟩ := List.mem_map.1 hc; rfl) rfl rfl (by decide)) (below_drewN (Below.refl _ _) 1)) hbA) (by intro c hc; obtain ⟨r, _, rfl⟩ := List.mem_map.1 hc; exact pickCells_one r) (by simp; omega) (by decide) (by simp; omega) ?_; intro vC wC hownC hbC; have hsC := hbC.size; (try simp at hsC); obtain ⟨aC, cC, hshC⟩ := hownC.shape; rw [HLC.out] at hshC; subst hshC) | (refine step_append_any rfl (.tmp 61) (.tmp 64) 57 3 1 8 _ rfl eiPick _ (.slice aC (k + 3) cC) _ rfl hownC (.slice ad (pl.length - k) cd) ((pl.drop k).map pickCells) rfl (HS2.out.below (by (repeat' (first | (with_reducible exact Below.refl _ _) | (with_reducible assumption) | (with_reducible refine Below.alloc ?_ ?_ _) | (with_reducible refine Below.drew ?_) | (with_reducible refine Below.stepG ?_ (by assumption) ?_) | (with_reducible refine Below.setCell ?_ ?_ _) | omega | (dsimp only; omega) | (simp; done) | (simp; omega))))) (by intro c hc; obtain ⟨r, _, rfl⟩ := List.mem_map.1 hc; exact pickCells_one r) (by simp; omega) (by decide) (by simp; omega) ?_; intro vD wD hownD hbD; have hsD := hbD.size; (try simp at hsD); obtain ⟨aD, cD, hshD⟩ := hownD.shape; rw [HLD.out] at hshD; subst hshD) | (go_simp; (first | fail | skip))); (refine hK.out _ _ ?_ (fun hHeld => ?_)); (· ((try dsimp only); (repeat' (first | (with_reducible exact Below.refl _ _) | (with_reducible assumption) | (with_reducible refine Below.alloc ?_ ?_ _) | (with_reducible refine Below.drew ?_) | (with_reducible refine Below.stepG ?_ (by assumption) ?_) | (with_reducible refine Below.setCell ?_ ?_ _) | omega | (dsimp only; omega) | (simp; done) | (simp; omega))))); (clear hK K; (try simp only [Act.put, List.setIfInBounds_toArray, List.set_cons_zero, List.set_cons_succ]))))
          | (refine wpAnyH_ready (rs := [4]) (by decide +kernel) (by simp) (AllReadyH.cons (by simp only [List.getElem?_toArray, List.getElem?_cons_zero, List.getElem?_cons_succ]; rfl) (fun K hK => ?_) AllReadyH.nil); all_goals ((first | (refine step_append_any rfl (.const (.slice none 0 0)) (.tmp 58) 57 3 1 8 _ rfl eiPick _ (.slice none 0 0) [] rfl (Wk.Own.nil _ _ _ _) (.slice pa k pc) ((pl.take k).map pickCells) rfl (HS1.out.below (by (repeat' (first | (with_reducible exact Below.refl _ _) | (with_reducible assumption) | (with_reducible refine Below.alloc ?_ ?_ _) | (with_reducible refine Below.drew ?_) | (with_reducible refine Below.stepG ?_ (by assumption) ?_) | (with_reducible refine Below.setCell ?_ ?_ _) | omega | (dsimp only; omega) | (simp; done) | (simp; omega))))) (by intro c hc; obtain ⟨r, _, rfl⟩ := List.mem_map.1 hc; exact pickCells_one r) (by simp; omega) (by decide) (Nat.le_refl _) ?_; intro vA wA hownA hbA; have hsA := hbA.size; (try simp at hsA); rw [List.nil_append] at hownA; obtain ⟨aA, cA, hshA⟩ := hownA.shape; rw [HLK.out] at hshA; subst hshA) | (refine step_append_any rfl (.tmp 59) (.tmp 60) 57 3 1 8 _ rfl eiPick _ (.slice aA k cA) ((pl.take k).map pickCells) rfl (hownA.alloc _) (.slice (some ⟨_, 0, none⟩) 3 3) ([3, 3, 3].map pickCells) rfl (sl_many (n := 3) (xs := [3, 3, 3].map pickCells) rfl (by intro c hc; obtain ⟨j, _, rfl⟩ := List.mem_map.1 hc; rfl) rfl rfl (by decide)) (by intro c hc; obtain ⟨r, _, rfl⟩ := List.mem_map.1 hc; exact pickCells_one r) (by simp; omega) (by decide) (by simp; omega) ?_; intro vC wC hownC hbC; have hsC := hbC.size; (try simp at hsC); obtain ⟨aC, cC, hshC⟩ := hownC.shape; rw [HLC.out] at hshC; subst hshC) | (refine step_append_any rfl (.tmp 59) (.tmp 60) 57 3 1 8 _ rfl eiPick _ (.slice aA k cA) ((pl.take k).map pickCells) rfl hownA (.slice (some ⟨_, 0, none⟩) 3 3) ([3, 3, 3].map pickCells) rfl (Sl.below (Sl.below (sl_many (n := 3) (xs := [3, 3, 3].map pickCells) rfl (by intro c hc; obtain ⟨j, _, rfl⟩ := List.mem_map.1 hc; rfl) rfl rfl (by decide)) (below_drewN (Below.refl _ _) 1)) hbA) (by intro c hc; obtain ⟨r, _, rfl⟩ := List.mem_map.1 hc; exact pickCells_one r) (by simp; omega) (by decide) (by simp; omega) ?_; intro vC wC hownC hbC; have hsC := hbC.size; (try simp at hsC); obtain ⟨aC, cC, hshC⟩ := hownC.shape; rw [HLC.out] at hshC; subst hshC) | (refine step_append_any rfl (.tmp 61) (.tmp 64) 57 3 1 8 _ rfl eiPick _ (.slice aC (k + 3) cC) _ rfl hownC (.slice ad (pl.length - k) cd) ((pl.drop k).map pickCells) rfl (HS2.out.below (by (repeat' (first | (with_reducible exact Below.refl _ _) | (with_reducible assumption) | (with_reducible refine Below.alloc ?_ ?_ _) | (with_reducible refine Below.drew ?_) | (with_reducible refine Below.stepG ?_ (by assumption) ?_) | (with_reducible refine Below.setCell ?_ ?_ _) | omega | (dsimp only; omega) | (simp; done) | (simp; omega))))) (by intro c hc; obtain ⟨r, _, rfl⟩ := List.mem_map.1 hc; exact pickCells_one r) (by simp; omega) (by decide) (by simp; omega) ?_; intro vD wD hownD hbD; have hsD := hbD.size; (try simp at hsD); obtain ⟨aD, cD, hshD⟩ := hownD.shape; rw [HLD.out] at hshD; subst hshD) | (go_simp; (first | fail | skip))); (refine hK.out _ _ ?_ (fun hHeld => ?_)); (· ((try dsimp only); (repeat' (first | (with_reducible exact Below.refl _ _) | (with_reducible assumption) | (with_reducible refine Below.alloc ?_ ?_ _) | (with_reducible refine Below.drew ?_) | (with_reducible refine Below.stepG ?_ (by assumption) ?_) | (with_reducible refine Below.setCell ?_ ?_ _) | omega | (dsimp only; omega) | (simp; done) | (simp; omega))))); (clear hK K; (try simp only [Act.put, List.setIfInBounds_toArray, List.set_cons_zero, List.set_cons_succ]))))
          | (refine wpAnyH_ready (rs := [5]) (by decide +kernel) (by simp) (AllReadyH.cons (by simp only [List.getElem?_toArray, List.getElem?_cons_zero, List.getElem?_cons_succ]; rfl) (fun K hK => ?_) AllReadyH.nil); all_goals ((first | (refine step_append_any rfl (.const (.slice none 0 0)) (.tmp 58) 57 3 1 8 _ rfl eiPick _ (.slice none 0 0) [] rfl (Wk.Own.nil _ _ _ _) (.slice pa k pc) ((pl.take k).map pickCells) rfl (HS1.out.below (by (repeat' (first | (with_reducible exact Below.refl _ _) | (with_reducible assumption) | (with_reducible refine Below.alloc ?_ ?_ _) | (with_reducible refine Below.drew ?_) | (with_reducible refine Below.stepG ?_ (by assumption) ?_) | (with_reducible refine Below.setCell ?_ ?_ _) | omega | (dsimp only; omega) | (simp; done) | (simp; omega))))) (by intro c hc; obtain ⟨r, _, rfl⟩ := List.mem_map.1 hc; exact pickCells_one r) (by simp; omega) (by decide) (Nat.le_refl _) ?_; intro vA wA hownA hbA; have hsA := hbA.size; (try simp at hsA); rw [List.nil_append] at hownA; obtain ⟨aA, cA, hshA⟩ := hownA.shape; rw [HLK.out] at hshA; subst hshA) | (refine step_append_any rfl (.tmp 59) (.tmp 60) 57 3 1 8 _ rfl eiPick _ (.slice aA k cA) ((pl.take k).map pickCells) rfl (hownA.alloc _) (.slice (some ⟨_, 0, none⟩) 3 3) ([3, 3, 3].map pickCells) rfl (sl_many (n := 3) (xs := [3, 3, 3].map pickCells) rfl (by intro c hc; obtain ⟨j, _, rfl⟩ := List.mem_map.1 hc; rfl) rfl rfl (by decide)) (by intro c hc; obtain ⟨r, _, rfl⟩ := List.mem_map.1 hc; exact pickCells_one r) (by simp; omega) (by decide) (by simp; omega) ?_; intro vC wC hownC hbC; have hsC := hbC.size; (try simp at hsC); obtain ⟨aC, cC, hshC⟩ := hownC.shape; rw [HLC.out] at hshC; subst hshC) | (refine step_append_any rfl (.tmp 59) (.tmp 60) 57 3 1 8 _ rfl eiPick _ (.slice aA k cA) ((pl.take k).map pickCells) rfl hownA (.slice (some ⟨_, 0, none⟩) 3 3) ([3, 3, 3].map pickCells) rfl (Sl.below (Sl.below (sl_many (n := 3) (xs := [3, 3, 3].map pickCells) rfl (by intro c hc; obtain ⟨j, _, rfl⟩ := List.mem_map.1 hc; rfl) rfl rfl (by decide)) (below_drewN (Below.refl _ _) 1)) hbA) (by intro c hc; obtain ⟨r, _, rfl⟩ := List.mem_map.1 hc; exact pickCells_one r) (by simp; omega) (by decide) (by simp; omega) ?_; intro vC wC hownC hbC; have hsC := hbC.size; (try simp at hsC); obtain ⟨aC, cC, hshC⟩ := hownC.shape; rw [HLC.out] at hshC; subst hshC) | (refine step_append_any rfl (.tmp 61) (.tmp 64) 57 3 1 8 _ rfl eiPick _ (.slice aC (k + 3) cC) _ rfl hownC (.slice ad (pl.length - k) cd) ((pl.drop k).map pickCells) rfl (HS2.out.below (by (repeat' (first | (with_reducible exact Below.refl _ _) | (with_reducible assumption) | (with_reducible refine Below.alloc ?_ ?_ _) | (with_reducible refine Below.drew ?_) | (with_reducible refine Below.stepG ?_ (by assumption) ?_) | (with_reducible refine Below.setCell ?_ ?_ _) | omega | (dsimp only; omega) | (simp; done) | (simp; omega))))) (by intro c hc; obtain ⟨r, _, rfl⟩ := List.mem_map.1 hc; exact pickCells_one r) (by simp; omega) (by decide) (by simp; omega) ?_; intro vD wD hownD hbD; have hsD := hbD.size; (try simp at hsD); obtain ⟨aD, cD, hshD⟩ := hownD.shape; rw [HLD.out] at hshD; subst hshD) | (go_simp; (first | fail | skip))); (refine hK.out _ _ ?_ (fun hHeld => ?_)); (· ((try dsimp only); (repeat' (first | (with_reducible exact Below.refl _ _) | (with_reducible assumption) | (with_reducible refine Below.alloc ?_ ?_ _) | (with_reducible refine Below.drew ?_) | (with_reducible refine Below.stepG ?_ (by assumption) ?_) | (with_reducible refine Below.setCell ?_ ?_ _) | omega | (dsimp only; omega) | (simp; done) | (simp; omega))))); (clear hK K; (try simp only [Act.put, List.setIfInBounds_toArray, List.set_cons_zero, List.set_cons_succ]))))
          | (refine wpAnyH_ready (rs := [9]) (by decide +kernel) (by simp) (AllReadyH.cons (by simp only [List.getElem?_toArray, List.getElem?_cons_zero, List.getElem?_cons_succ]; rfl) (fun K hK => ?_) AllReadyH.nil); all_goals ((first | (refine step_append_any rfl (.const (.slice none 0 0)) (.tmp 58) 57 3 1 8 _ rfl eiPick _ (.slice none 0 0) [] rfl (Wk.Own.nil _ _ _ _) (.slice pa k pc) ((pl.take k).map pickCells) rfl (HS1.out.below (by (repeat' (first | (with_reducible exact Below.refl _ _) | (with_reducible assumption) | (with_reducible refine Below.alloc ?_ ?_ _) | (with_reducible refine Below.drew ?_) | (with_reducible refine Below.stepG ?_ (by assumption) ?_) | (with_reducible refine Below.setCell ?_ ?_ _) | omega | (dsimp only; omega) | (simp; done) | (simp; omega))))) (by intro c hc; obtain ⟨r, _, rfl⟩ := List.mem_map.1 hc; exact pickCells_one r) (by simp; omega) (by decide) (Nat.le_refl _) ?_; intro vA wA hownA hbA; have hsA := hbA.size; (try simp at hsA); rw [List.nil_append] at hownA; obtain ⟨aA, cA, hshA⟩ := hownA.shape; rw [HLK.out] at hshA; subst hshA) | (refine step_append_any rfl (.tmp 59) (.tmp 60) 57 3 1 8 _ rfl eiPick _ (.slice aA k cA) ((pl.take k).map pickCells) rfl (hownA.alloc _) (.slice (some ⟨_, 0, none⟩) 3 3) ([3, 3, 3].map pickCells) rfl (sl_many (n := 3) (xs := [3, 3, 3].map pickCells) rfl (by intro c hc; obtain ⟨j, _, rfl⟩ := List.mem_map.1 hc; rfl) rfl rfl (by decide)) (by intro c hc; obtain ⟨r, _, rfl⟩ := List.mem_map.1 hc; exact pickCells_one r) (by simp; omega) (by decide) (by simp; omega) ?_; intro vC wC hownC hbC; have hsC := hbC.size; (try simp at hsC); obtain ⟨aC, cC, hshC⟩ := hownC.shape; rw [HLC.out] at hshC; subst hshC) | (refine step_append_any rfl (.tmp 59) (.tmp 60) 57 3 1 8 _ rfl eiPick _ (.slice aA k cA) ((pl.take k).map pickCells) rfl hownA (.slice (some ⟨_, 0, none⟩) 3 3) ([3, 3, 3].map pickCells) rfl (Sl.below (Sl.below (sl_many (n := 3) (xs := [3, 3, 3].map pickCells) rfl (by intro c hc; obtain ⟨j, _, rfl⟩ := List.mem_map.1 hc; rfl) rfl rfl (by decide)) (below_drewN (Below.refl _ _) 1)) hbA) (by intro c hc; obtain ⟨r, _, rfl⟩ := List.mem_map.1 hc; exact pickCells_one r) (by simp; omega) (by decide) (by simp; omega) ?_; intro vC wC hownC hbC; have hsC := hbC.size; (try simp at hsC); obtain ⟨aC, cC, hshC⟩ := hownC.shape; rw [HLC.out] at hshC; subst hshC) | (refine step_append_any rfl (.tmp 61) (.tmp 64) 57 3 1 8 _ rfl eiPick _ (.slice aC (k + 3) cC) _ rfl hownC (.slice ad (pl.length - k) cd) ((pl.drop k).map pickCells) rfl (HS2.out.below (by (repeat' (first | (with_reducible exact Below.refl _ _) | (with_reducible assumption) | (with_reducible refine Below.alloc ?_ ?_ _) | (with_reducible refine Below.drew ?_) | (with_reducible refine Below.stepG ?_ (by assumption) ?_) | (with_reducible refine Below.setCell ?_ ?_ _) | omega | (dsimp only; omega) | (simp; done) | (simp; omega))))) (by intro c hc; obtain ⟨r, _, rfl⟩ := List.mem_map.1 hc; exact pickCells_one r) (by simp; omega) (by decide) (by simp; omega) ?_; intro vD wD hownD hbD; have hsD := hbD.size; (try simp at hsD); obtain ⟨aD, cD, hshD⟩ := hownD.shape; rw [HLD.out] at hshD; subst hshD) | (go_simp; (first | fail | skip))); (refine hK.out _ _ ?_ (fun hHeld => ?_)); (· ((try dsimp only); (repeat' (first | (with_reducible exact Below.refl _ _) | (with_reducible assumption) | (with_reducible refine Below.alloc ?_ ?_ _) | (with_reducible refine Below.drew ?_) | (with_reducible refine Below.stepG ?_ (by assumption) ?_) | (with_reducible refine Below.setCell ?_ ?_ _) | omega | (dsimp only; omega) | (simp; done) | (simp; omega))))); (clear hK K; (try simp only [Act.put, List.setIfInBounds_toArray, List.set_cons_zero, List.set_cons_succ]))))
          | (refine wpAnyH_done (by decide +kernel) ?_ _)
          | fail)
        go_goals
        all_goals go_wp2_with fail
        all_goals go_meet
        all_goals (rw [HMQ.out] at hownD; exact ⟨_, _, rfl, Lib.hid (hownD.base (by simp)), Lib.hid (by assumption)⟩)
      case rest =>
        obtain ⟨ar, cr, rfl, HOQ, HBY⟩ := hcut
        obtain ⟨Z, hZ⟩ : ∃ Z : World, Z = wc := ⟨_, rfl⟩
        subst hZ
        have HEQ := Lib.hid (show prun (pasks fl) Q = prun (pasks fl) pl by
          have h1 := idle_law HID.out (pl.take k) (pl.drop k)
          rw [← HQ.out, List.take_append_drop] at h1
          exact h1)
        have HQ4 := Lib.hid (show ∀ x ∈ Q, x ≤ 4 from fun x hx => by
          rw [HQ.out] at hx
          rcases List.mem_append.1 hx with g | g
          · rcases List.mem_append.1 g with g | g
            · exact HOP.out x (List.mem_of_mem_take g)
            · simp at g; omega
          · exact HOP.out x (List.mem_of_mem_drop g))
        have HSQ := Lib.hid HOQ.out.sl
        have uQ := HSQ.out.lens.2.1
        have vQ := HSQ.out.lens.2.2
        replace HA2 := Lib.hid (HA2.out.below HBY.out)
        replace HP := Lib.hid (HP.out.below HBY.out)
        replace HW2 := Lib.hid (HW2.out.trans (HBY.out.mono HW2.out.size))
        clear HOQ HBY HS1 HS2 HTK HDR htk hdr HLK HLC HLD HMQ HQ HPO HID HA HW HB H0 H1 PK HOK
        go_wp2_with fail
        refine (paired_any va pa vc pc fl pl Z HA2.out HP.out (by omega) (by omega) HOK2.out HOP.out).mono ?_
        rintro e w3 ⟨v3, rfl, ho3, hb3⟩
        obtain ⟨sa, sc, rfl⟩ := ho3.shape
        rw [List.length_map] at ho3 ⊢
        have HS := Lib.hid ho3.sl
        have u3 := ho3.sl.lens.2.1
        have v3 := ho3.sl.lens.2.2
        replace HA2 := Lib.hid (HA2.out.below hb3)
        replace HSQ := Lib.hid (HSQ.out.below hb3)
        replace HW2 := Lib.hid (HW2.out.trans (hb3.mono HW2.out.size))
        clear ho3 hb3 HP
        go_wp2_with fail
        refine (paired_any va ar vc cr fl Q w3 HA2.out HSQ.out (by omega) (by have := HQL.out; omega) HOK2.out HQ4.out).mono ?_
        rintro e w4 ⟨v4, rfl, ho4, hb4⟩
        rw [HEQ.out] at ho4 ⊢
        obtain ⟨ta, tc, rfl⟩ := ho4.shape
        rw [List.length_map] at ho4 ⊢
        have HT := Lib.hid ho4.sl
        have u4 := ho4.sl.lens.2.1
        have v4 := ho4.sl.lens.2.2
        replace HS := Lib.hid (HS.out.below hb4)
        replace HW2 := Lib.hid (HW2.out.trans (hb4.mono HW2.out.size))
        have hse : (prun (pasks fl) pl).se.length ≤ 150 := by have := ((pasks_ok HOK2.out).1.run pl).se; omega
        clear ho4 hb4 HA2 HSQ HEQ HQ4 HOK2 HOP
        generalize (prun (pasks fl) pl).wt.length = lf at *
        generalize (prun (pasks fl) pl).se = se at *
        obtain ⟨N, hN⟩ : ∃ n, n = se.length := ⟨_, rfl⟩
        rw [← hN] at HS HT u3 u4 hse ⊢
        have HN := Lib.hid hN
        clear hN
        obtain ⟨U, hU⟩ : ∃ U : World, U = w4 := ⟨_, rfl⟩
        subst hU
        go_wp2_with fail
        go_loopw [19] (fun i wr => ∃ m : Nat, m ≤ N ∧ i = .int .i64 m ∧ Hid (Below U.heap.size U wr)) (fun i _ => N - (intOf i).toNat)
        case atStart => exact ⟨0, Nat.zero_le _, rfl, Below.refl _ _⟩
        case round =>
          obtain ⟨m, hm, rfl, HB⟩ := hrel
          by_cases hlt : m < N
          · obtain ⟨x, hx⟩ : ∃ x, se[m]? = some x := ⟨_, List.getElem?_eq_getElem (by have := HN.out; omega)⟩
            obtain ⟨b1, o1, rfl, hb1, hc1⟩ := Sl.at (HS.out.below HB.out) (i := m) (c := seenCells x) (by rw [List.getElem?_map, hx]; rfl)
            obtain ⟨b2, o2, rfl, hb2, hc2⟩ := Sl.at (HT.out.below HB.out) (i := m) (c := seenCells x) (by rw [List.getElem?_map, hx]; rfl)
            have c0 := hc1 0 _ rfl
            have c1 := hc1 1 _ rfl
            have c2 := hc1 2 _ rfl
            have c3 := hc1 3 _ rfl
            have c4 := hc1 4 _ rfl
            have d0 := hc2 0 _ rfl
            have d1 := hc2 1 _ rfl
            have d2 := hc2 2 _ rfl
            have d3 := hc2 3 _ rfl
            have d4 := hc2 4 _ rfl
            rw [Nat.add_zero] at c0 d0
            clear hc1 hc2 hx
            go_wp2_with fail
            go_quiet (fail)
            go_wp2_with fail
            go_roundw
            case rel => exact ⟨m + 1, by omega, by go_num, Lib.hid (below_drewN HB.out _)⟩
            case measure => simp [intOf]; omega
          · obtain rfl : m = N := by omega
            go_wp2_with fail
            go_returns
            exact ⟨rfl, HW2.out.trans (HB.out.mono HW2.out.size)⟩
end Go.Proofs.Yteadfobfenopkaa
