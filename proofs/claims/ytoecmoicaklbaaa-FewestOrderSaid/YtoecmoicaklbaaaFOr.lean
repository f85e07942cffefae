
/- FewestOrder: the walk. -/
import Derived.Test.YtoecmoicaklbaaaFOrP
import Derived.Test.YtoecmoicaklbaaaWt
set_option linter.unusedVariables false
set_option linter.unusedSimpArgs false
namespace Go.Proofs.Ytoecmoicaklbaaa
open Go Go.RowKit Go.Sort Wc Wk

theorem whole_len (js : List RawJ) (h : Nat) : (wholeR js h).length ≤ 51 := by
  have L := tend_len TabOk.nil (actsOf_fit (js := js) (n := 50))
  have L2 := actsOf_len js 50
  simp only [List.length_nil] at L
  unfold wholeR
  simp only [List.length_cons]
  omega
theorem sl_rtW {W : World} {b : Nat} (x : Nat × Nat × Nat) (hb : b = W.heap.size) : Sl (W.alloc (.cells #[.bool false, .int .u64 (hiOf false x.1), .int .u64 (loOf x.1), .int .i64 x.2.1, .int .i64 x.2.2] 49)) 5 (.slice (some ⟨b, 0, none⟩) 1 1) ([x].map routeCells) :=
  sl_new (c := routeCells x) hb rfl
theorem own_ltW {w : World} {B : Nat} {e : TypeId} {sz n c : Nat} {a : Option Addr} {xs : List (List Value)} (h : Wk.Own w B e sz (.slice a n c) xs) : ∀ x, a = some x → x.block < w.heap.size := fun x hx => (h.lt x.block (by rw [hx]; rfl)).2
theorem fewest_len (a : Option Addr) (cap n : Nat) (rs : List (Nat × Nat × Nat)) (w : World) (hn : n = rs.length) (hs : Sl w 5 (.slice a n cap) (rs.map routeCells)) (hok : RtOk rs) (hex : ∃ x ∈ rs, x.2.1 = 0) (ha : ∀ x, a = some x → x.block < w.heap.size) :
    Calls Try.prog 22 #[.slice a n cap] w fun e w' => ∃ (a' : Option Addr) (c' n' : Nat), e = .returned (.tuple #[.slice a' n' c', .int .i64 0]) ∧ Hid (∃ ys, SortL rs ys ∧ n' = (fewL ys).length) ∧ Below w.heap.size w w' := by
  subst hn
  refine (fewest_any a cap rs w hs hok hex ha).mono ?_
  rintro e w' ⟨a', c', ys, rfl, h1, _, h3⟩
  exact ⟨a', c', _, rfl, Lib.hid ⟨ys, h1, rfl⟩, h3⟩

set_option maxRecDepth 100000 in
set_option maxHeartbeats 4000000 in
theorem fewestOrder_walk (a0 : Option Addr) (len0 cap0 : Nat) (z0 : List RawJ) (hz tn pz : Int) (w : World) (h0 : IsJobs w a0 len0 cap0 z0) (hh : -9223372036854775808 ≤ hz ∧ hz ≤ 9223372036854775807) (ht : -9223372036854775808 ≤ tn ∧ tn ≤ 9223372036854775807) (hp : -9223372036854775808 ≤ pz ∧ pz ≤ 9223372036854775807) :
    Calls Try.prog 9 #[.slice a0 len0 cap0, .int .i64 hz, .int .i64 tn, .int .i64 pz] w fun e w' => e = .returned (.bool true) ∧ Below w.heap.size w w' := by
  have WT := Lib.hid (whole_any a0 len0 cap0 z0 hz w h0 hh)
  have HRO := Lib.hid (whole_ok z0 (hopOf_lt hz))
  have HEX := Lib.hid (whole_zero z0 (hopOf hz))
  have hRl := whole_len z0 (hopOf hz)
  have hR0 : 1 ≤ (wholeR z0 (hopOf hz)).length := by unfold wholeR; simp
  have PR := Lib.hid (fun b w hc => pres_one b pz w hc hp)
  have HVP := Lib.hid (pres_vp pz)
  have hk32 := presK_le pz
  generalize presN pz = qn at *
  generalize presK pz = qk at *
  generalize wholeR z0 (hopOf hz) = R at *
  clear h0 hh hp
  obtain ⟨N, hN⟩ : ∃ N, N = R.length := ⟨_, rfl⟩
  rw [← hN] at hRl hR0
  have HN := Lib.hid hN
  clear hN
  have PK := Lib.hid (fun w (h : 1 ≤ (N : Int)) => picked_any tn N w h (by omega))
  go_enter Try.func9, Try.ntmps9
  go_wp2_with fail
  refine WT.out.mono ?_
  rintro e w1 ⟨v1, rfl, ho1, hb1⟩
  (repeat (with_reducible (replace hb1 := Below.undrew hb1))); obtain ⟨hc1, hf1⟩ := bcell hb1; have hz1 := hb1.size; (repeat (first | rw [World.size_alloc] at hz1 | rw [World.size_drew] at hz1 | rw [World.size_setCell] at hz1)); (try have : w.heap.size < w1.heap.size := by omega); (try have : w.heap.size < w1.heap.size + 1 := by omega); (try have : w.heap.size < w1.heap.size + 1 + 1 := by omega); (try have : w.heap.size < w1.heap.size + 1 + 1 + 1 := by omega); (try have : w2.heap.size < w1.heap.size := by omega); (try have : w2.heap.size < w1.heap.size + 1 := by omega); (try have : w2.heap.size < w1.heap.size + 1 + 1 := by omega); (try have : w2.heap.size < w1.heap.size + 1 + 1 + 1 := by omega); (try have : w2.heap.size + 1 < w1.heap.size := by omega); (try have : w2.heap.size + 1 < w1.heap.size + 1 := by omega); (try have : w2.heap.size + 1 < w1.heap.size + 1 + 1 := by omega); (try have : w2.heap.size + 1 < w1.heap.size + 1 + 1 + 1 := by omega)
  obtain ⟨ra, rc, rfl⟩ := ho1.shape
  rw [List.length_map, ← HN.out] at ho1 ⊢
  have HR1 := Lib.hid ho1
  have HB1 := Lib.hid hb1
  clear ho1 hb1 hc1 hf1 WT
  go_wp2_with fail
  go_loopw [11, 12] (fun v i wr => ∃ m : Nat, m ≤ N ∧ i = .int .i64 m ∧ Hid (Wk.Own wr w1.heap.size 49 5 v ((rotF R (tn % N).toNat m).map routeCells)) ∧ Hid (Below w1.heap.size w1 wr)) (fun _ i _ => N - (intOf i).toNat)
  case atStart => exact ⟨0, Nat.zero_le _, rfl, Wk.Own.nil _ _ _ _, Below.refl _ _⟩
  case round =>
    obtain ⟨m, hm, rfl, HV, HB⟩ := hrel
    have hzr := HB.out.size
    by_cases hlt : m < N
    · have t0 := Int.emod_nonneg tn (show (N : Int) ≠ 0 by omega)
      have t1 := Int.emod_lt_of_pos tn (show (0 : Int) < N by omega)
      obtain ⟨t, ht⟩ := Int.eq_ofNat_of_zero_le t0
      have PK1 := Lib.hid (fun w => PK.out w (by omega))
      rw [ht] at PK1 t1
      have htn : (tn % (N : Int)).toNat = t := by rw [ht]; rfl
      rw [htn] at HV
      have HTN := Lib.hid htn
      clear htn t0 ht
      have hj : (m + t) % N < N := Nat.mod_lt _ (by omega)
      have ej : (((m + t : Nat) : Int)) % (N : Int) = (((m + t) % N : Nat) : Int) := by omega
      have hj0 : 0 ≤ ((m : Int) + (t : Int)) % (N : Int) := Int.emod_nonneg _ (by omega)
      have hj1 : ((m : Int) + (t : Int)) % (N : Int) < (N : Int) := Int.emod_lt_of_pos _ (by omega)
      obtain ⟨x, hx⟩ : ∃ x, R[(m + t) % N]? = some x := ⟨_, List.getElem?_eq_getElem (by rw [← HN.out]; exact hj)⟩
      have HAR : Hid (rotF R t (m + 1) = rotF R t m ++ [x]) := Lib.hid (by rw [rotF_succ, ← HN.out, List.getD_eq_getElem?_getD, hx]; rfl)
      obtain ⟨b, off, rfl, hb, d0, d1, d2, d3, d4⟩ := Sl.route HR1.out.sl HB.out hx
      have HLA := Lib.hid (rotF_len R t m)
      clear hx
      generalize rotF R t m = M at *
      go_wp2_with (first | ((with_reducible refine (PK1.out _).mono ?_); rintro e w' ⟨rfl, rfl⟩) | (at_builtin; refine stop_at ?_; intro G hG))
      rw [← hG.out]; clear hG G
      refine wpList_append_any rfl _ _ 43 49 5 40 _ rfl eiRoute w1.heap.size _ (M.map routeCells) rfl (HV.out.alloc _) _ [routeCells x] rfl (sl_new (c := routeCells x) (by simp) rfl) (by intro c hc; simp at hc; subst hc; exact routeCells_one _) (by have := HLA.out; simp; omega) (by decide) (by simp; omega) ?_
      intro v5 w5 hown5 hb5
      have HV5 := Lib.hid (show Wk.Own w5 w1.heap.size 49 5 v5 ((rotF R t (m + 1)).map routeCells) by rw [HAR.out, List.map_append]; exact hown5)
      have HB5 := Lib.hid ((HB.out.alloc hzr _).trans hb5)
      clear hown5 hb5
      go_wp2_with fail
      go_roundw
      case rel => exact ⟨m + 1, by omega, by go_num, by rw [HTN.out]; exact HV5, HB5⟩
      case measure => simp [intOf]; omega
    · obtain rfl : m = N := by omega
      have HMO := Lib.hid (rotF_ok HRO.out (tn % (m : Int)).toNat)
      have HMM := Lib.hid (rotF_mem HRO.out (tn % (m : Int)).toNat)
      have HML := Lib.hid (rotF_len R (tn % (m : Int)).toNat m)
      rw [← HN.out] at HMO HMM
      generalize rotF R (tn % (m : Int)).toNat m = M at *
      have ho := HV.out
      obtain ⟨ao, co, rfl⟩ := ho.shape
      rw [List.length_map] at ho ⊢
      rw [HML.out] at ho ⊢
      have HO := Lib.hid ho
      have HRr := Lib.hid (HR1.out.below HB.out)
      have HBr := Lib.hid (HB1.out.trans (HB.out.mono HB1.out.size))
      have hzr' := HBr.out.size
      clear ho HV HB HR1 HB1 PK hlt
      go_wp2_with fail
      refine (PR.out wr.heap.size _ (by simp)).mono ?_
      rintro e w3 ⟨g, gc, rfl, g1, g2, g3, g4, g5, g6, hb3⟩
      have hbW : Below wr.heap.size wr w3 := ((Below.refl _ _).alloc (Nat.le_refl _) _).trans (hb3.mono (by simp))
      have HR3 := Lib.hid (HRr.out.below hbW)
      have HO3 := Lib.hid (HO.out.below hbW)
      have HB3 := Lib.hid (HBr.out.trans (hbW.mono hzr'))
      clear hbW hb3 g1 PR HRr HO HBr hzr'
      go_wp2_with fail
      obtain ⟨Y, hY⟩ : ∃ Y, Y = w3.alloc (.cells (preCells false qn qk).toArray 30) := ⟨_, rfl⟩
      have hY' := hY
      simp only [preCells] at hY'
      rw [← hY']
      obtain ⟨A, hA⟩ : ∃ A, A = w3.heap.size := ⟨_, rfl⟩
      have RA : Hid (RX Y A (preCells false qn qk)) := by rw [hY, hA]; exact rx_new _ _
      have h3Y : Below w3.heap.size w3 Y := by rw [hY]; exact (Below.refl _ _).alloc (Nat.le_refl _) _
      have HRY := Lib.hid (HR3.out.below h3Y)
      have HOY := Lib.hid (HO3.out.below h3Y)
      have HBY := Lib.hid (HB3.out.trans (h3Y.mono HB3.out.size))
      rw [← hA]
      clear hY hY' hA g2 g3 g4 g5 g6 HB3 HR3 HO3 h3Y
      have a0 := RA.out.cell 0 _ rfl
      have a1 := RA.out.cell 1 _ rfl
      have a2 := RA.out.cell 2 _ rfl
      have a3 := RA.out.cell 3 _ rfl
      have hAY := RA.out.lt
      go_wp2_with fail
      go_loopw [14, 15] (fun v i wq => ∃ j : Nat, j ≤ m ∧ i = .int .i64 j ∧ v = .bool ((R.take j).any (fun x => decide (x.1 = qn ∧ x.2.1 = qk))) ∧ Hid (Below Y.heap.size Y wq)) (fun _ i _ => m - (intOf i).toNat)
      case atStart => exact ⟨0, Nat.zero_le _, rfl, rfl, Below.refl _ _⟩
      case round =>
        obtain ⟨j, hj, rfl, rfl, HB⟩ := hrel
        have hzq := HB.out.size
        by_cases hlt : j < m
        · obtain ⟨x, hx⟩ : ∃ s, R[j]? = some s := ⟨_, List.getElem?_eq_getElem (by rw [← HN.out]; exact hlt)⟩
          obtain ⟨b, off, rfl, hb, d0, d1, d2, d3, d4⟩ := Sl.route HRY.out.sl HB.out hx
          have HTK := Lib.hid (show (R.take (j + 1)).any (fun x => decide (x.1 = qn ∧ x.2.1 = qk)) = ((R.take j).any (fun x => decide (x.1 = qn ∧ x.2.1 = qk)) || decide (x.1 = qn ∧ x.2.1 = qk)) by rw [List.take_add_one, hx]; simp)
          have HXM := Lib.hid (List.mem_of_getElem? hx)
          clear hx
          generalize (R.take j).any (fun x => decide (x.1 = qn ∧ x.2.1 = qk)) = had at *
          have p0 := (HB.out.cell (p := ⟨A, 0, none⟩) hAY).trans a0
          have p1 := (HB.out.cell (p := ⟨A, 1, none⟩) hAY).trans a1
          have p2 := (HB.out.cell (p := ⟨A, 2, none⟩) hAY).trans a2
          have p3 := (HB.out.cell (p := ⟨A, 3, none⟩) hAY).trans a3
          have hAr : A < wr.heap.size := by omega
          have hbr : b < wr.heap.size := by omega
          have vx := HRO.out.vp x HXM.out
          by_cases he : x.1 = qn ∧ x.2.1 = qk
          · rw [decide_eq_true he, Bool.or_true] at HTK
            obtain ⟨xn, xk, xh⟩ := x
            obtain ⟨rfl, rfl⟩ := (show xn = qn ∧ xk = qk from he)
            clear he vx HXM
            cases had
            all_goals
              go_wp2_with fail
              go_quiet (fail)
              go_wp2
              go_roundw
            all_goals first
              | exact ⟨j + 1, by omega, by go_num, by rw [HTK.out], below_drewN HB.out _⟩
              | (simp [intOf]; omega)
          · rw [decide_eq_false he, Bool.or_false] at HTK
            have hne : ¬ ((x.2.1 : Int) = qk) ∨ ¬ (loOf x.1 = loOf qn) := by
              by_cases h2 : x.2.1 = qk
              · refine .inr (fun h3 => he ⟨?_, h2⟩)
                rw [loOf_false vx.1, loOf_false HVP.out.1] at h3
                omega
              · exact .inl (by omega)
            clear he vx HXM
            rcases hne with hne | hne <;> cases had
            all_goals
              go_wp2_with fail
              go_quiet (fail)
              go_wp2
              go_roundw
            all_goals first
              | exact ⟨j + 1, by omega, by go_num, by rw [HTK.out], below_drewN HB.out _⟩
              | (simp [intOf]; omega)
        · obtain rfl : j = m := by omega
          have htk : R.take j = R := by rw [HN.out]; exact List.take_length
          rw [htk]
          have HAD := Lib.hid (show R.any (fun x => decide (x.1 = qn ∧ x.2.1 = qk)) = true ∨ ((R.any (fun x => decide (x.1 = qn ∧ x.2.1 = qk)) = false) ∧ ∀ x ∈ R, ¬ (x.1 = qn ∧ x.2.1 = qk)) by
            cases h : R.any (fun x => decide (x.1 = qn ∧ x.2.1 = qk)) with
            | true => exact .inl rfl
            | false => exact .inr ⟨rfl, fun x hx he => by
                have := List.any_eq_false.1 h x hx
                rw [decide_eq_true_iff] at this
                exact this he⟩)
          clear htk
          generalize R.any (fun x => decide (x.1 = qn ∧ x.2.1 = qk)) = had at *
          have p0 := (HB.out.cell (p := ⟨A, 0, none⟩) hAY).trans a0
          have p1 := (HB.out.cell (p := ⟨A, 1, none⟩) hAY).trans a1
          have p2 := (HB.out.cell (p := ⟨A, 2, none⟩) hAY).trans a2
          have p3 := (HB.out.cell (p := ⟨A, 3, none⟩) hAY).trans a3
          have hAr : A < wr.heap.size := by omega
          have HP : Hid (wr.cell? ⟨A, 0, none⟩ = some (.bool false) ∧ wr.cell? ⟨A, 1, none⟩ = some (.int .u64 (hiOf false qn)) ∧ wr.cell? ⟨A, 2, none⟩ = some (.int .u64 (loOf qn)) ∧ wr.cell? ⟨A, 3, none⟩ = some (.int .i64 qk) ∧ A < wr.heap.size) := ⟨p0, p1, p2, p3, hAr⟩
          have HRw := Lib.hid (HRY.out.below HB.out)
          have HOw := Lib.hid (HOY.out.below HB.out)
          have HBw := Lib.hid (HBY.out.trans (HB.out.mono HBY.out.size))
          clear p0 p1 p2 p3 hAr a0 a1 a2 a3 hAY RA HRY HOY HBY HB hzq hj hlt hm hz1 hzr this
          have hzw := HBw.out.size
          go_wp2_with (at_builtin; refine stop_at ?_; intro G hG)
          rw [← hG.out]; clear hG G
          refine wpList_append_any rfl _ _ 43 49 5 40 _ rfl eiRoute wr.heap.size _ ((([] : List (Nat × Nat × Nat))).map routeCells) rfl (Wk.Own.nil _ _ _ _) _ ((R).map routeCells) rfl (HRw.out.sl) (by intro c hc; obtain ⟨r, _, rfl⟩ := List.mem_map.1 hc; exact routeCells_one r) (by simp only [List.length_map, List.length_nil]; have h9 := HN.out; first | omega | (simp; omega)) (by decide) (by first | omega | (simp; done) | (simp; omega)) ?_
          intro v4 w4 hown4 hb4
          rw [← List.map_append] at hown4
          obtain ⟨xs4, hxs4⟩ : ∃ x : List (Nat × Nat × Nat), x = (([] : List (Nat × Nat × Nat))) ++ (R) := ⟨_, rfl⟩
          rw [← hxs4] at hown4
          have hl4 : xs4.length = (([] : List (Nat × Nat × Nat))).length + (R).length := by rw [hxs4, List.length_append]
          have HX4 := Lib.hid hxs4
          clear hxs4
          have HL4 := Lib.hid hl4
          clear hl4
          obtain ⟨a4, cap4, rfl⟩ := hown4.shape
          rw [List.length_map] at hown4 ⊢
          have HO4 := Lib.hid hown4
          clear hown4
          obtain ⟨hc4, hf4⟩ := bcellB hb4; have hz4 := hb4.size; (repeat (first | rw [World.size_alloc] at hz4 | rw [World.size_drew] at hz4 | rw [World.size_setCell] at hz4)); (try have : w.heap.size < w4.heap.size := by omega); (try have : w.heap.size < w4.heap.size + 1 := by omega); (try have : w.heap.size < w4.heap.size + 1 + 1 := by omega); (try have : w.heap.size < w4.heap.size + 1 + 1 + 1 := by omega); (try have : w2.heap.size < w4.heap.size := by omega); (try have : w2.heap.size < w4.heap.size + 1 := by omega); (try have : w2.heap.size < w4.heap.size + 1 + 1 := by omega); (try have : w2.heap.size < w4.heap.size + 1 + 1 + 1 := by omega); (try have : w2.heap.size + 1 < w4.heap.size := by omega); (try have : w2.heap.size + 1 < w4.heap.size + 1 := by omega); (try have : w2.heap.size + 1 < w4.heap.size + 1 + 1 := by omega); (try have : w2.heap.size + 1 < w4.heap.size + 1 + 1 + 1 := by omega)
          have F1 := Lib.hid (fewest_len _ _ xs4.length xs4 _ rfl HO4.out.sl (by rw [HX4.out]; exact HRO.out) (by rw [HX4.out]; exact HEX.out) (fun x hx => (HO4.out.lt x.block (by rw [hx]; rfl)).2))
          go_wp2_with fail
          refine F1.out.mono ?_
          rintro e w5 ⟨fa, fc, n1, rfl, HF1, hb5⟩
          have hb45 : Below wr.heap.size wr w5 := hb4.trans (hb5.mono hb4.size)
          have HRv := Lib.hid (HRw.out.below hb45)
          have HOv := Lib.hid (HOw.out.below hb45)
          have HBv := Lib.hid (HBw.out.trans (hb45.mono hzw))
          have HPv : Hid (w5.cell? ⟨A, 0, none⟩ = some (.bool false) ∧ w5.cell? ⟨A, 1, none⟩ = some (.int .u64 (hiOf false qn)) ∧ w5.cell? ⟨A, 2, none⟩ = some (.int .u64 (loOf qn)) ∧ w5.cell? ⟨A, 3, none⟩ = some (.int .i64 qk) ∧ A < w5.heap.size) := by
            obtain ⟨p0, p1, p2, p3, p4⟩ := HP.out
            exact ⟨(hb45.cell p4).trans p0, (hb45.cell p4).trans p1, (hb45.cell p4).trans p2, (hb45.cell p4).trans p3, Nat.lt_of_lt_of_le p4 hb45.size⟩
          rw [HX4.out] at HF1
          have hzv := HBv.out.size
          clear hb4 hb5 hb45 hc4 hf4 hz4 HRw HOw HBw HP F1 HO4 HX4 HL4 hzw
          go_wp2_with fail
          have F2 := Lib.hid (fewest_len _ _ j M _ HML.out.symm HOv.out.sl HMO.out (by obtain ⟨x, hx, h0⟩ := HEX.out; exact ⟨x, (HMM.out x).2 hx, h0⟩) (fun x hx => (HOv.out.lt x.block (by rw [hx]; rfl)).2))
          refine F2.out.mono ?_
          rintro e w6 ⟨ga, gc2, n2, rfl, HF2, hb6⟩
          have hnn : n1 = n2 := by
            obtain ⟨ys, hy1, rfl⟩ := HF1.out
            obtain ⟨zs, hy2, rfl⟩ := HF2.out
            exact few_same HRO.out HMO.out hy1 hy2 HEX.out (by obtain ⟨x, hx, h0⟩ := HEX.out; exact ⟨x, (HMM.out x).2 hx, h0⟩) (fun a _ => goes_mem HMO.out HRO.out HMM.out a)
          subst hnn
          have hpos : 0 < n1 := by
            obtain ⟨ys, hy1, rfl⟩ := HF1.out
            exact few_pos HRO.out hy1 HEX.out
          have HR6 := Lib.hid (HRv.out.below hb6)
          have HB6 := Lib.hid (HBv.out.trans (hb6.mono hzv))
          have HP6 : Hid (w6.cell? ⟨A, 0, none⟩ = some (.bool false) ∧ w6.cell? ⟨A, 1, none⟩ = some (.int .u64 (hiOf false qn)) ∧ w6.cell? ⟨A, 2, none⟩ = some (.int .u64 (loOf qn)) ∧ w6.cell? ⟨A, 3, none⟩ = some (.int .i64 qk) ∧ A < w6.heap.size) := by
            obtain ⟨p0, p1, p2, p3, p4⟩ := HPv.out
            exact ⟨(hb6.cell p4).trans p0, (hb6.cell p4).trans p1, (hb6.cell p4).trans p2, (hb6.cell p4).trans p3, Nat.lt_of_lt_of_le p4 hb6.size⟩
          have hz6 := HB6.out.size
          clear hb6 HRv HOv HBv HPv F2 HF2 HMO HMM HML
          have hp1 : ¬ ((n1 : Int) < 1) := by omega
          rcases HAD.out with h | ⟨h, HNO⟩
          · subst h
            go_wp2_with fail
            go_returns
            exact ⟨rfl, HB6.out⟩
          · subst h
            have HNOh := Lib.hid HNO
            clear HNO HAD
            have HV := Lib.hid HVP.out
            go_wp2_with fail
            go_loopw [20, 21, 22, 23, 24] (fun va vl vi v23 v24 wq => ∃ (i v : Nat) (lo : Int), i ≤ j ∧ vi = .int .i64 i ∧ va = .int .i64 v ∧ vl = .int .i64 lo ∧ Hid (AboveIs (R.take i) qn qk lo v) ∧ Hid (Below w6.heap.size w6 wq)) (fun _ _ i _ _ _ => j - (intOf i).toNat)
            case atStart => exact ⟨0, 0, -1, Nat.zero_le _, rfl, rfl, rfl, Lib.hid (.inl ⟨rfl, rfl, fun z hz => by simp at hz⟩), Below.refl _ _⟩
            case round =>
              obtain ⟨i, v, lo, hi, rfl, rfl, rfl, HAB, HB⟩ := hrel
              have hzq := HB.out.size
              by_cases hlt : i < j
              · obtain ⟨x, hx⟩ : ∃ s, R[i]? = some s := ⟨_, List.getElem?_eq_getElem (by rw [← HN.out]; exact hlt)⟩
                obtain ⟨b, off, rfl, hb, d0, d1, d2, d3, d4⟩ := Sl.route HR6.out.sl HB.out hx
                have HTK := Lib.hid (show R.take (i + 1) = R.take i ++ [x] by rw [List.take_add_one, hx]; rfl)
                have CV := Lib.hid (fun w => covers_ok false x.1 x.2.1 qn qk w (HRO.out.vp x (List.mem_of_getElem? hx)) HVP.out)
                obtain ⟨q0, q1, q2, q3, q4⟩ := HP6.out
                have p0 := (HB.out.cell (p := ⟨A, 0, none⟩) q4).trans q0
                have p1 := (HB.out.cell (p := ⟨A, 1, none⟩) q4).trans q1
                have p2 := (HB.out.cell (p := ⟨A, 2, none⟩) q4).trans q2
                have p3 := (HB.out.cell (p := ⟨A, 3, none⟩) q4).trans q3
                have hAr : A < wr.heap.size := by omega
                have hbr : b < wr.heap.size := by omega
                have hlow := HAB.out.low
                have hlo1 := hlow.1
                have hlo2 := hlow.2
                clear hx q0 q1 q2 q3 q4 hlow
                by_cases hc : cov false x.1 x.2.1 qn qk
                · rw [decide_eq_true hc] at CV
                  go_wp2_with fail
                  refine wp_region_qb (by kernel_rfl) (by kernel_rfl) (fun kq => ?_)
                  repeat (first | go_big_quiet_step ((with_reducible exact Calls.regrown_of (CV.out _))) | quiet_step ((with_reducible exact Calls.regrown_of (CV.out _))))
                  clear kq
                  refine wpQuiet_nil ?_; intro w7 hb7; (repeat (with_reducible (replace hb7 := Below.undrew hb7))); obtain ⟨hc7, hf7⟩ := bcell hb7; have hz7 := hb7.size; (repeat (first | rw [World.size_alloc] at hz7 | rw [World.size_drew] at hz7 | rw [World.size_setCell] at hz7)); (try have : w.heap.size < w7.heap.size := by omega); (try have : w.heap.size < w7.heap.size + 1 := by omega); (try have : w.heap.size < w7.heap.size + 1 + 1 := by omega); (try have : w.heap.size < w7.heap.size + 1 + 1 + 1 := by omega); (try have : w2.heap.size < w7.heap.size := by omega); (try have : w2.heap.size < w7.heap.size + 1 := by omega); (try have : w2.heap.size < w7.heap.size + 1 + 1 := by omega); (try have : w2.heap.size < w7.heap.size + 1 + 1 + 1 := by omega); (try have : w2.heap.size + 1 < w7.heap.size := by omega); (try have : w2.heap.size + 1 < w7.heap.size + 1 := by omega); (try have : w2.heap.size + 1 < w7.heap.size + 1 + 1 := by omega); (try have : w2.heap.size + 1 < w7.heap.size + 1 + 1 + 1 := by omega)
                  have e3 := (hb7.cell (p := ⟨b, off + i * 5 + 3, none⟩) hbr).trans d3
                  have e4 := (hb7.cell (p := ⟨b, off + i * 5 + 4, none⟩) hbr).trans d4
                  have HB7 := Lib.hid (HB.out.trans (hb7.mono hzq))
                  clear hb7 hc7 hf7 p0 p1 p2 p3 d0 d1 d2 d3 d4 CV
                  by_cases hl : lo < x.2.1
                  · have HN1 := Lib.hid (HTK.out ▸ HAB.out.next hc hl)
                    clear hc HAB
                    go_wp2_with fail
                    go_roundw
                    case rel => exact ⟨i + 1, x.2.2, x.2.1, by omega, by go_num, rfl, rfl, HN1, HB7⟩
                    case measure => simp [intOf]; omega
                  · have HN1 := Lib.hid (HTK.out ▸ HAB.out.stay (x := x) (fun h => hl h.2))
                    clear hc HAB
                    go_wp2_with fail
                    go_roundw
                    case rel => exact ⟨i + 1, v, lo, by omega, by go_num, rfl, rfl, HN1, HB7⟩
                    case measure => simp [intOf]; omega
                · rw [decide_eq_false hc] at CV
                  have HN1 := Lib.hid (HTK.out ▸ HAB.out.stay (x := x) (fun h => hc h.1))
                  go_wp2_with fail
                  refine wp_region_qb (by kernel_rfl) (by kernel_rfl) (fun kq => ?_)
                  repeat (first | go_big_quiet_step ((with_reducible exact Calls.regrown_of (CV.out _))) | quiet_step ((with_reducible exact Calls.regrown_of (CV.out _))))
                  clear kq
                  refine wpQuiet_nil ?_; intro w7 hb7; (repeat (with_reducible (replace hb7 := Below.undrew hb7))); obtain ⟨hc7, hf7⟩ := bcell hb7; have hz7 := hb7.size; (repeat (first | rw [World.size_alloc] at hz7 | rw [World.size_drew] at hz7 | rw [World.size_setCell] at hz7)); (try have : w.heap.size < w7.heap.size := by omega); (try have : w.heap.size < w7.heap.size + 1 := by omega); (try have : w.heap.size < w7.heap.size + 1 + 1 := by omega); (try have : w.heap.size < w7.heap.size + 1 + 1 + 1 := by omega); (try have : w2.heap.size < w7.heap.size := by omega); (try have : w2.heap.size < w7.heap.size + 1 := by omega); (try have : w2.heap.size < w7.heap.size + 1 + 1 := by omega); (try have : w2.heap.size < w7.heap.size + 1 + 1 + 1 := by omega); (try have : w2.heap.size + 1 < w7.heap.size := by omega); (try have : w2.heap.size + 1 < w7.heap.size + 1 := by omega); (try have : w2.heap.size + 1 < w7.heap.size + 1 + 1 := by omega); (try have : w2.heap.size + 1 < w7.heap.size + 1 + 1 + 1 := by omega)
                  have HB7 := Lib.hid (HB.out.trans (hb7.mono hzq))
                  clear hb7 hc7 hf7 p0 p1 p2 p3 d0 d1 d2 d3 d4 CV hc HAB
                  go_wp2_with fail
                  go_roundw
                  case rel => exact ⟨i + 1, v, lo, by omega, by go_num, rfl, rfl, HN1, HB7⟩
                  case measure => simp [intOf]; omega
              · obtain rfl : i = j := by omega
                have htk : R.take i = R := by rw [HN.out]; exact List.take_length
                rw [htk] at HAB
                have HGM := Lib.hid (goes_more HRO.out HEX.out HVP.out HNOh.out HAB.out (by rw [← HN.out]; omega))
                obtain ⟨q0, q1, q2, q3, q4⟩ := HP6.out
                have p0 := (HB.out.cell (p := ⟨A, 0, none⟩) q4).trans q0
                have p1 := (HB.out.cell (p := ⟨A, 1, none⟩) q4).trans q1
                have p2 := (HB.out.cell (p := ⟨A, 2, none⟩) q4).trans q2
                have p3 := (HB.out.cell (p := ⟨A, 3, none⟩) q4).trans q3
                have hAr : A < wr.heap.size := by omega
                have HRw := Lib.hid (HR6.out.below HB.out)
                have HBw := Lib.hid (HB6.out.trans (HB.out.mono hz6))
                obtain ⟨X, hX⟩ : ∃ X, X = (qn, qk, v) := ⟨_, rfl⟩
                have hX1 : qn = X.1 := by rw [hX]
                have hX2 : qk = X.2.1 := by rw [hX]
                have hX3 : v = X.2.2 := by rw [hX]
                clear htk HAB q0 q1 q2 q3 q4 HP6 HB HR6 HB6 hzq hlt hi hz6 this hzv HNOh HV HVP
                rw [← hX] at HGM
                subst hX1 hX2 hX3
                clear hX
                obtain ⟨L, hL⟩ : ∃ L, L = R ++ [X] := ⟨_, rfl⟩
                have HL := Lib.hid hL
                rw [← hL] at HGM
                have hLl : L.length = i + 1 := by rw [hL, List.length_append, HN.out]; rfl
                have HLL := Lib.hid hLl
                have BL := Lib.hid (fun a c W hs ha => fewest_len a c L.length L W rfl hs HGM.out.1 (by obtain ⟨x, hx, h0⟩ := HEX.out; exact ⟨x, by rw [HL.out]; exact List.mem_append_left _ hx, h0⟩) ha)
                clear hL hLl
                go_upto_region 30 with fail
                obtain ⟨Z, hZ⟩ : ∃ Z, Z = wr := ⟨_, rfl⟩
                subst hZ
                go_cut [25, 26] (fun v vo wx => ∃ (a : Option Addr) (c n' : Nat), v = .slice a n' c ∧ vo = .int .i64 0 ∧ Hid (∃ ys, SortL L ys ∧ n' = (fewL ys).length) ∧ Hid (Below Z.heap.size Z wx))
                case first =>
                  have hzw : Z.heap.size ≤ Z.heap.size := Nat.le_refl _
                  refine wp_region_held_drew (S := (fun w' => Below Z.heap.size Z w')) (by kernel_rfl) ?_ (fun hHeld => ?_)
                  · ((try dsimp only); (repeat' (first | (with_reducible exact Below.refl _ _) | (with_reducible assumption) | (with_reducible refine Below.alloc ?_ ?_ _) | (with_reducible refine Below.drew ?_) | (with_reducible refine Below.stepG ?_ (by assumption) ?_) | (with_reducible refine Below.setCell ?_ ?_ _) | omega | (dsimp only; omega) | (simp; done) | (simp; omega))))
                  (refine wpAnyH_take (i := 0) (oi := _) (v := ?_) (by simp only [List.getElem?_toArray, List.getElem?_cons_zero, List.getElem?_cons_succ]; rfl) (by kernel_rfl) (by decide +kernel) (by decide +kernel) (by exact fun _ _ _ h => h) (Or.inl ⟨by rfl, ?_⟩) (by assumption) ?_; rotate_left; (· ((intro w hSw); (have hSc := Below.cellAt hSw); clear hSw; go_simp; (try with_reducible rfl))); (try simp only [Act.put, List.setIfInBounds_toArray, List.set_cons_zero, List.set_cons_succ]))
                  (refine wpAnyH_take (i := 2) (oi := _) (v := ?_) (by simp only [List.getElem?_toArray, List.getElem?_cons_zero, List.getElem?_cons_succ]; rfl) (by kernel_rfl) (by decide +kernel) (by decide +kernel) (by exact fun _ _ _ h => h) (Or.inl ⟨by rfl, ?_⟩) (by assumption) ?_; rotate_left; (· ((intro w hSw); (have hSc := Below.cellAt hSw); clear hSw; go_simp; (try with_reducible rfl))); (try simp only [Act.put, List.setIfInBounds_toArray, List.set_cons_zero, List.set_cons_succ]))
                  (refine wpAnyH_take (i := 3) (oi := _) (v := ?_) (by simp only [List.getElem?_toArray, List.getElem?_cons_zero, List.getElem?_cons_succ]; rfl) (by kernel_rfl) (by decide +kernel) (by decide +kernel) (by exact fun _ _ _ h => h) (Or.inl ⟨by rfl, ?_⟩) (by assumption) ?_; rotate_left; (· ((intro w hSw); (have hSc := Below.cellAt hSw); clear hSw; go_simp; (try with_reducible rfl))); (try simp only [Act.put, List.setIfInBounds_toArray, List.set_cons_zero, List.set_cons_succ]))
                  (refine wpAnyH_take (i := 4) (oi := _) (v := ?_) (by simp only [List.getElem?_toArray, List.getElem?_cons_zero, List.getElem?_cons_succ]; rfl) (by kernel_rfl) (by decide +kernel) (by decide +kernel) (by exact fun _ _ _ h => h) (Or.inl ⟨by rfl, ?_⟩) (by assumption) ?_; rotate_left; (· ((intro w hSw); (have hSc := Below.cellAt hSw); clear hSw; go_simp; (try with_reducible rfl))); (try simp only [Act.put, List.setIfInBounds_toArray, List.set_cons_zero, List.set_cons_succ]))
                  repeat' (first
                    | (refine wpAnyH_take (i := 8) (oi := _) (v := ?_) (by simp only [List.getElem?_toArray, List.getElem?_cons_zero, List.getElem?_cons_succ]; rfl) (by kernel_rfl) (by decide +kernel) (by decide +kernel) (by exact fun _ _ _ h => h) (Or.inl ⟨by rfl, ?_⟩) (by assumption) ?_; rotate_left; (· ((intro w hSw); (have hSc := Below.cellAt hSw); clear hSw; go_simp; (try with_reducible rfl))); (try simp only [Act.put, List.setIfInBounds_toArray, List.set_cons_zero, List.set_cons_succ]))
                    | (refine wpAnyH_take (i := 9) (oi := _) (v := ?_) (by simp only [List.getElem?_toArray, List.getElem?_cons_zero, List.getElem?_cons_succ]; rfl) (by kernel_rfl) (by decide +kernel) (by decide +kernel) (by exact fun _ _ _ h => h) (Or.inl ⟨by rfl, ?_⟩) (by assumption) ?_; rotate_left; (· ((intro w hSw); (have hSc := Below.cellAt hSw); clear hSw; go_simp; (try with_reducible rfl))); (try simp only [Act.put, List.setIfInBounds_toArray, List.set_cons_zero, List.set_cons_succ]))
                    | (refine wpAnyH_take (i := 10) (oi := _) (v := ?_) (by simp only [List.getElem?_toArray, List.getElem?_cons_zero, List.getElem?_cons_succ]; rfl) (by kernel_rfl) (by decide +kernel) (by decide +kernel) (by exact fun _ _ _ h => h) (Or.inl ⟨by rfl, ?_⟩) (by assumption) ?_; rotate_left; (· ((intro w hSw); (have hSc := Below.cellAt hSw); clear hSw; go_simp; (try with_reducible rfl))); (try simp only [Act.put, List.setIfInBounds_toArray, List.set_cons_zero, List.set_cons_succ]))
                    | (refine wpAnyH_take (i := 11) (oi := _) (v := ?_) (by simp only [List.getElem?_toArray, List.getElem?_cons_zero, List.getElem?_cons_succ]; rfl) (by kernel_rfl) (by decide +kernel) (by decide +kernel) (by exact fun _ _ _ h => h) (Or.inl ⟨by rfl, ?_⟩) (by assumption) ?_; rotate_left; (· ((intro w hSw); (have hSc := Below.cellAt hSw); clear hSw; go_simp; (try with_reducible rfl))); (try simp only [Act.put, List.setIfInBounds_toArray, List.set_cons_zero, List.set_cons_succ]))
                    | (refine wpAnyH_take (i := 12) (oi := _) (v := ?_) (by simp only [List.getElem?_toArray, List.getElem?_cons_zero, List.getElem?_cons_succ]; rfl) (by kernel_rfl) (by decide +kernel) (by decide +kernel) (by exact fun _ _ _ h => h) (Or.inl ⟨by rfl, ?_⟩) (by assumption) ?_; rotate_left; (· ((intro w hSw); (have hSc := Below.cellAt hSw); clear hSw; go_simp; (try with_reducible rfl))); (try simp only [Act.put, List.setIfInBounds_toArray, List.set_cons_zero, List.set_cons_succ]))
                    | (refine wpAnyH_ready (rs := [1, 5]) (by decide +kernel) (by simp) (AllReadyH.cons (by simp only [List.getElem?_toArray, List.getElem?_cons_zero, List.getElem?_cons_succ]; rfl) (fun K hK => ?_) (AllReadyH.cons (by simp only [List.getElem?_toArray, List.getElem?_cons_zero, List.getElem?_cons_succ]; rfl) (fun K hK => ?_) AllReadyH.nil)); all_goals ((first | (refine step_append_any rfl (.const (.slice none 0 0)) (.tmp 150) 43 49 5 40 _ rfl eiRoute _ (.slice none 0 0) [] rfl (Wk.Own.nil _ _ _ _) (.slice ra i rc) (R.map routeCells) rfl (HRw.out.sl.below (by (repeat' (first | (with_reducible exact Below.refl _ _) | (with_reducible assumption) | (with_reducible refine Below.alloc ?_ ?_ _) | (with_reducible refine Below.drew ?_) | (with_reducible refine Below.stepG ?_ (by assumption) ?_) | (with_reducible refine Below.setCell ?_ ?_ _) | omega | (dsimp only; omega) | (simp; done) | (simp; omega))))) (by intro c hc; obtain ⟨r, _, rfl⟩ := List.mem_map.1 hc; exact routeCells_one r) (by have h9 := HN.out; simp; omega) (by decide) (Nat.le_refl _) ?_; intro vA wA hownA hbA; have hsA := hbA.size; (try simp at hsA); rw [List.nil_append] at hownA; obtain ⟨aA, cA, hshA⟩ := hownA.shape; rw [List.length_map] at hshA; subst hshA) | (refine step_append_any rfl (.tmp 151) (.tmp 155) 43 49 5 40 _ rfl eiRoute Z.heap.size (.slice aA R.length cA) (R.map routeCells) rfl ((hownA.base (by first | exact Nat.le_refl _ | omega | (simp; done) | (simp; omega))).below (by (repeat' (first | (with_reducible exact Below.refl _ _) | (with_reducible assumption) | (with_reducible refine Below.alloc ?_ ?_ _) | (with_reducible refine Below.drew ?_) | (with_reducible refine Below.stepG ?_ (by assumption) ?_) | (with_reducible refine Below.setCell ?_ ?_ _) | omega | (dsimp only; omega) | (simp; done) | (simp; omega))))) _ ([X].map routeCells) rfl (by first | exact sl_rtW X (by (first | omega | (simp; done) | (simp; omega))) | exact (sl_rtW X (W := Z.drew) (by (first | omega | (simp; done) | (simp; omega)))).below hbA) (by intro c hc; obtain ⟨r, _, rfl⟩ := List.mem_map.1 hc; exact routeCells_one r) (by have h9 := HN.out; simp; omega) (by decide) (by first | omega | (simp; omega)) ?_; intro vB wB hownB hbB; rw [← List.map_append, ← HL.out] at hownB; have hsB := hbB.size; (try simp at hsB); obtain ⟨aB, cB, hshB⟩ := hownB.shape; rw [List.length_map] at hshB; subst hshB) | (go_simp; (first | ((with_reducible refine (BL.out _ _ _ (by first | exact hownB.sl | exact hownB.dr.sl) (by first | exact own_ltW hownB | exact own_ltW hownB.dr)).mono ?_); rintro e wD ⟨aD, cD, nD, rfl, HFD, hbD⟩) | skip))); (refine hK.out _ _ ?_ (fun hHeld => ?_)); (· ((try dsimp only); (repeat' (first | (with_reducible exact Below.refl _ _) | (with_reducible assumption) | (with_reducible refine Below.alloc ?_ ?_ _) | (with_reducible refine Below.drew ?_) | (with_reducible refine Below.stepG ?_ (by assumption) ?_) | (with_reducible refine Below.setCell ?_ ?_ _) | omega | (dsimp only; omega) | (simp; done) | (simp; omega))))); (clear hK K; (try simp only [Act.put, List.setIfInBounds_toArray, List.set_cons_zero, List.set_cons_succ]))))
                    | (refine wpAnyH_ready (rs := [1]) (by decide +kernel) (by simp) (AllReadyH.cons (by simp only [List.getElem?_toArray, List.getElem?_cons_zero, List.getElem?_cons_succ]; rfl) (fun K hK => ?_) AllReadyH.nil); all_goals ((first | (refine step_append_any rfl (.const (.slice none 0 0)) (.tmp 150) 43 49 5 40 _ rfl eiRoute _ (.slice none 0 0) [] rfl (Wk.Own.nil _ _ _ _) (.slice ra i rc) (R.map routeCells) rfl (HRw.out.sl.below (by (repeat' (first | (with_reducible exact Below.refl _ _) | (with_reducible assumption) | (with_reducible refine Below.alloc ?_ ?_ _) | (with_reducible refine Below.drew ?_) | (with_reducible refine Below.stepG ?_ (by assumption) ?_) | (with_reducible refine Below.setCell ?_ ?_ _) | omega | (dsimp only; omega) | (simp; done) | (simp; omega))))) (by intro c hc; obtain ⟨r, _, rfl⟩ := List.mem_map.1 hc; exact routeCells_one r) (by have h9 := HN.out; simp; omega) (by decide) (Nat.le_refl _) ?_; intro vA wA hownA hbA; have hsA := hbA.size; (try simp at hsA); rw [List.nil_append] at hownA; obtain ⟨aA, cA, hshA⟩ := hownA.shape; rw [List.length_map] at hshA; subst hshA) | (refine step_append_any rfl (.tmp 151) (.tmp 155) 43 49 5 40 _ rfl eiRoute Z.heap.size (.slice aA R.length cA) (R.map routeCells) rfl ((hownA.base (by first | exact Nat.le_refl _ | omega | (simp; done) | (simp; omega))).below (by (repeat' (first | (with_reducible exact Below.refl _ _) | (with_reducible assumption) | (with_reducible refine Below.alloc ?_ ?_ _) | (with_reducible refine Below.drew ?_) | (with_reducible refine Below.stepG ?_ (by assumption) ?_) | (with_reducible refine Below.setCell ?_ ?_ _) | omega | (dsimp only; omega) | (simp; done) | (simp; omega))))) _ ([X].map routeCells) rfl (by first | exact sl_rtW X (by (first | omega | (simp; done) | (simp; omega))) | exact (sl_rtW X (W := Z.drew) (by (first | omega | (simp; done) | (simp; omega)))).below hbA) (by intro c hc; obtain ⟨r, _, rfl⟩ := List.mem_map.1 hc; exact routeCells_one r) (by have h9 := HN.out; simp; omega) (by decide) (by first | omega | (simp; omega)) ?_; intro vB wB hownB hbB; rw [← List.map_append, ← HL.out] at hownB; have hsB := hbB.size; (try simp at hsB); obtain ⟨aB, cB, hshB⟩ := hownB.shape; rw [List.length_map] at hshB; subst hshB) | (go_simp; (first | ((with_reducible refine (BL.out _ _ _ (by first | exact hownB.sl | exact hownB.dr.sl) (by first | exact own_ltW hownB | exact own_ltW hownB.dr)).mono ?_); rintro e wD ⟨aD, cD, nD, rfl, HFD, hbD⟩) | skip))); (refine hK.out _ _ ?_ (fun hHeld => ?_)); (· ((try dsimp only); (repeat' (first | (with_reducible exact Below.refl _ _) | (with_reducible assumption) | (with_reducible refine Below.alloc ?_ ?_ _) | (with_reducible refine Below.drew ?_) | (with_reducible refine Below.stepG ?_ (by assumption) ?_) | (with_reducible refine Below.setCell ?_ ?_ _) | omega | (dsimp only; omega) | (simp; done) | (simp; omega))))); (clear hK K; (try simp only [Act.put, List.setIfInBounds_toArray, List.set_cons_zero, List.set_cons_succ]))))
                    | (refine wpAnyH_ready (rs := [5]) (by decide +kernel) (by simp) (AllReadyH.cons (by simp only [List.getElem?_toArray, List.getElem?_cons_zero, List.getElem?_cons_succ]; rfl) (fun K hK => ?_) AllReadyH.nil); all_goals ((first | (refine step_append_any rfl (.const (.slice none 0 0)) (.tmp 150) 43 49 5 40 _ rfl eiRoute _ (.slice none 0 0) [] rfl (Wk.Own.nil _ _ _ _) (.slice ra i rc) (R.map routeCells) rfl (HRw.out.sl.below (by (repeat' (first | (with_reducible exact Below.refl _ _) | (with_reducible assumption) | (with_reducible refine Below.alloc ?_ ?_ _) | (with_reducible refine Below.drew ?_) | (with_reducible refine Below.stepG ?_ (by assumption) ?_) | (with_reducible refine Below.setCell ?_ ?_ _) | omega | (dsimp only; omega) | (simp; done) | (simp; omega))))) (by intro c hc; obtain ⟨r, _, rfl⟩ := List.mem_map.1 hc; exact routeCells_one r) (by have h9 := HN.out; simp; omega) (by decide) (Nat.le_refl _) ?_; intro vA wA hownA hbA; have hsA := hbA.size; (try simp at hsA); rw [List.nil_append] at hownA; obtain ⟨aA, cA, hshA⟩ := hownA.shape; rw [List.length_map] at hshA; subst hshA) | (refine step_append_any rfl (.tmp 151) (.tmp 155) 43 49 5 40 _ rfl eiRoute Z.heap.size (.slice aA R.length cA) (R.map routeCells) rfl ((hownA.base (by first | exact Nat.le_refl _ | omega | (simp; done) | (simp; omega))).below (by (repeat' (first | (with_reducible exact Below.refl _ _) | (with_reducible assumption) | (with_reducible refine Below.alloc ?_ ?_ _) | (with_reducible refine Below.drew ?_) | (with_reducible refine Below.stepG ?_ (by assumption) ?_) | (with_reducible refine Below.setCell ?_ ?_ _) | omega | (dsimp only; omega) | (simp; done) | (simp; omega))))) _ ([X].map routeCells) rfl (by first | exact sl_rtW X (by (first | omega | (simp; done) | (simp; omega))) | exact (sl_rtW X (W := Z.drew) (by (first | omega | (simp; done) | (simp; omega)))).below hbA) (by intro c hc; obtain ⟨r, _, rfl⟩ := List.mem_map.1 hc; exact routeCells_one r) (by have h9 := HN.out; simp; omega) (by decide) (by first | omega | (simp; omega)) ?_; intro vB wB hownB hbB; rw [← List.map_append, ← HL.out] at hownB; have hsB := hbB.size; (try simp at hsB); obtain ⟨aB, cB, hshB⟩ := hownB.shape; rw [List.length_map] at hshB; subst hshB) | (go_simp; (first | ((with_reducible refine (BL.out _ _ _ (by first | exact hownB.sl | exact hownB.dr.sl) (by first | exact own_ltW hownB | exact own_ltW hownB.dr)).mono ?_); rintro e wD ⟨aD, cD, nD, rfl, HFD, hbD⟩) | skip))); (refine hK.out _ _ ?_ (fun hHeld => ?_)); (· ((try dsimp only); (repeat' (first | (with_reducible exact Below.refl _ _) | (with_reducible assumption) | (with_reducible refine Below.alloc ?_ ?_ _) | (with_reducible refine Below.drew ?_) | (with_reducible refine Below.stepG ?_ (by assumption) ?_) | (with_reducible refine Below.setCell ?_ ?_ _) | omega | (dsimp only; omega) | (simp; done) | (simp; omega))))); (clear hK K; (try simp only [Act.put, List.setIfInBounds_toArray, List.set_cons_zero, List.set_cons_succ]))))
                    | (refine wpAnyH_ready (rs := [6]) (by decide +kernel) (by simp) (AllReadyH.cons (by simp only [List.getElem?_toArray, List.getElem?_cons_zero, List.getElem?_cons_succ]; rfl) (fun K hK => ?_) AllReadyH.nil); all_goals ((first | (refine step_append_any rfl (.const (.slice none 0 0)) (.tmp 150) 43 49 5 40 _ rfl eiRoute _ (.slice none 0 0) [] rfl (Wk.Own.nil _ _ _ _) (.slice ra i rc) (R.map routeCells) rfl (HRw.out.sl.below (by (repeat' (first | (with_reducible exact Below.refl _ _) | (with_reducible assumption) | (with_reducible refine Below.alloc ?_ ?_ _) | (with_reducible refine Below.drew ?_) | (with_reducible refine Below.stepG ?_ (by assumption) ?_) | (with_reducible refine Below.setCell ?_ ?_ _) | omega | (dsimp only; omega) | (simp; done) | (simp; omega))))) (by intro c hc; obtain ⟨r, _, rfl⟩ := List.mem_map.1 hc; exact routeCells_one r) (by have h9 := HN.out; simp; omega) (by decide) (Nat.le_refl _) ?_; intro vA wA hownA hbA; have hsA := hbA.size; (try simp at hsA); rw [List.nil_append] at hownA; obtain ⟨aA, cA, hshA⟩ := hownA.shape; rw [List.length_map] at hshA; subst hshA) | (refine step_append_any rfl (.tmp 151) (.tmp 155) 43 49 5 40 _ rfl eiRoute Z.heap.size (.slice aA R.length cA) (R.map routeCells) rfl ((hownA.base (by first | exact Nat.le_refl _ | omega | (simp; done) | (simp; omega))).below (by (repeat' (first | (with_reducible exact Below.refl _ _) | (with_reducible assumption) | (with_reducible refine Below.alloc ?_ ?_ _) | (with_reducible refine Below.drew ?_) | (with_reducible refine Below.stepG ?_ (by assumption) ?_) | (with_reducible refine Below.setCell ?_ ?_ _) | omega | (dsimp only; omega) | (simp; done) | (simp; omega))))) _ ([X].map routeCells) rfl (by first | exact sl_rtW X (by (first | omega | (simp; done) | (simp; omega))) | exact (sl_rtW X (W := Z.drew) (by (first | omega | (simp; done) | (simp; omega)))).below hbA) (by intro c hc; obtain ⟨r, _, rfl⟩ := List.mem_map.1 hc; exact routeCells_one r) (by have h9 := HN.out; simp; omega) (by decide) (by first | omega | (simp; omega)) ?_; intro vB wB hownB hbB; rw [← List.map_append, ← HL.out] at hownB; have hsB := hbB.size; (try simp at hsB); obtain ⟨aB, cB, hshB⟩ := hownB.shape; rw [List.length_map] at hshB; subst hshB) | (go_simp; (first | ((with_reducible refine (BL.out _ _ _ (by first | exact hownB.sl | exact hownB.dr.sl) (by first | exact own_ltW hownB | exact own_ltW hownB.dr)).mono ?_); rintro e wD ⟨aD, cD, nD, rfl, HFD, hbD⟩) | skip))); (refine hK.out _ _ ?_ (fun hHeld => ?_)); (· ((try dsimp only); (repeat' (first | (with_reducible exact Below.refl _ _) | (with_reducible assumption) | (with_reducible refine Below.alloc ?_ ?_ _) | (with_reducible refine Below.drew ?_) | (with_reducible refine Below.stepG ?_ (by assumption) ?_) | (with_reducible refine Below.setCell ?_ ?_ _) | omega | (dsimp only; omega) | (simp; done) | (simp; omega))))); (clear hK K; (try simp only [Act.put, List.setIfInBounds_toArray, List.set_cons_zero, List.set_cons_succ]))))
                    | (refine wpAnyH_ready (rs := [7]) (by decide +kernel) (by simp) (AllReadyH.cons (by simp only [List.getElem?_toArray, List.getElem?_cons_zero, List.getElem?_cons_succ]; rfl) (fun K hK => ?_) AllReadyH.nil); all_goals ((first | (refine step_append_any rfl (.const (.slice none 0 0)) (.tmp 150) 43 49 5 40 _ rfl eiRoute _ (.slice none 0 0) [] rfl (Wk.Own.nil _ _ _ _) (.slice ra i rc) (R.map routeCells) rfl (HRw.out.sl.below (by (repeat' (first | (with_reducible exact Below.refl _ _) | (with_reducible assumption) | (with_reducible refine Below.alloc ?_ ?_ _) | (with_reducible refine Below.drew ?_) | (with_reducible refine Below.stepG ?_ (by assumption) ?_) | (with_reducible refine Below.setCell ?_ ?_ _) | omega | (dsimp only; omega) | (simp; done) | (simp; omega))))) (by intro c hc; obtain ⟨r, _, rfl⟩ := List.mem_map.1 hc; exact routeCells_one r) (by have h9 := HN.out; simp; omega) (by decide) (Nat.le_refl _) ?_; intro vA wA hownA hbA; have hsA := hbA.size; (try simp at hsA); rw [List.nil_append] at hownA; obtain ⟨aA, cA, hshA⟩ := hownA.shape; rw [List.length_map] at hshA; subst hshA) | (refine step_append_any rfl (.tmp 151) (.tmp 155) 43 49 5 40 _ rfl eiRoute Z.heap.size (.slice aA R.length cA) (R.map routeCells) rfl ((hownA.base (by first | exact Nat.le_refl _ | omega | (simp; done) | (simp; omega))).below (by (repeat' (first | (with_reducible exact Below.refl _ _) | (with_reducible assumption) | (with_reducible refine Below.alloc ?_ ?_ _) | (with_reducible refine Below.drew ?_) | (with_reducible refine Below.stepG ?_ (by assumption) ?_) | (with_reducible refine Below.setCell ?_ ?_ _) | omega | (dsimp only; omega) | (simp; done) | (simp; omega))))) _ ([X].map routeCells) rfl (by first | exact sl_rtW X (by (first | omega | (simp; done) | (simp; omega))) | exact (sl_rtW X (W := Z.drew) (by (first | omega | (simp; done) | (simp; omega)))).below hbA) (by intro c hc; obtain ⟨r, _, rfl⟩ := List.mem_map.1 hc; exact routeCells_one r) (by have h9 := HN.out; simp; omega) (by decide) (by first | omega | (simp; omega)) ?_; intro vB wB hownB hbB; rw [← List.map_append, ← HL.out] at hownB; have hsB := hbB.size; (try simp at hsB); obtain ⟨aB, cB, hshB⟩ := hownB.shape; rw [List.length_map] at hshB; subst hshB) | (go_simp; (first | ((with_reducible refine (BL.out _ _ _ (by first | exact hownB.sl | exact hownB.dr.sl) (by first | exact own_ltW hownB | exact own_ltW hownB.dr)).mono ?_); rintro e wD ⟨aD, cD, nD, rfl, HFD, hbD⟩) | skip))); (refine hK.out _ _ ?_ (fun hHeld => ?_)); (· ((try dsimp only); (repeat' (first | (with_reducible exact Below.refl _ _) | (with_reducible assumption) | (with_reducible refine Below.alloc ?_ ?_ _) | (with_reducible refine Below.drew ?_) | (with_reducible refine Below.stepG ?_ (by assumption) ?_) | (with_reducible refine Below.setCell ?_ ?_ _) | omega | (dsimp only; omega) | (simp; done) | (simp; omega))))); (clear hK K; (try simp only [Act.put, List.setIfInBounds_toArray, List.set_cons_zero, List.set_cons_succ]))))
                    | (refine wpAnyH_done (by decide +kernel) ?_ _)
                    | fail)
                  all_goals go_wp2_with fail
                  all_goals go_meet
                  all_goals exact ⟨aD, cD, nD, rfl, rfl, HFD, Lib.hid (by (repeat' (first | (with_reducible exact Below.refl _ _) | (with_reducible assumption) | (with_reducible refine Below.alloc ?_ ?_ _) | (with_reducible refine Below.drew ?_) | (with_reducible refine Below.stepG ?_ (by assumption) ?_) | (with_reducible refine Below.setCell ?_ ?_ _) | omega | (dsimp only; omega) | (simp; done) | (simp; omega))))⟩
                case rest =>
                  obtain ⟨ad, cd, nd, rfl, rfl, HFD, HBY⟩ := hcut
                  have hnd : n1 = nd := by
                    obtain ⟨ys, hy1, rfl⟩ := HF1.out
                    obtain ⟨zs, hy2, rfl⟩ := HFD.out
                    exact few_same HRO.out HGM.out.1 hy1 hy2 HEX.out (by obtain ⟨x, hx, h0⟩ := HEX.out; exact ⟨x, by rw [HL.out]; exact List.mem_append_left _ hx, h0⟩) HGM.out.2
                  subst hnd
                  have HBE := Lib.hid (HBw.out.trans (HBY.out.mono HBw.out.size))
                  clear HFD HBY HF1 HGM BL p0 p1 p2 p3
                  go_wp2_with fail
                  go_returns
                  exact ⟨by simp, HBE.out⟩
end Go.Proofs.Ytoecmoicaklbaaa

