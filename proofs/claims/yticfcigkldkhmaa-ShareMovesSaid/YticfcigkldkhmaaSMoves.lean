
/- ShareMoves: the walk. -/
import Derived.Test.YticfcigkldkhmaaSMovP
set_option linter.unusedVariables false
set_option linter.unusedSimpArgs false
namespace Go.Proofs.Yticfcigkldkhmaa
open Go Go.RowKit Go.Sort Wc Wk


set_option maxHeartbeats 2000000 in
set_option maxRecDepth 100000 in
theorem shareMoves_walk (a1 : Option Addr) (len1 cap1 : Nat) (zs1 : List Int) (a2 : Option Addr) (len2 cap2 : Nat) (zs2 : List Int) (many : Int) (w : World) (h1 : IsRow .i64 w a1 len1 cap1 zs1) (h2 : IsRow .i64 w a2 len2 cap2 zs2) (hm : -9223372036854775808 ≤ many ∧ many ≤ 9223372036854775807) :
    Calls Try.prog 13 #[.slice a1 len1 cap1, .slice a2 len2 cap2, .int .i64 many] w fun e w' => e = .returned (.bool true) ∧ Below w.heap.size w w' := by
  obtain ⟨r, hr⟩ := Int.eq_ofNat_of_zero_le (Int.emod_nonneg many (show (64 : Int) ≠ 0 by decide))
  have hr1 := Int.emod_lt_of_pos many (show (0 : Int) < 64 by decide)
  have P := Lib.hid (fun w => picked_any many 64 w (by decide) (by decide))
  rw [hr] at P hr1
  have SH1 : Hid (Calls Try.prog 31 #[.slice a1 len1 cap1, .int .i64 16] w (RetSh w 16)) := shares_any a1 len1 cap1 zs1 16 w h1 (by omega) (by omega)
  have SH2 : Hid (∀ W, Below w.heap.size w W → Calls Try.prog 31 #[.slice a2 len2 cap2, .int .i64 16] W (RetSh W 16)) := fun W hb => shares_any a2 len2 cap2 zs2 16 W (row_below h2 hb) (by omega) (by omega)
  obtain ⟨n, hn⟩ : ∃ n, n = 1 + r := ⟨_, rfl⟩
  have n1 : 1 ≤ n := by omega
  have n2 : n ≤ 64 := by omega
  have e1 : (1 : Int) + (r : Int) = (n : Int) := by omega
  have e2 : wrap64 (n : Int) = (n : Int) := wrap64_in (by omega) (by omega)
  clear hr hr1 hm h1 h2 hn
  go_enter Try.func13, Try.ntmps13
  go_wp2_with ((with_reducible refine SH1.out.mono ?_); rintro e w2 ⟨v2, sa, rfl, hb2, ho2, hoka, hsa⟩; have HB2 := Lib.hid hb2)
  obtain ⟨aa, ca, rfl⟩ := ho2.shape
  rw [List.length_map] at ho2 ⊢
  have HA := Lib.hid ho2.sl
  have HOKA := Lib.hid hoka
  clear ho2 hoka hb2
  go_wp2_with (first | ((with_reducible refine (SH2.out _ HB2.out).mono ?_); rintro e w3 ⟨v3, sb, rfl, hb3, ho3, hokb, hsb⟩; have HB3 := Lib.hid hb3) | ((with_reducible refine (P.out _).mono ?_); rintro e w' ⟨rfl, rfl⟩))
  obtain ⟨ab, cb, rfl⟩ := ho3.shape
  rw [List.length_map] at ho3 ⊢
  have hlb := (own_lens ho3).2
  have HSB := Lib.hid ho3.sl
  have HOKB := Lib.hid hokb
  have HA3 := Lib.hid (HA.out.below hb3)
  have D1 := Lib.hid (dealt_any aa ca sa.length sa n w3 rfl HA3.out HOKA.out n1 n2)
  clear ho3 hokb hb3
  go_wp2_with (first | ((with_reducible refine (P.out _).mono ?_); rintro e w' ⟨rfl, rfl⟩) | ((with_reducible refine D1.out.mono ?_); rintro e w4 ⟨v4, rfl, hb4, ho4⟩; have HB4 := Lib.hid hb4; obtain ⟨ax, cx, rfl⟩ := ho4.shape; rw [List.length_map, dealt_len HOKA.out] at ho4 ⊢))
  have HX := Lib.hid ho4.sl
  have D2 := Lib.hid (dealt_any ab cb sb.length sb n w4 rfl (HSB.out.below HB4.out) HOKB.out n1 n2)
  have hlx := (own_lens ho4).2
  clear ho4 hb4
  go_wp2_with (first | ((with_reducible refine D2.out.mono ?_); rintro e w5 ⟨v5, rfl, hb5, ho5⟩; have HB5 := Lib.hid hb5; obtain ⟨ay, cy, rfl⟩ := ho5.shape; rw [List.length_map, dealt_len HOKB.out] at ho5 ⊢) | (at_builtin; refine stop_at ?_; intro G hG))
  have HY := Lib.hid ho5.sl
  have hly := (own_lens ho5).2
  obtain ⟨X, hX⟩ : ∃ X, X = dealtL sa n := ⟨_, rfl⟩
  obtain ⟨Y, hY⟩ : ∃ Y, Y = dealtL sb n := ⟨_, rfl⟩
  rw [← hX] at HX
  rw [← hY] at HY
  have HXL := Lib.hid (show X.length = n by rw [hX]; exact dealt_len HOKA.out n)
  have HXD := Lib.hid hX
  have HYD := Lib.hid hY
  have HX5 := Lib.hid (HX.out.below hb5)
  have HSB5 := Lib.hid ((HSB.out.below HB4.out).below hb5)
  clear ho5 hb5 hX hY SH1 SH2 D1 D2 HA HA3
  rw [← hG.out]; clear hG G
  refine wpList_append_any rfl _ _ 44 3 1 8 _ rfl eiNat w5.heap.size _ ((([] : List Nat)).map nC) rfl (Own.nil _ _ _ _) _ ((X).map nC) rfl (HX5.out) (by intro c hc; obtain ⟨r, _, rfl⟩ := List.mem_map.1 hc; exact nC_one r) (by have := HXL.out; first | omega | (simp; omega)) (by decide) (by first | omega | (simp; done) | (simp; omega)) ?_
  intro v6 w6 hown6 hb6
  rw [← List.map_append] at hown6
  obtain ⟨xs6, hxs6⟩ : ∃ x : List Nat, x = (([] : List Nat)) ++ (X) := ⟨_, rfl⟩
  rw [← hxs6] at hown6
  have hl6 : xs6.length = (([] : List Nat)).length + (X).length := by rw [hxs6, List.length_append]
  have HX6 := Lib.hid hxs6
  clear hxs6
  have HL6 := Lib.hid hl6
  clear hl6
  obtain ⟨a6, cap6, rfl⟩ := hown6.shape
  rw [List.length_map] at hown6 ⊢
  have HO6 := Lib.hid hown6
  clear hown6
  obtain ⟨hc6, hf6⟩ := bcellB hb6; have hz6 := hb6.size; (repeat (first | rw [World.size_alloc] at hz6 | rw [World.size_drew] at hz6 | rw [World.size_setCell] at hz6))
  have hx6 : xs6 = X := HX6.out
  subst hx6
  have HB6 := Lib.hid hb6
  clear hc6 hf6
  go_wp2_with (at_builtin; refine stop_at ?_; intro G hG)
  rw [← hG.out]; clear hG G
  refine wpList_append_any rfl _ _ 66 73 2 16 _ rfl eiShare w6.heap.size _ ((([] : List (Nat × Nat))).map shCells) rfl (Own.nil _ _ _ _) _ ((sb).map shCells) rfl (HSB5.out.below HB6.out) (by intro c hc; obtain ⟨r, _, rfl⟩ := List.mem_map.1 hc; exact shCells_one r) (by skip; first | omega | (simp; omega)) (by decide) (by first | omega | (simp; done) | (simp; omega)) ?_
  intro v7 w7 hown7 hb7
  rw [← List.map_append] at hown7
  obtain ⟨xs7, hxs7⟩ : ∃ x : List (Nat × Nat), x = (([] : List (Nat × Nat))) ++ (sb) := ⟨_, rfl⟩
  rw [← hxs7] at hown7
  have hl7 : xs7.length = (([] : List (Nat × Nat))).length + (sb).length := by rw [hxs7, List.length_append]
  have HX7 := Lib.hid hxs7
  clear hxs7
  have HL7 := Lib.hid hl7
  clear hl7
  obtain ⟨a7, cap7, rfl⟩ := hown7.shape
  rw [List.length_map] at hown7 ⊢
  have HO7 := Lib.hid hown7
  clear hown7
  obtain ⟨hc7, hf7⟩ := bcellB hb7; have hz7 := hb7.size; (repeat (first | rw [World.size_alloc] at hz7 | rw [World.size_drew] at hz7 | rw [World.size_setCell] at hz7))
  have hx7 : xs7 = sb := HX7.out
  subst hx7
  have HB7 := Lib.hid hb7
  have TN := Lib.hid (turn_any a6 cap6 xs6.length xs6 a7 cap7 xs7.length xs7 w7 rfl (HO6.out.sl.below HB7.out) (by rw [HXD.out]; exact dealt_buck HOKA.out n1 n2) rfl HO7.out.sl HOKB.out)
  clear hc7 hf7 hb6 hb7
  go_wp2_with ((with_reducible refine TN.out.mono ?_); rintro e w8 ⟨gz, rfl, hb8, ho8⟩; have HB8 := Lib.hid hb8; rw [HXL.out] at ho8 ⊢)
  have hT := turn_law HOKB.out xs6
  rw [HXL.out] at hT
  obtain ⟨Z, hZ⟩ : ∃ Z, Z = turnL (xs7.map (·.1)) (partsL (xs7.map (·.2)) n) xs6 := ⟨_, rfl⟩
  rw [← hZ] at ho8
  have HZL := Lib.hid (show Z.length = n by rw [hZ, hT.len]; exact HXL.out)
  have HZC := Lib.hid (fun k y (hy : xs7[k]? = some y) => show Z.count y.1 = (partsL (xs7.map (·.2)) n).getD k 0 by
    have hk := (List.getElem?_eq_some_iff.1 hy).1
    have ex : (xs7.map (·.1)).getD k 0 = y.1 := by rw [List.getD_eq_getElem?_getD, List.getElem?_map, hy]; rfl
    have := hT.count k (by simpa using hk)
    rw [ex, ← hZ] at this
    exact this)
  have HZS := Lib.hid (fun k y (hy : xs7[k]? = some y) => show both2 y.1 xs6 Z = min (xs6.count y.1) ((partsL (xs7.map (·.2)) n).getD k 0) by
    have hk := (List.getElem?_eq_some_iff.1 hy).1
    have ex : (xs7.map (·.1)).getD k 0 = y.1 := by rw [List.getD_eq_getElem?_getD, List.getElem?_map, hy]; rfl
    have := hT.stay k (by simpa using hk)
    rw [ex, ← hZ] at this
    exact this)
  have HTOT := Lib.hid (show same2 xs6 Z = ((xs7.map (·.1)).map fun h => both2 h xs6 Z).sum from same_sum HOKB.out.keys xs6 Z (by rw [HZL.out]; exact HXL.out) (fun z hz => by rw [hZ] at hz; exact hT.mem z hz))
  have HZ := Lib.hid ho8.sl
  have HX8 := Lib.hid (((HX5.out.below HB6.out).below HB7.out).below HB8.out)
  have HY8 := Lib.hid (((HY.out.below HB6.out).below HB7.out).below HB8.out)
  have HSB8 := Lib.hid (((HSB5.out.below HB6.out).below HB7.out).below HB8.out)
  have HB08 := Lib.hid (bt HB2.out (bt HB3.out (bt HB4.out (bt HB5.out (bt HB6.out (bt HB7.out HB8.out))))))
  clear hT hZ ho8 hb8 TN HX5 HY HSB5 HSB HX HB2 HB3 HB4 HB5 HB6 HB7 HB8 HO6 HO7 HL6 HL7 HX6 HX7 hz6 hz7
  go_loopw [16, 17] (fun c i wr => ∃ j s : Nat, j ≤ n ∧ s ≤ j ∧ i = .int .i64 j ∧ c = .int .i64 s ∧ Hid (s = same2 (xs6.take j) (Z.take j)) ∧ Hid (Below w8.heap.size w8 wr)) (fun _ i _ => n - (intOf i).toNat)
  case atStart => exact ⟨0, 0, Nat.zero_le _, Nat.zero_le _, by go_num, by go_num, by show _ = _; simp [same2], Below.refl _ _⟩
  case round =>
    obtain ⟨j, s, hj, hsj, rfl, rfl, HS, HB⟩ := hrel
    by_cases hlt : j < n
    · obtain ⟨bz, oz, hze, hbz, c1⟩ := Sl.nat HZ.out HB.out (i := j) (by rw [HZL.out]; exact hlt)
      cases hze
      rw [Nat.zero_add] at c1
      obtain ⟨bx, ox, rfl, hbx, c2⟩ := Sl.nat HX8.out HB.out (i := j) (by rw [HXL.out]; exact hlt)
      have hsn := same_snoc xs6 Z j (by rw [HXL.out]; exact hlt) (by rw [HZL.out]; exact hlt)
      rw [← HS.out] at hsn
      have HSN := Lib.hid hsn
      clear hsn
      generalize xs6.getD j 0 = x at *
      generalize Z.getD j 0 = z at *
      by_cases hxz : x = z
      · subst hxz
        have hs2 := HSN.out
        rw [if_pos rfl] at hs2
        have HS2 := Lib.hid hs2
        clear hs2 HSN
        go_wp2_with fail
        go_big_region
        all_goals go_wp2_with fail
        go_roundw
        case rel => exact ⟨j + 1, s + 1, by omega, by omega, by go_num, by go_num, HS2.out.symm, Lib.hid (Below.drew HB.out)⟩
        case measure => simp [intOf]; omega
      · have hs2 := HSN.out
        rw [if_neg hxz] at hs2
        have HS2 := Lib.hid hs2
        have g1 : ¬ z = x := fun e => hxz e.symm
        have g2 : ((z : Int) == (x : Int)) = false := by rw [beq_eq_false_iff_ne]; exact fun e => g1 (Int.ofNat.inj e)
        have g3 : ¬ (z : Int) = (x : Int) := fun e => g1 (Int.ofNat.inj e)
        clear hs2 HSN
        go_wp2_with fail
        go_big_region
        all_goals go_wp2_with fail
        go_roundw
        case rel => exact ⟨j + 1, s, by omega, by omega, by go_num, rfl, HS2.out.symm, Lib.hid (Below.drew HB.out)⟩
        case measure => simp [intOf]; omega
    · obtain rfl : j = n := by omega
      have hst : s = same2 xs6 Z := by
        have := HS.out
        rw [List.take_of_length_le (by rw [HXL.out]; exact Nat.le_refl _), List.take_of_length_le (by rw [HZL.out]; exact Nat.le_refl _)] at this
        exact this
      have HST := Lib.hid hst
      clear hst HS
      obtain ⟨BL, hBL⟩ : ∃ BL, BL = (xs7.map (·.1)).map fun h => both2 h xs6 Z := ⟨_, rfl⟩
      have HTT := HTOT.out
      rw [← hBL] at HTT
      have HTB := Lib.hid HTT
      have HBT := Lib.hid (show BL.sum ≤ 64 by rw [← HTT]; exact Nat.le_trans (same_le _ _) (by rw [HXL.out]; exact n2))
      have HBA := Lib.hid (fun q y (hy : xs7[q]? = some y) => show BL.getD q 0 = both2 y.1 xs6 Z by
        rw [hBL, List.getD_eq_getElem?_getD, List.getElem?_map, List.getElem?_map, hy]; rfl)
      have HBLL := Lib.hid (show BL.length = xs7.length by rw [hBL]; simp)
      clear HTT hBL
      go_wp2_with fail
      go_loopw [18, 19] (fun c i w9 => ∃ q t : Nat, q ≤ xs7.length ∧ i = .int .i64 q ∧ c = .int .i64 t ∧ Hid (t = (BL.take q).sum) ∧ w9 = wr) (fun _ i _ => xs7.length - (intOf i).toNat)
      case atStart => exact ⟨0, 0, Nat.zero_le _, by go_num, by go_num, by show _ = _; simp, rfl⟩
      case round =>
        obtain ⟨q, t, hq, rfl, rfl, HTS, rfl⟩ := hrel
        by_cases hlt2 : q < xs7.length
        · obtain ⟨y, hy⟩ : ∃ y, xs7[q]? = some y := ⟨_, List.getElem?_eq_getElem hlt2⟩
          obtain ⟨bb, ob, rfl, hbb, d0, _⟩ := Sl.share HSB8.out HB.out hy
          obtain ⟨K, hK⟩ : ∃ K, K = (partsL (xs7.map (·.2)) j).getD q 0 := ⟨_, rfl⟩
          have zc := HZC.out q y hy
          have zs := HZS.out q y hy
          have yc : Y.count y.1 = K := by rw [HYD.out, hK]; exact deal_law HOKB.out j hy
          have hba := HBA.out q y hy
          rw [← hK] at zc zs
          have CZ := Lib.hid (counted_any (some ⟨gz, 0, none⟩) j j y.1 Z wr HZL.out.symm (HZ.out.below HB.out) (by omega))
          have CY := Lib.hid (counted_any ay cy j y.1 Y wr (by rw [HYD.out]; exact (dealt_len HOKB.out j).symm) (HY8.out.below HB.out) (by omega))
          have CX := Lib.hid (counted_any ax cx j y.1 xs6 wr HXL.out.symm (HX8.out.below HB.out) (by omega))
          rw [zc] at CZ
          rw [yc] at CY
          obtain ⟨c, hc⟩ : ∃ c, c = xs6.count y.1 := ⟨_, rfl⟩
          rw [← hc] at CX zs
          obtain ⟨b, hb⟩ : ∃ b, b = both2 y.1 xs6 Z := ⟨_, rfl⟩
          rw [← hb] at zs hba
          have est : (BL.take (q + 1)).sum = t + b := by
            rw [take_snoc BL (by rw [HBLL.out]; exact hlt2), List.sum_append, ← HTS.out, hba]; simp
          have hle := sum_take_le BL (q + 1)
          rw [est] at hle
          have emin : min (c : Int) (K : Int) = (b : Int) := by rw [zs]; omega
          have esum : wrap64 ((t : Int) + (b : Int)) = ((t + b : Nat) : Int) := by
            have := HBT.out
            rw [wrap64_in (by omega) (by omega)]; omega
          have HEST := Lib.hid est
          clear hy hK zc zs yc hba hc hb est hle
          generalize t + b = tb at *
          go_wp2_with (first | ((with_reducible refine CZ.out.mono ?_); rintro e w' ⟨rfl, rfl⟩) | ((with_reducible refine CY.out.mono ?_); rintro e w' ⟨rfl, rfl⟩) | ((with_reducible refine CX.out.mono ?_); rintro e w' ⟨rfl, rfl⟩))
          go_roundw
          case rel => exact ⟨q + 1, tb, hlt2, by go_num, by rw [esum], HEST.out.symm, by first | rfl | trivial⟩
          case measure => simp [intOf]; omega
        · obtain rfl : q = xs7.length := by omega
          have htt : t = s := by
            rw [HTS.out, HST.out, HTB.out, List.take_of_length_le (by rw [HBLL.out]; exact Nat.le_refl _)]
          subst htt
          go_wp2_with fail
          go_returns
          exact ⟨by simp, bt HB08.out HB.out⟩
end Go.Proofs.Yticfcigkldkhmaa
