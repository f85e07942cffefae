
/- Contract: cidr.rest at spans of the family that is not Six. -/
import Derived.Test.YtoecmoicaklbaaaMt1
import Derived.Test.YtoecmoicaklbaaaAp
import Derived.Deep.DeepCutAuto
set_option linter.unusedVariables false
set_option linter.unusedSimpArgs false
namespace Go.Proofs.Ytoecmoicaklbaaa
open Go Go.RowKit Go.Sort Wc Wk

/-- All addresses of a family. -/
def allS (six : Bool) : Nat × Nat := (0, 2 ^ wd six - 1)
theorem lastAll_any (six : Bool) (w : World) : Calls Try.prog 62 #[Value.agg #[.bool six, .int .u64 0, .int .u64 0, .int .i64 0]] w fun e w' => e = .returned (Value.agg #[.bool six, .int .u64 (hiOf six (allS six).2), .int .u64 (loOf (allS six).2)]) ∧ Below w.heap.size w w' := by
  have h := last_any six 0 0 w (vp_iff.2 ⟨Nat.two_pow_pos _, Nat.zero_le _, Nat.zero_mod _⟩)
  have e : lastN (wd six) 0 0 = (allS six).2 := by unfold lastN allS; simp
  rw [e] at h
  cases six <;> exact h
/-- Where rest's inner loop stands. -/
structure RsSt (W wx : World) (P n : Nat) (S : List (Nat × Nat)) (j k : Nat) (O : List (Nat × Nat)) (oa : Option Addr) (oc : Nat) : Prop where
  is : O ++ restL topA k (S.drop j) = restL topA 0 S
  ln : O.length ≤ j
  le : k ≤ topA
  own : Wk.Own wx (P + 1) 141 6 (.slice oa O.length oc) (O.map (spC false))
  rp : RX wx P (adCells false k)
  bl : Below P W wx
structure Rs2 (W wx : World) (P A k : Nat) (s : Nat × Nat) : Prop where
  rp : RX wx P (adCells false k)
  ra : RX wx A (spC false s)
  ne : P < A
  bl : Below P W wx
theorem Rs2.below {W wx w' : World} {P A k : Nat} {s : Nat × Nat} (h : Rs2 W wx P A k s) (hP : P < wx.heap.size) (hb : Below wx.heap.size wx w') : Rs2 W w' P A k s :=
  ⟨h.rp.below hb, h.ra.below hb, h.ne, h.bl.trans (hb.mono (Nat.le_of_lt hP))⟩
theorem Rs2.say {W wx : World} {P A k : Nat} {s : Nat × Nat} (h : Rs2 W wx P A k s) : P < wx.heap.size ∧ A < wx.heap.size ∧
    wx.cell? ⟨P, 0, none⟩ = some (.bool false) ∧ wx.cell? ⟨P, 1, none⟩ = some (.int .u64 (hiOf false k)) ∧ wx.cell? ⟨P, 2, none⟩ = some (.int .u64 (loOf k)) ∧
    wx.cell? ⟨A, 0, none⟩ = some (.bool false) ∧ wx.cell? ⟨A, 1, none⟩ = some (.int .u64 (hiOf false s.1)) ∧ wx.cell? ⟨A, 2, none⟩ = some (.int .u64 (loOf s.1)) ∧
    wx.cell? ⟨A, 3, none⟩ = some (.bool false) ∧ wx.cell? ⟨A, 4, none⟩ = some (.int .u64 (hiOf false s.2)) ∧ wx.cell? ⟨A, 5, none⟩ = some (.int .u64 (loOf s.2)) ∧ (∀ j, wx.frozen? ⟨P, j, none⟩ = false) :=
  ⟨h.rp.lt, h.ra.lt, h.rp.cell 0 _ rfl, h.rp.cell 1 _ rfl, h.rp.cell 2 _ rfl, h.ra.cell 0 _ rfl, h.ra.cell 1 _ rfl, h.ra.cell 2 _ rfl, h.ra.cell 3 _ rfl, h.ra.cell 4 _ rfl, h.ra.cell 5 _ rfl, h.rp.fz⟩
theorem Rs2.grown {W wx w' : World} {P A k : Nat} {s : Nat × Nat} {v : Value} (h : Rs2 W wx P A k s) (hg : wx.grownBy w' v.ownBlock) (hv : ∀ b, v.ownBlock = some b → P < b ∧ b ≠ A) (hb : Below P wx w') : Rs2 W w' P A k s :=
  ⟨h.rp.grown hg (fun g e => by have := hv g e; omega), h.ra.grown hg (fun g e => (hv g e).2), h.ne, h.bl.trans hb⟩
theorem Rs2.set {W wx : World} {P A k : Nat} {s : Nat × Nat} (h : Rs2 W wx P A k s) (hP : W.heap.size ≤ P) (m : Nat) :
    RX (((wx.setCell ⟨P, 0, none⟩ (.bool false)).setCell ⟨P, 1, none⟩ (.int .u64 (hiOf false m))).setCell ⟨P, 2, none⟩ (.int .u64 (loOf m))) P (adCells false m) ∧ Chg wx (((wx.setCell ⟨P, 0, none⟩ (.bool false)).setCell ⟨P, 1, none⟩ (.int .u64 (hiOf false m))).setCell ⟨P, 2, none⟩ (.int .u64 (loOf m))) (fun k _ => k = P) := by
  obtain ⟨h1, h2⟩ := rx_set (c' := adCells false m) h.rp rfl
  exact ⟨h1, h2⟩
theorem rest_step {S : List (Nat × Nat)} {j k : Nat} {s : Nat × Nat} {O : List (Nat × Nat)} {R : List (Nat × Nat)} (hs : S[j]? = some s) (h : O ++ restL topA k (S.drop j) = R) : (O ++ (if k < s.1 then [(k, s.1 - 1)] else [])) ++ restL topA (s.2 + 1) (S.drop (j + 1)) = R := by
  obtain ⟨hj, e⟩ := List.getElem?_eq_some_iff.1 hs
  rw [List.drop_eq_getElem_cons hj, e, restL] at h
  rw [List.append_assoc]
  exact h

theorem restL_len (M : Nat) : ∀ (S : List (Nat × Nat)) (n : Nat), (restL M n S).length ≤ S.length + 1
  | [], n => by simp [restL]
  | s :: S, n => by
    have ih := restL_len M S (s.2 + 1)
    rw [restL, List.length_append]
    split <;> simp <;> omega
theorem run_arr0 (W : World) : (Instr.index 182 (.agg #[.bool false, .bool true]) (.int .i64 0)).run Try.prog W = .ok (.bool false) W := by kernel_rfl
theorem run_arr1 (W : World) : (Instr.index 182 (.agg #[.bool false, .bool true]) (.int .i64 1)).run Try.prog W = .ok (.bool true) W := by kernel_rfl

set_option maxRecDepth 100000 in
set_option maxHeartbeats 4000000 in
theorem rest_any (a : Option Addr) (ca n : Nat) (S : List (Nat × Nat)) (w : World) (hn : n = S.length) (hs : Sl w 6 (.slice a n ca) (S.map (spC false))) (hl : n ≤ 400) (hS : ∀ s ∈ S, s.1 ≤ s.2 ∧ s.2 < topA) (ha : ∀ x, a = some x → x.block < w.heap.size) :
    Calls Try.prog 66 #[.slice a n ca] w fun e w' => ∃ v, e = .returned v ∧ Wk.Own w' w.heap.size 141 6 v ((restL topA 0 S).map (spC false) ++ [allS true].map (spC true)) ∧ Below w.heap.size w w' := by
  have HS := Lib.hid hs
  have HN := Lib.hid hn
  have HV := Lib.hid hS
  have HA := Lib.hid ha
  have LF := Lib.hid (lastAll_any false)
  have LT := Lib.hid (lastAll_any true)
  clear hs hn hS ha
  go_enter Try.func66, Try.ntmps66
  go_wp2_with fail
  go_loopw [3, 13] (fun v3 i wr => ∃ (k : Nat) (rows : List (List Value)) (oa : Option Addr) (oc : Nat), k ≤ 2 ∧ i = .int .i64 k ∧ v3 = .slice oa rows.length oc ∧ Hid ((k = 0 ∧ rows = [] ∧ oa = none ∧ oc = 0) ∨ (k = 1 ∧ rows = (restL topA 0 S).map (spC false)) ∨ (k = 2 ∧ rows = (restL topA 0 S).map (spC false) ++ [allS true].map (spC true))) ∧ Hid (Wk.Own wr w.heap.size 141 6 (.slice oa rows.length oc) rows) ∧ Hid (Below w.heap.size w wr)) (fun _ i _ => 2 - (intOf i).toNat)
  case atStart => exact ⟨0, [], none, 0, by decide, rfl, rfl, .inl ⟨rfl, rfl, rfl, rfl⟩, Wk.Own.nil _ _ _ _, Below.refl _ _⟩
  case round =>
    obtain ⟨k, rows, oa, oc, hk, rfl, rfl, HR, HO, HB⟩ := hrel
    have hzr := HB.out.size
    obtain rfl | rfl | rfl : k = 0 ∨ k = 1 ∨ k = 2 := by omega
    · obtain ⟨rfl, rfl, rfl⟩ : rows = [] ∧ oa = none ∧ oc = 0 := by
        rcases HR.out with h | h | h
        · exact h.2
        · exact absurd h.1 (by decide)
        · exact absurd h.1 (by decide)
      have I0 := run_arr0
      clear HO HR LT
      go_wp2_with fail
      obtain ⟨V, hV⟩ : ∃ V, V = wr.alloc (.cells (adCells false 0).toArray 28) := ⟨_, rfl⟩
      have hV' := hV
      simp only [adCells] at hV'
      rw [show hiOf false 0 = 0 from rfl, show loOf 0 = 0 from rfl] at hV'
      rw [← hV']
      obtain ⟨P, hP⟩ : ∃ P, P = wr.heap.size := ⟨_, rfl⟩
      have hPw : P < V.heap.size := by rw [hV, hP]; simp
      have RP0 : Hid (RX V P (adCells false 0)) := by rw [hV, hP]; exact rx_new _ _
      have HB0 : Hid (Below P wr V) := by rw [hV, hP]; exact (Below.refl _ _).alloc (Nat.le_refl _) _
      rw [← hP]
      have HPe := Lib.hid hP
      have hPz : w.heap.size ≤ P := by omega
      clear hV hV' hP I0
      obtain ⟨W0, hW0⟩ : ∃ W0, W0 = wr := ⟨_, rfl⟩
      subst hW0
      go_loopw [3, 7, 20] (fun v3 v7 i wx => ∃ (j k : Nat) (O : List (Nat × Nat)) (oa : Option Addr) (oc : Nat), j ≤ n ∧ i = .int .i64 j ∧ v7 = .bool true ∧ v3 = .slice oa O.length oc ∧ Hid (RsSt W0 wx P n S j k O oa oc)) (fun _ _ i _ => n - (intOf i).toNat)
      case atStart => exact ⟨0, 0, [], none, 0, Nat.zero_le _, rfl, rfl, rfl, ⟨rfl, Nat.le_refl _, by decide, Wk.Own.nil _ _ _ _, RP0.out, HB0.out⟩⟩
      case round =>
        obtain ⟨j, k, O, oa, oc, hj, rfl, rfl, rfl, HI⟩ := hrel
        have hPx := HI.out.rp.lt
        by_cases hlt : j < n
        · obtain ⟨s, hsj⟩ : ∃ s, S[j]? = some s := ⟨_, List.getElem?_eq_getElem (by have := HN.out; omega)⟩
          obtain ⟨b, off, rfl, hb, hbw, d0, d1, d2, d3, d4, d5⟩ := Sl.sp HS.out (HB.out.trans (HI.out.bl.mono (by have := HPe.out; omega))) HA.out hsj
          have hs1 := HV.out s (List.mem_of_getElem? hsj)
          have hf1 : Fits false s.1 := by have := hs1; unfold topA at this; exact (show s.1 < 4294967296 by omega)
          have hf2 : Fits false s.2 := by have := hs1; unfold topA at this; exact (show s.2 < 4294967296 by omega)
          have hfk : Fits false k := by have := HI.out.le; unfold topA at this; exact (show k < 4294967296 by omega)
          have hf3 : Fits false (s.2 + 1) := by have := hs1; unfold topA at this; exact (show s.2 + 1 < 4294967296 by omega)
          have L1 := Lib.hid (fun w => less_any false k s.1 w hfk hf1)
          have EN := Lib.hid (fun w => end_any false s.2 w hf2)
          have PL := Lib.hid (fun w => plus_ok false s.2 1 w hf2 (by decide) (by decide) (s.2 + 1) (by simp) hf3)
          have PM := Lib.hid (fun (h : k < s.1) w => plus_ok false s.1 (-1) w hf1 (by decide) (by decide) (s.1 - 1) (by omega) (show s.1 - 1 < 2 ^ wd false by have : s.1 < 2 ^ wd false := hf1; omega))
          have HF3 := Lib.hid hf3
          rw [show decide (s.2 + 1 < 2 ^ wd false) = true from decide_eq_true HF3.out] at EN
          have HIS := Lib.hid (rest_step hsj HI.out.is)
          have HL2 := Lib.hid (show s.2 + 1 ≤ topA by omega)
          clear hs1 hf1 hf2 hfk hf3 hsj
          obtain ⟨W, hW⟩ : ∃ W, W = wr := ⟨_, rfl⟩
          subst hW
          go_upto_if 28 with fail
          obtain ⟨Y, hY⟩ : ∃ Y, Y = W.alloc (.cells (spC false s).toArray 141) := ⟨_, rfl⟩
          have hY' := hY
          simp only [spC] at hY'
          rw [← hY']
          obtain ⟨A, hA⟩ : ∃ A, A = W.heap.size := ⟨_, rfl⟩
          have hYB : Below W.heap.size W Y := by rw [hY]; exact (Below.refl _ _).alloc (Nat.le_refl _) _
          have F : Hid (Rs2 W0 Y P A k s) := ⟨HI.out.rp.below hYB, by rw [hY, hA]; exact rx_new _ _, by omega, HI.out.bl.trans (hYB.mono (Nat.le_of_lt hPx))⟩
          have HOY := Lib.hid (HI.out.own.below hYB)
          have HAE := Lib.hid (show ∀ g, (Value.slice oa O.length oc).ownBlock = some g → P < g ∧ g ≠ A from fun g hg => by have := HI.out.own.lt g hg; omega)
          rw [← hA]
          have hPY := F.out.rp.lt
          clear hY hY' hYB hA d0 d1 d2 d3 d4 d5
          obtain ⟨lP, lA, p0, p1, p2, x0, x1, x2, x3, x4, x5, fP⟩ := F.out.say
          go_upto_if 32 with (first | ((with_reducible refine (L1.out _).mono ?_); rintro e w2 ⟨rfl, hb2⟩; (repeat (with_reducible (replace hb2 := Below.undrew hb2))); obtain ⟨hc2, hf2⟩ := bcell hb2; have hz2 := hb2.size; (repeat (first | rw [World.size_alloc] at hz2 | rw [World.size_drew] at hz2 | rw [World.size_setCell] at hz2)); (try have : wr.heap.size < w2.heap.size := by omega); (try have : wr.heap.size < w2.heap.size + 1 := by omega); (try have : wr.heap.size < w2.heap.size + 1 + 1 := by omega); (try have : wr.heap.size < w2.heap.size + 1 + 1 + 1 := by omega); (try have : wr.heap.size + 1 < w2.heap.size := by omega); (try have : wr.heap.size + 1 < w2.heap.size + 1 := by omega); (try have : wr.heap.size + 1 < w2.heap.size + 1 + 1 := by omega); (try have : wr.heap.size + 1 < w2.heap.size + 1 + 1 + 1 := by omega); (try have : wx.heap.size < w2.heap.size := by omega); (try have : wx.heap.size < w2.heap.size + 1 := by omega); (try have : wx.heap.size < w2.heap.size + 1 + 1 := by omega); (try have : wx.heap.size < w2.heap.size + 1 + 1 + 1 := by omega); (try have : wx.heap.size + 1 < w2.heap.size := by omega); (try have : wx.heap.size + 1 < w2.heap.size + 1 := by omega); (try have : wx.heap.size + 1 < w2.heap.size + 1 + 1 := by omega); (try have : wx.heap.size + 1 < w2.heap.size + 1 + 1 + 1 := by omega)))
          have F2 := Lib.hid (F.out.below hPY hb2)
          have HO2 := Lib.hid (HOY.out.below hb2)
          clear hb2 hc2 hf2 lP lA p0 p1 p2 x0 x1 x2 x3 x4 x5 fP F HOY
          obtain ⟨lP, lA, p0, p1, p2, x0, x1, x2, x3, x4, x5, fP⟩ := F2.out.say
          obtain ⟨O2, hO2⟩ : ∃ O2, O2 = O ++ (if k < s.1 then [(k, s.1 - 1)] else []) := ⟨_, rfl⟩
          rw [← hO2] at HIS
          have HOE := Lib.hid hO2
          have HLN := Lib.hid (show O2.length ≤ j + 1 by have := HI.out.ln; rw [hO2]; split <;> simp <;> omega)
          have hjl : O.length ≤ 400 := by have := HI.out.ln; omega
          clear hO2
          go_cut [3] (fun v3 wy => ∃ oa oc, v3 = .slice oa O2.length oc ∧ Hid (Wk.Own wy (P + 1) 141 6 (.slice oa O2.length oc) (O2.map (spC false))) ∧ Hid (Rs2 W0 wy P A k s))
          case first =>
            by_cases c : k < s.1
            · have e : O2 = O ++ [(k, s.1 - 1)] := by rw [HOE.out, if_pos c]
              have HE := Lib.hid e
              have PM1 := Lib.hid (PM.out c)
              clear e PM
              rw [decide_eq_true c]
              go_wp2_with fail
              refine (PM1.out _).mono ?_
              rintro e w4 ⟨rfl, hb4⟩
              have F4 := Lib.hid (F2.out.below lP hb4)
              have HO4 := Lib.hid (HO2.out.below hb4)
              clear hb4 lP lA p0 p1 p2 x0 x1 x2 x3 x4 x5 fP F2 HO2
              obtain ⟨lP, lA, p0, p1, p2, x0, x1, x2, x3, x4, x5, fP⟩ := F4.out.say
              have lP1 : P < w4.heap.size + 1 := by omega
              have lP2 : P ≠ w4.heap.size := by omega
              go_wp2_with (at_builtin; refine stop_at ?_; intro G hG)
              rw [← hG.out]; clear hG G
              refine wpList_append_at rfl _ _ 93 141 6 48 _ rfl eiSp (P + 1) (.slice oa O.length oc) (O.map (spC false)) rfl ((HO4.out.alloc _).alloc _) _ [spC false (k, s.1 - 1)] rfl (sl_new (c := spC false (k, s.1 - 1)) (by simp) rfl) (by intro c hc; simp at hc; subst hc; exact spC_one false _) (by simp; omega) (by decide) (by simp; omega) (by simp) ?_
              intro v7 w7 hown hgr hb7 hat
              rw [show O.map (spC false) ++ [spC false (k, s.1 - 1)] = O2.map (spC false) by rw [HE.out, List.map_append]; rfl] at hown
              obtain ⟨oa7, oc7, rfl⟩ := hown.shape
              rw [List.length_map] at hown ⊢
              have HO7 := Lib.hid hown
              have HF7 := Lib.hid ((F4.out.below (by omega) (((Below.refl _ _).alloc (Nat.le_refl _) _).alloc (by simp) _)).grown hgr HAE.out (hb7.mono (by omega)))
              clear hown hgr hb7 hat
              go_wp2_with fail
              go_meet
              exact ⟨_, _, rfl, HO7, HF7⟩
            · have e : O2 = O := by rw [HOE.out, if_neg c, List.append_nil]
              rw [decide_eq_false c]
              go_wp2_with fail
              go_meet
              rw [e]
              exact ⟨_, _, rfl, HO2, F2⟩
          case rest =>
            clear F2 HO2 lP lA p0 p1 p2 x0 x1 x2 x3 x4 x5 fP L1 PM HAE hPY
            obtain ⟨oa3, oc3, rfl, HO3, F3⟩ := hcut
            obtain ⟨lP, lA, p0, p1, p2, x0, x1, x2, x3, x4, x5, fP⟩ := F3.out.say
            go_wp2_with fail
            refine (EN.out _).mono ?_
            rintro e w5 ⟨rfl, hb5⟩
            have F5 := Lib.hid (F3.out.below lP hb5)
            have HO5 := Lib.hid (HO3.out.below hb5)
            clear hb5 lP lA p0 p1 p2 x0 x1 x2 x3 x4 x5 fP F3 HO3
            obtain ⟨lP, lA, p0, p1, p2, x0, x1, x2, x3, x4, x5, fP⟩ := F5.out.say
            go_wp2_with fail
            refine (PL.out _).mono ?_
            rintro e w6 ⟨rfl, hb6⟩
            have F6 := Lib.hid (F5.out.below lP hb6)
            have HO6 := Lib.hid (HO5.out.below hb6)
            clear hb6 lP lA p0 p1 p2 x0 x1 x2 x3 x4 x5 fP F5 HO5
            obtain ⟨lP, lA, p0, p1, p2, x0, x1, x2, x3, x4, x5, fP⟩ := F6.out.say
            obtain ⟨RS, CS⟩ := F6.out.set (by have := HPe.out; omega) (s.2 + 1)
            have HRS := Lib.hid RS
            have HCS := Lib.hid CS
            clear RS CS
            go_wp2_with fail
            go_roundw
            case rel => (repeat apply Exists.intro); exact ⟨⟨j + 1, s.2 + 1, O2, oa3, oc3, by omega, by go_num, rfl, rfl, ⟨HIS.out, HLN.out, HL2.out, HO6.out.chg HCS.out (fun _ _ e => e) (fun hg => by have := (HO6.out.lt _ hg).1; omega), HRS.out, F6.out.bl.trans (HCS.out.below (by have := HPe.out; omega) (fun b x hb' e => by omega))⟩⟩, rfl⟩
            case measure => simp [intOf]; omega
        · obtain rfl : j = n := by omega
          have hR : O ++ [(k, topA)] = restL topA 0 S := by
            have := HI.out.is
            rw [List.drop_of_length_le (by have := HN.out; omega)] at this
            exact this
          have HR := Lib.hid hR
          clear hR
          have HIO := Lib.hid HI.out.own
          have hol : O.length ≤ 400 := by have := HI.out.ln; omega
          have p0 := HI.out.rp.cell 0 _ rfl
          have p1 := HI.out.rp.cell 1 _ rfl
          have p2 := HI.out.rp.cell 2 _ rfl
          have HBI := Lib.hid (HB.out.trans (HI.out.bl.mono hPz))
          have HTOP := Lib.hid (show (allS false).2 = topA from rfl)
          obtain ⟨Z, hZ⟩ : ∃ Z, Z = wr := ⟨_, rfl⟩
          subst hZ
          clear HI
          go_upto_region 19 with fail
          refine wp_region_held_drew (S := (fun w' => Below (P + 1) Z w')) (by kernel_rfl) ?_ (fun hHeld => ?_)
          · ((try dsimp only); (repeat' (first | (with_reducible exact Below.refl _ _) | (with_reducible assumption) | (with_reducible refine Below.alloc ?_ ?_ _) | (with_reducible refine Below.drew ?_) | (with_reducible refine Below.stepG ?_ (by assumption) ?_) | (with_reducible refine Below.setCell ?_ ?_ _) | omega | (dsimp only; omega) | (simp; done) | (simp; omega))))
          (refine wpAnyH_take (i := 0) (oi := _) (v := ?_) (by simp only [List.getElem?_toArray, List.getElem?_cons_zero, List.getElem?_cons_succ]; rfl) (by kernel_rfl) (by decide +kernel) (by decide +kernel) (by exact fun _ _ _ h => h) (Or.inl ⟨by rfl, ?_⟩) (by assumption) ?_; rotate_left; (· ((intro w hSw); (have hSc := Below.cellAt hSw); clear hSw; go_simp; (try with_reducible rfl))); (try simp only [Act.put, List.setIfInBounds_toArray, List.set_cons_zero, List.set_cons_succ]))
          (refine wpAnyH_take (i := 1) (oi := _) (v := ?_) (by simp only [List.getElem?_toArray, List.getElem?_cons_zero, List.getElem?_cons_succ]; rfl) (by kernel_rfl) (by decide +kernel) (by decide +kernel) (by exact fun _ _ _ h => h) (Or.inl ⟨by rfl, ?_⟩) (by assumption) ?_; rotate_left; (· ((intro w hSw); (have hSc := Below.cellAt hSw); clear hSw; go_simp; (try with_reducible rfl))); (try simp only [Act.put, List.setIfInBounds_toArray, List.set_cons_zero, List.set_cons_succ]))
          (refine wpAnyH_take (i := 2) (oi := _) (v := ?_) (by simp only [List.getElem?_toArray, List.getElem?_cons_zero, List.getElem?_cons_succ]; rfl) (by kernel_rfl) (by decide +kernel) (by decide +kernel) (by exact fun _ _ _ h => h) (Or.inl ⟨by rfl, ?_⟩) (by assumption) ?_; rotate_left; (· ((intro w hSw); (have hSc := Below.cellAt hSw); clear hSw; go_simp; (try with_reducible rfl))); (try simp only [Act.put, List.setIfInBounds_toArray, List.set_cons_zero, List.set_cons_succ]))
          (refine wpAnyH_take (i := 3) (oi := _) (v := ?_) (by simp only [List.getElem?_toArray, List.getElem?_cons_zero, List.getElem?_cons_succ]; rfl) (by kernel_rfl) (by decide +kernel) (by decide +kernel) (by exact fun _ _ _ h => h) (Or.inl ⟨by rfl, ?_⟩) (by assumption) ?_; rotate_left; (· ((intro w hSw); (have hSc := Below.cellAt hSw); clear hSw; go_simp; (try with_reducible rfl))); (try simp only [Act.put, List.setIfInBounds_toArray, List.set_cons_zero, List.set_cons_succ]))
          (refine wpAnyH_take (i := 4) (oi := _) (v := ?_) (by simp only [List.getElem?_toArray, List.getElem?_cons_zero, List.getElem?_cons_succ]; rfl) (by kernel_rfl) (by decide +kernel) (by decide +kernel) (by exact fun _ _ _ h => h) (Or.inl ⟨by rfl, ?_⟩) (by assumption) ?_; rotate_left; (· ((intro w hSw); (have hSc := Below.cellAt hSw); clear hSw; go_simp; (try with_reducible rfl))); (try simp only [Act.put, List.setIfInBounds_toArray, List.set_cons_zero, List.set_cons_succ]))
          repeat' (first
            | (refine wpAnyH_take (i := 6) (oi := _) (v := ?_) (by simp only [List.getElem?_toArray, List.getElem?_cons_zero, List.getElem?_cons_succ]; rfl) (by kernel_rfl) (by decide +kernel) (by decide +kernel) (by exact fun _ _ _ h => h) (Or.inl ⟨by rfl, ?_⟩) (by assumption) ?_; rotate_left; (· ((intro w hSw); (have hSc := Below.cellAt hSw); clear hSw; go_simp; (try with_reducible rfl))); (try simp only [Act.put, List.setIfInBounds_toArray, List.set_cons_zero, List.set_cons_succ]))
            | (refine wpAnyH_ready (rs := [5]) (by decide +kernel) (by simp) (AllReadyH.cons (by simp only [List.getElem?_toArray, List.getElem?_cons_zero, List.getElem?_cons_succ]; rfl) (fun K hK => ?_) AllReadyH.nil); all_goals ((first | (refine step_append_at rfl (.tmp 59) (.tmp 66) 93 141 6 48 _ rfl eiSp (P + 1) (.slice oa O.length oc) (O.map (spC false)) rfl (HIO.out.below (by (repeat' (first | (with_reducible exact Below.refl _ _) | (with_reducible assumption) | (with_reducible refine Below.alloc ?_ ?_ _) | (with_reducible refine Below.drew ?_) | (with_reducible refine Below.stepG ?_ (by assumption) ?_) | (with_reducible refine Below.setCell ?_ ?_ _) | omega | (dsimp only; omega) | (simp; done) | (simp; omega))))) (.slice (some ⟨_, 0, none⟩) 1 1) [spC false (k, (allS false).2)] rfl (sl_new (c := spC false (k, (allS false).2)) (by first | rfl | simp) rfl) (by intro c hc; simp at hc; subst hc; exact spC_one false _) (by simp; omega) (by decide) (by simp; omega) (by simp) ?_; intro vC wC hownC hgrC hbC hatC) | (go_simp; (first | ((with_reducible refine (LF.out _).mono ?_); rintro e w2 ⟨rfl, hb2⟩; (repeat (with_reducible (replace hb2 := Below.undrew hb2))); obtain ⟨hc2, hf2⟩ := bcell hb2; have hz2 := hb2.size; (repeat (first | rw [World.size_alloc] at hz2 | rw [World.size_drew] at hz2 | rw [World.size_setCell] at hz2)); (try have : wr.heap.size < w2.heap.size := by omega); (try have : wr.heap.size < w2.heap.size + 1 := by omega); (try have : wr.heap.size < w2.heap.size + 1 + 1 := by omega); (try have : wr.heap.size < w2.heap.size + 1 + 1 + 1 := by omega); (try have : wr.heap.size + 1 < w2.heap.size := by omega); (try have : wr.heap.size + 1 < w2.heap.size + 1 := by omega); (try have : wr.heap.size + 1 < w2.heap.size + 1 + 1 := by omega); (try have : wr.heap.size + 1 < w2.heap.size + 1 + 1 + 1 := by omega); (try have : wx.heap.size < w2.heap.size := by omega); (try have : wx.heap.size < w2.heap.size + 1 := by omega); (try have : wx.heap.size < w2.heap.size + 1 + 1 := by omega); (try have : wx.heap.size < w2.heap.size + 1 + 1 + 1 := by omega); (try have : wx.heap.size + 1 < w2.heap.size := by omega); (try have : wx.heap.size + 1 < w2.heap.size + 1 := by omega); (try have : wx.heap.size + 1 < w2.heap.size + 1 + 1 := by omega); (try have : wx.heap.size + 1 < w2.heap.size + 1 + 1 + 1 := by omega)) | skip))); (refine hK.out _ _ ?_ (fun hHeld => ?_)); (· ((try dsimp only); (repeat' (first | (with_reducible exact Below.refl _ _) | (with_reducible assumption) | (with_reducible refine Below.alloc ?_ ?_ _) | (with_reducible refine Below.drew ?_) | (with_reducible refine Below.stepG ?_ (by assumption) ?_) | (with_reducible refine Below.setCell ?_ ?_ _) | omega | (dsimp only; omega) | (simp; done) | (simp; omega))))); (clear hK K; (try simp only [Act.put, List.setIfInBounds_toArray, List.set_cons_zero, List.set_cons_succ]))))
            | (refine wpAnyH_ready (rs := [7]) (by decide +kernel) (by simp) (AllReadyH.cons (by simp only [List.getElem?_toArray, List.getElem?_cons_zero, List.getElem?_cons_succ]; rfl) (fun K hK => ?_) AllReadyH.nil); all_goals ((first | (refine step_append_at rfl (.tmp 59) (.tmp 66) 93 141 6 48 _ rfl eiSp (P + 1) (.slice oa O.length oc) (O.map (spC false)) rfl (HIO.out.below (by (repeat' (first | (with_reducible exact Below.refl _ _) | (with_reducible assumption) | (with_reducible refine Below.alloc ?_ ?_ _) | (with_reducible refine Below.drew ?_) | (with_reducible refine Below.stepG ?_ (by assumption) ?_) | (with_reducible refine Below.setCell ?_ ?_ _) | omega | (dsimp only; omega) | (simp; done) | (simp; omega))))) (.slice (some ⟨_, 0, none⟩) 1 1) [spC false (k, (allS false).2)] rfl (sl_new (c := spC false (k, (allS false).2)) (by first | rfl | simp) rfl) (by intro c hc; simp at hc; subst hc; exact spC_one false _) (by simp; omega) (by decide) (by simp; omega) (by simp) ?_; intro vC wC hownC hgrC hbC hatC) | (go_simp; (first | ((with_reducible refine (LF.out _).mono ?_); rintro e w2 ⟨rfl, hb2⟩; (repeat (with_reducible (replace hb2 := Below.undrew hb2))); obtain ⟨hc2, hf2⟩ := bcell hb2; have hz2 := hb2.size; (repeat (first | rw [World.size_alloc] at hz2 | rw [World.size_drew] at hz2 | rw [World.size_setCell] at hz2)); (try have : wr.heap.size < w2.heap.size := by omega); (try have : wr.heap.size < w2.heap.size + 1 := by omega); (try have : wr.heap.size < w2.heap.size + 1 + 1 := by omega); (try have : wr.heap.size < w2.heap.size + 1 + 1 + 1 := by omega); (try have : wr.heap.size + 1 < w2.heap.size := by omega); (try have : wr.heap.size + 1 < w2.heap.size + 1 := by omega); (try have : wr.heap.size + 1 < w2.heap.size + 1 + 1 := by omega); (try have : wr.heap.size + 1 < w2.heap.size + 1 + 1 + 1 := by omega); (try have : wx.heap.size < w2.heap.size := by omega); (try have : wx.heap.size < w2.heap.size + 1 := by omega); (try have : wx.heap.size < w2.heap.size + 1 + 1 := by omega); (try have : wx.heap.size < w2.heap.size + 1 + 1 + 1 := by omega); (try have : wx.heap.size + 1 < w2.heap.size := by omega); (try have : wx.heap.size + 1 < w2.heap.size + 1 := by omega); (try have : wx.heap.size + 1 < w2.heap.size + 1 + 1 := by omega); (try have : wx.heap.size + 1 < w2.heap.size + 1 + 1 + 1 := by omega)) | skip))); (refine hK.out _ _ ?_ (fun hHeld => ?_)); (· ((try dsimp only); (repeat' (first | (with_reducible exact Below.refl _ _) | (with_reducible assumption) | (with_reducible refine Below.alloc ?_ ?_ _) | (with_reducible refine Below.drew ?_) | (with_reducible refine Below.stepG ?_ (by assumption) ?_) | (with_reducible refine Below.setCell ?_ ?_ _) | omega | (dsimp only; omega) | (simp; done) | (simp; omega))))); (clear hK K; (try simp only [Act.put, List.setIfInBounds_toArray, List.set_cons_zero, List.set_cons_succ]))))
            | (refine wpAnyH_ready (rs := [8]) (by decide +kernel) (by simp) (AllReadyH.cons (by simp only [List.getElem?_toArray, List.getElem?_cons_zero, List.getElem?_cons_succ]; rfl) (fun K hK => ?_) AllReadyH.nil); all_goals ((first | (refine step_append_at rfl (.tmp 59) (.tmp 66) 93 141 6 48 _ rfl eiSp (P + 1) (.slice oa O.length oc) (O.map (spC false)) rfl (HIO.out.below (by (repeat' (first | (with_reducible exact Below.refl _ _) | (with_reducible assumption) | (with_reducible refine Below.alloc ?_ ?_ _) | (with_reducible refine Below.drew ?_) | (with_reducible refine Below.stepG ?_ (by assumption) ?_) | (with_reducible refine Below.setCell ?_ ?_ _) | omega | (dsimp only; omega) | (simp; done) | (simp; omega))))) (.slice (some ⟨_, 0, none⟩) 1 1) [spC false (k, (allS false).2)] rfl (sl_new (c := spC false (k, (allS false).2)) (by first | rfl | simp) rfl) (by intro c hc; simp at hc; subst hc; exact spC_one false _) (by simp; omega) (by decide) (by simp; omega) (by simp) ?_; intro vC wC hownC hgrC hbC hatC) | (go_simp; (first | ((with_reducible refine (LF.out _).mono ?_); rintro e w2 ⟨rfl, hb2⟩; (repeat (with_reducible (replace hb2 := Below.undrew hb2))); obtain ⟨hc2, hf2⟩ := bcell hb2; have hz2 := hb2.size; (repeat (first | rw [World.size_alloc] at hz2 | rw [World.size_drew] at hz2 | rw [World.size_setCell] at hz2)); (try have : wr.heap.size < w2.heap.size := by omega); (try have : wr.heap.size < w2.heap.size + 1 := by omega); (try have : wr.heap.size < w2.heap.size + 1 + 1 := by omega); (try have : wr.heap.size < w2.heap.size + 1 + 1 + 1 := by omega); (try have : wr.heap.size + 1 < w2.heap.size := by omega); (try have : wr.heap.size + 1 < w2.heap.size + 1 := by omega); (try have : wr.heap.size + 1 < w2.heap.size + 1 + 1 := by omega); (try have : wr.heap.size + 1 < w2.heap.size + 1 + 1 + 1 := by omega); (try have : wx.heap.size < w2.heap.size := by omega); (try have : wx.heap.size < w2.heap.size + 1 := by omega); (try have : wx.heap.size < w2.heap.size + 1 + 1 := by omega); (try have : wx.heap.size < w2.heap.size + 1 + 1 + 1 := by omega); (try have : wx.heap.size + 1 < w2.heap.size := by omega); (try have : wx.heap.size + 1 < w2.heap.size + 1 := by omega); (try have : wx.heap.size + 1 < w2.heap.size + 1 + 1 := by omega); (try have : wx.heap.size + 1 < w2.heap.size + 1 + 1 + 1 := by omega)) | skip))); (refine hK.out _ _ ?_ (fun hHeld => ?_)); (· ((try dsimp only); (repeat' (first | (with_reducible exact Below.refl _ _) | (with_reducible assumption) | (with_reducible refine Below.alloc ?_ ?_ _) | (with_reducible refine Below.drew ?_) | (with_reducible refine Below.stepG ?_ (by assumption) ?_) | (with_reducible refine Below.setCell ?_ ?_ _) | omega | (dsimp only; omega) | (simp; done) | (simp; omega))))); (clear hK K; (try simp only [Act.put, List.setIfInBounds_toArray, List.set_cons_zero, List.set_cons_succ]))))
            | (refine wpAnyH_ready (rs := [9]) (by decide +kernel) (by simp) (AllReadyH.cons (by simp only [List.getElem?_toArray, List.getElem?_cons_zero, List.getElem?_cons_succ]; rfl) (fun K hK => ?_) AllReadyH.nil); all_goals ((first | (refine step_append_at rfl (.tmp 59) (.tmp 66) 93 141 6 48 _ rfl eiSp (P + 1) (.slice oa O.length oc) (O.map (spC false)) rfl (HIO.out.below (by (repeat' (first | (with_reducible exact Below.refl _ _) | (with_reducible assumption) | (with_reducible refine Below.alloc ?_ ?_ _) | (with_reducible refine Below.drew ?_) | (with_reducible refine Below.stepG ?_ (by assumption) ?_) | (with_reducible refine Below.setCell ?_ ?_ _) | omega | (dsimp only; omega) | (simp; done) | (simp; omega))))) (.slice (some ⟨_, 0, none⟩) 1 1) [spC false (k, (allS false).2)] rfl (sl_new (c := spC false (k, (allS false).2)) (by first | rfl | simp) rfl) (by intro c hc; simp at hc; subst hc; exact spC_one false _) (by simp; omega) (by decide) (by simp; omega) (by simp) ?_; intro vC wC hownC hgrC hbC hatC) | (go_simp; (first | ((with_reducible refine (LF.out _).mono ?_); rintro e w2 ⟨rfl, hb2⟩; (repeat (with_reducible (replace hb2 := Below.undrew hb2))); obtain ⟨hc2, hf2⟩ := bcell hb2; have hz2 := hb2.size; (repeat (first | rw [World.size_alloc] at hz2 | rw [World.size_drew] at hz2 | rw [World.size_setCell] at hz2)); (try have : wr.heap.size < w2.heap.size := by omega); (try have : wr.heap.size < w2.heap.size + 1 := by omega); (try have : wr.heap.size < w2.heap.size + 1 + 1 := by omega); (try have : wr.heap.size < w2.heap.size + 1 + 1 + 1 := by omega); (try have : wr.heap.size + 1 < w2.heap.size := by omega); (try have : wr.heap.size + 1 < w2.heap.size + 1 := by omega); (try have : wr.heap.size + 1 < w2.heap.size + 1 + 1 := by omega); (try have : wr.heap.size + 1 < w2.heap.size + 1 + 1 + 1 := by omega); (try have : wx.heap.size < w2.heap.size := by omega); (try have : wx.heap.size < w2.heap.size + 1 := by omega); (try have : wx.heap.size < w2.heap.size + 1 + 1 := by omega); (try have : wx.heap.size < w2.heap.size + 1 + 1 + 1 := by omega); (try have : wx.heap.size + 1 < w2.heap.size := by omega); (try have : wx.heap.size + 1 < w2.heap.size + 1 := by omega); (try have : wx.heap.size + 1 < w2.heap.size + 1 + 1 := by omega); (try have : wx.heap.size + 1 < w2.heap.size + 1 + 1 + 1 := by omega)) | skip))); (refine hK.out _ _ ?_ (fun hHeld => ?_)); (· ((try dsimp only); (repeat' (first | (with_reducible exact Below.refl _ _) | (with_reducible assumption) | (with_reducible refine Below.alloc ?_ ?_ _) | (with_reducible refine Below.drew ?_) | (with_reducible refine Below.stepG ?_ (by assumption) ?_) | (with_reducible refine Below.setCell ?_ ?_ _) | omega | (dsimp only; omega) | (simp; done) | (simp; omega))))); (clear hK K; (try simp only [Act.put, List.setIfInBounds_toArray, List.set_cons_zero, List.set_cons_succ]))))
            | (refine wpAnyH_done (by decide +kernel) ?_ _)
            | fail)
          go_goals
          rw [HTOP.out] at hownC
          rw [show O.map (spC false) ++ [spC false (k, topA)] = (restL topA 0 S).map (spC false) by rw [← HR.out, List.map_append]; rfl] at hownC
          obtain ⟨oaC, ocC, rfl⟩ := hownC.shape
          have HOC := Lib.hid (own_base hownC (show w.heap.size ≤ P + 1 by omega))
          have HBC := Lib.hid (HBI.out.trans (hHeld.mono (show w.heap.size ≤ P + 1 by omega)))
          clear hownC hgrC hbC hatC hb2 hc2 hf2
          go_wp2_with fail
          go_roundw
          case rel => exact ⟨1, _, oaC, ocC, by decide, rfl, rfl, .inr (.inl ⟨rfl, rfl⟩), HOC, HBC⟩
          case measure => simp [intOf]
    · have hr : rows = (restL topA 0 S).map (spC false) := by
        rcases HR.out with h | h | h
        · exact absurd h.1 (by decide)
        · exact h.2
        · exact absurd h.1 (by decide)
      have HR' := Lib.hid hr
      have I1 := run_arr1
      clear HR hr LF
      go_wp2_with fail
      obtain ⟨V, hV⟩ : ∃ V, V = wr.alloc (.cells (adCells true 0).toArray 28) := ⟨_, rfl⟩
      have hV' := hV
      simp only [adCells] at hV'
      rw [show hiOf true 0 = 0 from rfl, show loOf 0 = 0 from rfl] at hV'
      rw [← hV']
      obtain ⟨P, hP⟩ : ∃ P, P = wr.heap.size := ⟨_, rfl⟩
      have RP0 : Hid (RX V P (adCells true 0)) := by rw [hV, hP]; exact rx_new _ _
      have HB0 : Hid (Below wr.heap.size wr V) := by rw [hV]; exact (Below.refl _ _).alloc (Nat.le_refl _) _
      have HPO := Lib.hid (show ∀ g, (Value.slice oa rows.length oc).ownBlock = some g → P ≠ g from fun g hg => by have := (HO.out.lt g hg).2; omega)
      have HOV := Lib.hid (HO.out.below HB0.out)
      have HBV := Lib.hid (HB.out.trans (HB0.out.mono hzr))
      rw [← hP]
      have hzV := HBV.out.size
      clear hV hV' hP I1 HB0 HO
      go_loopw [3, 7, 20] (fun v3 v7 i wx => ∃ j : Nat, j ≤ n ∧ i = .int .i64 j ∧ v7 = .bool true ∧ v3 = .slice oa rows.length oc ∧ Hid (Below V.heap.size V wx)) (fun _ _ i _ => n - (intOf i).toNat)
      case atStart => exact ⟨0, Nat.zero_le _, rfl, rfl, rfl, Below.refl _ _⟩
      case round =>
        obtain ⟨j, hj, rfl, rfl, rfl, HI⟩ := hrel
        by_cases hlt : j < n
        · obtain ⟨s, hsj⟩ : ∃ s, S[j]? = some s := ⟨_, List.getElem?_eq_getElem (by have := HN.out; omega)⟩
          obtain ⟨b, off, rfl, hb, hbw, d0, d1, d2, d3, d4, d5⟩ := Sl.sp HS.out (HBV.out.trans (HI.out.mono hzV)) HA.out hsj
          clear hsj
          go_wp2_with fail
          go_roundw
          case rel => exact ⟨j + 1, by omega, by go_num, rfl, rfl, Lib.hid (HI.out.alloc HI.out.size _)⟩
          case measure => simp [intOf]; omega
        · obtain rfl : j = n := by omega
          have HIO := Lib.hid (HOV.out.below HI.out)
          have RPI := Lib.hid (RP0.out.below HI.out)
          have HBI := Lib.hid (HBV.out.trans (HI.out.mono hzV))
          have hol : rows.length ≤ 402 := by rw [HR'.out, List.length_map]; have := (restL_len topA S 0); have := HN.out; omega
          have p0 := RPI.out.cell 0 _ rfl
          have p1 := RPI.out.cell 1 _ rfl
          have p2 := RPI.out.cell 2 _ rfl
          have lP := RPI.out.lt
          obtain ⟨Z, hZ⟩ : ∃ Z, Z = wr := ⟨_, rfl⟩
          subst hZ
          have hzZ := HBI.out.size
          clear HI RPI HOV HBV RP0 HB
          go_upto_region 19 with fail
          refine wp_region_held_drew (S := (fun w' => w'.cell? ⟨P, 0, none⟩ = some (.bool true) ∧ w'.cell? ⟨P, 1, none⟩ = some (.int .u64 (hiOf true 0)) ∧ w'.cell? ⟨P, 2, none⟩ = some (.int .u64 (loOf 0)))) (by kernel_rfl) ?_ (fun hHeld => ?_)
          · ((try dsimp only); (first | (first | (go_simp; done) | (simp [*, go_sem, World.cell?_alloc_past]; done) | (simp [*, go_sem, World.cell?_alloc_past, World.cell?_setCell_far]; done)) | exact ⟨(World.cell?_alloc_some _ _ _ (by rw [hHeld.1]; rfl)).trans hHeld.1, (World.cell?_alloc_some _ _ _ (by rw [hHeld.2.1]; rfl)).trans hHeld.2.1, (World.cell?_alloc_some _ _ _ (by rw [hHeld.2.2]; rfl)).trans hHeld.2.2⟩ | exact ⟨(hb2.cell (p := ⟨P, 0, none⟩) (by first | omega | (simp; omega))).trans hHeld.1, (hb2.cell (p := ⟨P, 1, none⟩) (by first | omega | (simp; omega))).trans hHeld.2.1, (hb2.cell (p := ⟨P, 2, none⟩) (by first | omega | (simp; omega))).trans hHeld.2.2⟩ | exact ⟨(hcC 0).trans hHeld.1, (hcC 1).trans hHeld.2.1, (hcC 2).trans hHeld.2.2⟩ | trivial))
          (refine wpAnyH_take (i := 0) (oi := _) (v := ?_) (by simp only [List.getElem?_toArray, List.getElem?_cons_zero, List.getElem?_cons_succ]; rfl) (by kernel_rfl) (by decide +kernel) (by decide +kernel) (by exact fun _ _ _ h => h) (Or.inl ⟨by rfl, ?_⟩) (by assumption) ?_; rotate_left; (· ((intro w hSw); (try dsimp only at hSw); go_simp; (try with_reducible rfl))); (try simp only [Act.put, List.setIfInBounds_toArray, List.set_cons_zero, List.set_cons_succ]))
          (refine wpAnyH_take (i := 1) (oi := _) (v := ?_) (by simp only [List.getElem?_toArray, List.getElem?_cons_zero, List.getElem?_cons_succ]; rfl) (by kernel_rfl) (by decide +kernel) (by decide +kernel) (by exact fun _ _ _ h => h) (Or.inl ⟨by rfl, ?_⟩) (by assumption) ?_; rotate_left; (· ((intro w hSw); (try dsimp only at hSw); go_simp; (try with_reducible rfl))); (try simp only [Act.put, List.setIfInBounds_toArray, List.set_cons_zero, List.set_cons_succ]))
          (refine wpAnyH_take (i := 2) (oi := _) (v := ?_) (by simp only [List.getElem?_toArray, List.getElem?_cons_zero, List.getElem?_cons_succ]; rfl) (by kernel_rfl) (by decide +kernel) (by decide +kernel) (by exact fun _ _ _ h => h) (Or.inl ⟨by rfl, ?_⟩) (by assumption) ?_; rotate_left; (· ((intro w hSw); (try dsimp only at hSw); go_simp; (try with_reducible rfl))); (try simp only [Act.put, List.setIfInBounds_toArray, List.set_cons_zero, List.set_cons_succ]))
          (refine wpAnyH_take (i := 3) (oi := _) (v := ?_) (by simp only [List.getElem?_toArray, List.getElem?_cons_zero, List.getElem?_cons_succ]; rfl) (by kernel_rfl) (by decide +kernel) (by decide +kernel) (by exact fun _ _ _ h => h) (Or.inl ⟨by rfl, ?_⟩) (by assumption) ?_; rotate_left; (· ((intro w hSw); (try dsimp only at hSw); go_simp; (try with_reducible rfl))); (try simp only [Act.put, List.setIfInBounds_toArray, List.set_cons_zero, List.set_cons_succ]))
          (refine wpAnyH_take (i := 4) (oi := _) (v := ?_) (by simp only [List.getElem?_toArray, List.getElem?_cons_zero, List.getElem?_cons_succ]; rfl) (by kernel_rfl) (by decide +kernel) (by decide +kernel) (by exact fun _ _ _ h => h) (Or.inl ⟨by rfl, ?_⟩) (by assumption) ?_; rotate_left; (· ((intro w hSw); (try dsimp only at hSw); go_simp; (try with_reducible rfl))); (try simp only [Act.put, List.setIfInBounds_toArray, List.set_cons_zero, List.set_cons_succ]))
          repeat' (first
            | (refine wpAnyH_take (i := 6) (oi := _) (v := ?_) (by simp only [List.getElem?_toArray, List.getElem?_cons_zero, List.getElem?_cons_succ]; rfl) (by kernel_rfl) (by decide +kernel) (by decide +kernel) (by exact fun _ _ _ h => h) (Or.inl ⟨by rfl, ?_⟩) (by assumption) ?_; rotate_left; (· ((intro w hSw); (try dsimp only at hSw); go_simp; (try with_reducible rfl))); (try simp only [Act.put, List.setIfInBounds_toArray, List.set_cons_zero, List.set_cons_succ]))
            | (refine wpAnyH_ready (rs := [5]) (by decide +kernel) (by simp) (AllReadyH.cons (by simp only [List.getElem?_toArray, List.getElem?_cons_zero, List.getElem?_cons_succ]; rfl) (fun K hK => ?_) AllReadyH.nil); all_goals ((first | (refine step_append_at rfl (.tmp 59) (.tmp 66) 93 141 6 48 _ rfl eiSp w.heap.size (.slice oa rows.length oc) rows rfl (HIO.out.below (by (repeat' (first | (with_reducible exact Below.refl _ _) | (with_reducible assumption) | (with_reducible refine Below.alloc ?_ ?_ _) | (with_reducible refine Below.drew ?_) | (with_reducible refine Below.stepG ?_ (by assumption) ?_) | (with_reducible refine Below.setCell ?_ ?_ _) | omega | (dsimp only; omega) | (simp; done) | (simp; omega))))) (.slice (some ⟨_, 0, none⟩) 1 1) [spC true (allS true)] rfl (sl_new (c := spC true (allS true)) (by first | rfl | simp) rfl) (by intro c hc; simp at hc; subst hc; exact spC_one true _) (by simp; omega) (by decide) (by simp; omega) (by simp) ?_; intro vC wC hownC hgrC hbC hatC; have hcC := fun o => World.cell?_of_block (a := ⟨P, o, none⟩) (hgrC.block P (by simp; omega) (fun e => HPO.out P e.symm rfl))) | (go_simp; (first | ((with_reducible refine (LT.out _).mono ?_); rintro e w2 ⟨rfl, hb2⟩; (repeat (with_reducible (replace hb2 := Below.undrew hb2))); obtain ⟨hc2, hf2⟩ := bcell hb2; have hz2 := hb2.size; (repeat (first | rw [World.size_alloc] at hz2 | rw [World.size_drew] at hz2 | rw [World.size_setCell] at hz2)); (try have : wr.heap.size < w2.heap.size := by omega); (try have : wr.heap.size < w2.heap.size + 1 := by omega); (try have : wr.heap.size < w2.heap.size + 1 + 1 := by omega); (try have : wr.heap.size < w2.heap.size + 1 + 1 + 1 := by omega); (try have : wr.heap.size + 1 < w2.heap.size := by omega); (try have : wr.heap.size + 1 < w2.heap.size + 1 := by omega); (try have : wr.heap.size + 1 < w2.heap.size + 1 + 1 := by omega); (try have : wr.heap.size + 1 < w2.heap.size + 1 + 1 + 1 := by omega); (try have : wx.heap.size < w2.heap.size := by omega); (try have : wx.heap.size < w2.heap.size + 1 := by omega); (try have : wx.heap.size < w2.heap.size + 1 + 1 := by omega); (try have : wx.heap.size < w2.heap.size + 1 + 1 + 1 := by omega); (try have : wx.heap.size + 1 < w2.heap.size := by omega); (try have : wx.heap.size + 1 < w2.heap.size + 1 := by omega); (try have : wx.heap.size + 1 < w2.heap.size + 1 + 1 := by omega); (try have : wx.heap.size + 1 < w2.heap.size + 1 + 1 + 1 := by omega)) | skip))); (refine hK.out _ _ ?_ (fun hHeld => ?_)); (· ((try dsimp only); (first | (first | (go_simp; done) | (simp [*, go_sem, World.cell?_alloc_past]; done) | (simp [*, go_sem, World.cell?_alloc_past, World.cell?_setCell_far]; done)) | exact ⟨(World.cell?_alloc_some _ _ _ (by rw [hHeld.1]; rfl)).trans hHeld.1, (World.cell?_alloc_some _ _ _ (by rw [hHeld.2.1]; rfl)).trans hHeld.2.1, (World.cell?_alloc_some _ _ _ (by rw [hHeld.2.2]; rfl)).trans hHeld.2.2⟩ | exact ⟨(hb2.cell (p := ⟨P, 0, none⟩) (by first | omega | (simp; omega))).trans hHeld.1, (hb2.cell (p := ⟨P, 1, none⟩) (by first | omega | (simp; omega))).trans hHeld.2.1, (hb2.cell (p := ⟨P, 2, none⟩) (by first | omega | (simp; omega))).trans hHeld.2.2⟩ | exact ⟨(hcC 0).trans hHeld.1, (hcC 1).trans hHeld.2.1, (hcC 2).trans hHeld.2.2⟩ | trivial))); (clear hK K; (try simp only [Act.put, List.setIfInBounds_toArray, List.set_cons_zero, List.set_cons_succ]))))
            | (refine wpAnyH_ready (rs := [7]) (by decide +kernel) (by simp) (AllReadyH.cons (by simp only [List.getElem?_toArray, List.getElem?_cons_zero, List.getElem?_cons_succ]; rfl) (fun K hK => ?_) AllReadyH.nil); all_goals ((first | (refine step_append_at rfl (.tmp 59) (.tmp 66) 93 141 6 48 _ rfl eiSp w.heap.size (.slice oa rows.length oc) rows rfl (HIO.out.below (by (repeat' (first | (with_reducible exact Below.refl _ _) | (with_reducible assumption) | (with_reducible refine Below.alloc ?_ ?_ _) | (with_reducible refine Below.drew ?_) | (with_reducible refine Below.stepG ?_ (by assumption) ?_) | (with_reducible refine Below.setCell ?_ ?_ _) | omega | (dsimp only; omega) | (simp; done) | (simp; omega))))) (.slice (some ⟨_, 0, none⟩) 1 1) [spC true (allS true)] rfl (sl_new (c := spC true (allS true)) (by first | rfl | simp) rfl) (by intro c hc; simp at hc; subst hc; exact spC_one true _) (by simp; omega) (by decide) (by simp; omega) (by simp) ?_; intro vC wC hownC hgrC hbC hatC; have hcC := fun o => World.cell?_of_block (a := ⟨P, o, none⟩) (hgrC.block P (by simp; omega) (fun e => HPO.out P e.symm rfl))) | (go_simp; (first | ((with_reducible refine (LT.out _).mono ?_); rintro e w2 ⟨rfl, hb2⟩; (repeat (with_reducible (replace hb2 := Below.undrew hb2))); obtain ⟨hc2, hf2⟩ := bcell hb2; have hz2 := hb2.size; (repeat (first | rw [World.size_alloc] at hz2 | rw [World.size_drew] at hz2 | rw [World.size_setCell] at hz2)); (try have : wr.heap.size < w2.heap.size := by omega); (try have : wr.heap.size < w2.heap.size + 1 := by omega); (try have : wr.heap.size < w2.heap.size + 1 + 1 := by omega); (try have : wr.heap.size < w2.heap.size + 1 + 1 + 1 := by omega); (try have : wr.heap.size + 1 < w2.heap.size := by omega); (try have : wr.heap.size + 1 < w2.heap.size + 1 := by omega); (try have : wr.heap.size + 1 < w2.heap.size + 1 + 1 := by omega); (try have : wr.heap.size + 1 < w2.heap.size + 1 + 1 + 1 := by omega); (try have : wx.heap.size < w2.heap.size := by omega); (try have : wx.heap.size < w2.heap.size + 1 := by omega); (try have : wx.heap.size < w2.heap.size + 1 + 1 := by omega); (try have : wx.heap.size < w2.heap.size + 1 + 1 + 1 := by omega); (try have : wx.heap.size + 1 < w2.heap.size := by omega); (try have : wx.heap.size + 1 < w2.heap.size + 1 := by omega); (try have : wx.heap.size + 1 < w2.heap.size + 1 + 1 := by omega); (try have : wx.heap.size + 1 < w2.heap.size + 1 + 1 + 1 := by omega)) | skip))); (refine hK.out _ _ ?_ (fun hHeld => ?_)); (· ((try dsimp only); (first | (first | (go_simp; done) | (simp [*, go_sem, World.cell?_alloc_past]; done) | (simp [*, go_sem, World.cell?_alloc_past, World.cell?_setCell_far]; done)) | exact ⟨(World.cell?_alloc_some _ _ _ (by rw [hHeld.1]; rfl)).trans hHeld.1, (World.cell?_alloc_some _ _ _ (by rw [hHeld.2.1]; rfl)).trans hHeld.2.1, (World.cell?_alloc_some _ _ _ (by rw [hHeld.2.2]; rfl)).trans hHeld.2.2⟩ | exact ⟨(hb2.cell (p := ⟨P, 0, none⟩) (by first | omega | (simp; omega))).trans hHeld.1, (hb2.cell (p := ⟨P, 1, none⟩) (by first | omega | (simp; omega))).trans hHeld.2.1, (hb2.cell (p := ⟨P, 2, none⟩) (by first | omega | (simp; omega))).trans hHeld.2.2⟩ | exact ⟨(hcC 0).trans hHeld.1, (hcC 1).trans hHeld.2.1, (hcC 2).trans hHeld.2.2⟩ | trivial))); (clear hK K; (try simp only [Act.put, List.setIfInBounds_toArray, List.set_cons_zero, List.set_cons_succ]))))
            | (refine wpAnyH_ready (rs := [8]) (by decide +kernel) (by simp) (AllReadyH.cons (by simp only [List.getElem?_toArray, List.getElem?_cons_zero, List.getElem?_cons_succ]; rfl) (fun K hK => ?_) AllReadyH.nil); all_goals ((first | (refine step_append_at rfl (.tmp 59) (.tmp 66) 93 141 6 48 _ rfl eiSp w.heap.size (.slice oa rows.length oc) rows rfl (HIO.out.below (by (repeat' (first | (with_reducible exact Below.refl _ _) | (with_reducible assumption) | (with_reducible refine Below.alloc ?_ ?_ _) | (with_reducible refine Below.drew ?_) | (with_reducible refine Below.stepG ?_ (by assumption) ?_) | (with_reducible refine Below.setCell ?_ ?_ _) | omega | (dsimp only; omega) | (simp; done) | (simp; omega))))) (.slice (some ⟨_, 0, none⟩) 1 1) [spC true (allS true)] rfl (sl_new (c := spC true (allS true)) (by first | rfl | simp) rfl) (by intro c hc; simp at hc; subst hc; exact spC_one true _) (by simp; omega) (by decide) (by simp; omega) (by simp) ?_; intro vC wC hownC hgrC hbC hatC; have hcC := fun o => World.cell?_of_block (a := ⟨P, o, none⟩) (hgrC.block P (by simp; omega) (fun e => HPO.out P e.symm rfl))) | (go_simp; (first | ((with_reducible refine (LT.out _).mono ?_); rintro e w2 ⟨rfl, hb2⟩; (repeat (with_reducible (replace hb2 := Below.undrew hb2))); obtain ⟨hc2, hf2⟩ := bcell hb2; have hz2 := hb2.size; (repeat (first | rw [World.size_alloc] at hz2 | rw [World.size_drew] at hz2 | rw [World.size_setCell] at hz2)); (try have : wr.heap.size < w2.heap.size := by omega); (try have : wr.heap.size < w2.heap.size + 1 := by omega); (try have : wr.heap.size < w2.heap.size + 1 + 1 := by omega); (try have : wr.heap.size < w2.heap.size + 1 + 1 + 1 := by omega); (try have : wr.heap.size + 1 < w2.heap.size := by omega); (try have : wr.heap.size + 1 < w2.heap.size + 1 := by omega); (try have : wr.heap.size + 1 < w2.heap.size + 1 + 1 := by omega); (try have : wr.heap.size + 1 < w2.heap.size + 1 + 1 + 1 := by omega); (try have : wx.heap.size < w2.heap.size := by omega); (try have : wx.heap.size < w2.heap.size + 1 := by omega); (try have : wx.heap.size < w2.heap.size + 1 + 1 := by omega); (try have : wx.heap.size < w2.heap.size + 1 + 1 + 1 := by omega); (try have : wx.heap.size + 1 < w2.heap.size := by omega); (try have : wx.heap.size + 1 < w2.heap.size + 1 := by omega); (try have : wx.heap.size + 1 < w2.heap.size + 1 + 1 := by omega); (try have : wx.heap.size + 1 < w2.heap.size + 1 + 1 + 1 := by omega)) | skip))); (refine hK.out _ _ ?_ (fun hHeld => ?_)); (· ((try dsimp only); (first | (first | (go_simp; done) | (simp [*, go_sem, World.cell?_alloc_past]; done) | (simp [*, go_sem, World.cell?_alloc_past, World.cell?_setCell_far]; done)) | exact ⟨(World.cell?_alloc_some _ _ _ (by rw [hHeld.1]; rfl)).trans hHeld.1, (World.cell?_alloc_some _ _ _ (by rw [hHeld.2.1]; rfl)).trans hHeld.2.1, (World.cell?_alloc_some _ _ _ (by rw [hHeld.2.2]; rfl)).trans hHeld.2.2⟩ | exact ⟨(hb2.cell (p := ⟨P, 0, none⟩) (by first | omega | (simp; omega))).trans hHeld.1, (hb2.cell (p := ⟨P, 1, none⟩) (by first | omega | (simp; omega))).trans hHeld.2.1, (hb2.cell (p := ⟨P, 2, none⟩) (by first | omega | (simp; omega))).trans hHeld.2.2⟩ | exact ⟨(hcC 0).trans hHeld.1, (hcC 1).trans hHeld.2.1, (hcC 2).trans hHeld.2.2⟩ | trivial))); (clear hK K; (try simp only [Act.put, List.setIfInBounds_toArray, List.set_cons_zero, List.set_cons_succ]))))
            | (refine wpAnyH_ready (rs := [9]) (by decide +kernel) (by simp) (AllReadyH.cons (by simp only [List.getElem?_toArray, List.getElem?_cons_zero, List.getElem?_cons_succ]; rfl) (fun K hK => ?_) AllReadyH.nil); all_goals ((first | (refine step_append_at rfl (.tmp 59) (.tmp 66) 93 141 6 48 _ rfl eiSp w.heap.size (.slice oa rows.length oc) rows rfl (HIO.out.below (by (repeat' (first | (with_reducible exact Below.refl _ _) | (with_reducible assumption) | (with_reducible refine Below.alloc ?_ ?_ _) | (with_reducible refine Below.drew ?_) | (with_reducible refine Below.stepG ?_ (by assumption) ?_) | (with_reducible refine Below.setCell ?_ ?_ _) | omega | (dsimp only; omega) | (simp; done) | (simp; omega))))) (.slice (some ⟨_, 0, none⟩) 1 1) [spC true (allS true)] rfl (sl_new (c := spC true (allS true)) (by first | rfl | simp) rfl) (by intro c hc; simp at hc; subst hc; exact spC_one true _) (by simp; omega) (by decide) (by simp; omega) (by simp) ?_; intro vC wC hownC hgrC hbC hatC; have hcC := fun o => World.cell?_of_block (a := ⟨P, o, none⟩) (hgrC.block P (by simp; omega) (fun e => HPO.out P e.symm rfl))) | (go_simp; (first | ((with_reducible refine (LT.out _).mono ?_); rintro e w2 ⟨rfl, hb2⟩; (repeat (with_reducible (replace hb2 := Below.undrew hb2))); obtain ⟨hc2, hf2⟩ := bcell hb2; have hz2 := hb2.size; (repeat (first | rw [World.size_alloc] at hz2 | rw [World.size_drew] at hz2 | rw [World.size_setCell] at hz2)); (try have : wr.heap.size < w2.heap.size := by omega); (try have : wr.heap.size < w2.heap.size + 1 := by omega); (try have : wr.heap.size < w2.heap.size + 1 + 1 := by omega); (try have : wr.heap.size < w2.heap.size + 1 + 1 + 1 := by omega); (try have : wr.heap.size + 1 < w2.heap.size := by omega); (try have : wr.heap.size + 1 < w2.heap.size + 1 := by omega); (try have : wr.heap.size + 1 < w2.heap.size + 1 + 1 := by omega); (try have : wr.heap.size + 1 < w2.heap.size + 1 + 1 + 1 := by omega); (try have : wx.heap.size < w2.heap.size := by omega); (try have : wx.heap.size < w2.heap.size + 1 := by omega); (try have : wx.heap.size < w2.heap.size + 1 + 1 := by omega); (try have : wx.heap.size < w2.heap.size + 1 + 1 + 1 := by omega); (try have : wx.heap.size + 1 < w2.heap.size := by omega); (try have : wx.heap.size + 1 < w2.heap.size + 1 := by omega); (try have : wx.heap.size + 1 < w2.heap.size + 1 + 1 := by omega); (try have : wx.heap.size + 1 < w2.heap.size + 1 + 1 + 1 := by omega)) | skip))); (refine hK.out _ _ ?_ (fun hHeld => ?_)); (· ((try dsimp only); (first | (first | (go_simp; done) | (simp [*, go_sem, World.cell?_alloc_past]; done) | (simp [*, go_sem, World.cell?_alloc_past, World.cell?_setCell_far]; done)) | exact ⟨(World.cell?_alloc_some _ _ _ (by rw [hHeld.1]; rfl)).trans hHeld.1, (World.cell?_alloc_some _ _ _ (by rw [hHeld.2.1]; rfl)).trans hHeld.2.1, (World.cell?_alloc_some _ _ _ (by rw [hHeld.2.2]; rfl)).trans hHeld.2.2⟩ | exact ⟨(hb2.cell (p := ⟨P, 0, none⟩) (by first | omega | (simp; omega))).trans hHeld.1, (hb2.cell (p := ⟨P, 1, none⟩) (by first | omega | (simp; omega))).trans hHeld.2.1, (hb2.cell (p := ⟨P, 2, none⟩) (by first | omega | (simp; omega))).trans hHeld.2.2⟩ | exact ⟨(hcC 0).trans hHeld.1, (hcC 1).trans hHeld.2.1, (hcC 2).trans hHeld.2.2⟩ | trivial))); (clear hK K; (try simp only [Act.put, List.setIfInBounds_toArray, List.set_cons_zero, List.set_cons_succ]))))
            | (refine wpAnyH_done (by decide +kernel) ?_ _)
            | fail)
          go_goals
          rw [show rows ++ [spC true (allS true)] = (restL topA 0 S).map (spC false) ++ [allS true].map (spC true) by rw [HR'.out]; rfl] at hownC
          obtain ⟨oaC, ocC, rfl⟩ := hownC.shape
          have HOC := Lib.hid hownC
          have HBC : Hid (Below w.heap.size w wC) := HBI.out.trans (by (repeat' (first | (with_reducible exact Below.refl _ _) | (with_reducible assumption) | (with_reducible refine Below.alloc ?_ ?_ _) | (with_reducible refine Below.drew ?_) | (with_reducible refine Below.stepG ?_ (by assumption) ?_) | (with_reducible refine Below.setCell ?_ ?_ _) | omega | (dsimp only; omega) | (simp; done) | (simp; omega))))
          clear hownC hgrC hbC hatC hb2 hc2 hf2 hcC
          go_wp2_with fail
          go_roundw
          case rel => exact ⟨2, _, oaC, ocC, by decide, rfl, rfl, .inr (.inr ⟨rfl, rfl⟩), HOC, HBC⟩
          case measure => simp [intOf]
    · go_wp2_with fail
      have e : rows = (restL topA 0 S).map (spC false) ++ [allS true].map (spC true) := by
        rcases HR.out with h | h | h
        · exact absurd h.1 (by decide)
        · exact absurd h.1 (by decide)
        · exact h.2
      refine bodyPost_ret (v := .slice oa rows.length oc) (by simp [results, Try.results66, go_sem]) rfl ⟨_, rfl, ?_, HB.out⟩
      rw [e] at HO ⊢
      exact HO.out
end Go.Proofs.Ytoecmoicaklbaaa
