
/- Contract: cidr.meet. -/
import Derived.Test.YtoecmoicaklbaaaMt1
import Derived.Test.YtoecmoicaklbaaaAp
import Derived.Deep.DeepCutAuto
set_option linter.unusedVariables false
set_option linter.unusedSimpArgs false
namespace Go.Proofs.Ytoecmoicaklbaaa
open Go Go.RowKit Go.Sort Wc Wk

/-- Where meet's loop stands. -/
structure MtSt (w : World) (A T : List (Nat × Nat)) (A' T' U' O : List (Nat × Nat)) (a0 : Option Addr) (la c0 : Nat) (b0 : Option Addr) (lb d0 : Nat) : Prop where
  al : la = A'.length
  bl : lb = T'.length + U'.length
  sa : Sl w 6 (.slice a0 la c0) (A'.map (spC false))
  sb : Sl w 6 (.slice b0 lb d0) (T'.map (spC false) ++ U'.map (spC true))
  is : O ++ meetL A' T' = meetL A T
  fa : ∀ s ∈ A', Fits false s.1 ∧ Fits false s.2
  ft : ∀ s ∈ T', Fits false s.1 ∧ Fits false s.2
  fu : ∀ s ∈ U', Fits true s.1 ∧ Fits true s.2
  len : O.length + A'.length + T'.length ≤ A.length + T.length
theorem mt_head {T U : List (Nat × Nat)} (ft : ∀ s ∈ T, Fits false s.1 ∧ Fits false s.2) (fu : ∀ s ∈ U, Fits true s.1 ∧ Fits true s.2) (h : 0 < T.length + U.length) :
    ∃ sy y rs, T.map (spC false) ++ U.map (spC true) = spC sy y :: rs ∧ Fits sy y.1 ∧ Fits sy y.2 ∧ ((sy = false ∧ ∃ T2, T = y :: T2 ∧ rs = T2.map (spC false) ++ U.map (spC true)) ∨ (sy = true ∧ T = [])) := by
  cases T with
  | nil =>
    cases U with
    | nil => simp at h
    | cons y U => exact ⟨true, y, _, rfl, (fu y (by simp)).1, (fu y (by simp)).2, .inr ⟨rfl, rfl⟩⟩
  | cons y T => exact ⟨false, y, _, rfl, (ft y (by simp)).1, (ft y (by simp)).2, .inl ⟨rfl, T, rfl, rfl⟩⟩
theorem Mt4.say {W wx : World} {A B P Q : Nat} {s t p q : Bool} {x y : Nat × Nat} {n m : Nat} (h : Mt4 W wx A B P Q (spC s x) (spC t y) (adCells p n) (adCells q m)) :
    A < wx.heap.size ∧ B < wx.heap.size ∧ P < wx.heap.size ∧ Q < wx.heap.size ∧
    wx.cell? ⟨A, 3, none⟩ = some (.bool s) ∧ wx.cell? ⟨A, 4, none⟩ = some (.int .u64 (hiOf s x.2)) ∧ wx.cell? ⟨A, 5, none⟩ = some (.int .u64 (loOf x.2)) ∧
    wx.cell? ⟨B, 0, none⟩ = some (.bool t) ∧ wx.cell? ⟨B, 1, none⟩ = some (.int .u64 (hiOf t y.1)) ∧ wx.cell? ⟨B, 2, none⟩ = some (.int .u64 (loOf y.1)) ∧
    wx.cell? ⟨B, 3, none⟩ = some (.bool t) ∧ wx.cell? ⟨B, 4, none⟩ = some (.int .u64 (hiOf t y.2)) ∧ wx.cell? ⟨B, 5, none⟩ = some (.int .u64 (loOf y.2)) ∧
    wx.cell? ⟨P, 0, none⟩ = some (.bool p) ∧ wx.cell? ⟨P, 1, none⟩ = some (.int .u64 (hiOf p n)) ∧ wx.cell? ⟨P, 2, none⟩ = some (.int .u64 (loOf n)) ∧
    wx.cell? ⟨Q, 0, none⟩ = some (.bool q) ∧ wx.cell? ⟨Q, 1, none⟩ = some (.int .u64 (hiOf q m)) ∧ wx.cell? ⟨Q, 2, none⟩ = some (.int .u64 (loOf m)) ∧
    (∀ j, wx.frozen? ⟨P, j, none⟩ = false) ∧ (∀ j, wx.frozen? ⟨Q, j, none⟩ = false) :=
  ⟨h.ra.lt, h.rb.lt, h.rp.lt, h.rq.lt, h.ra.cell 3 _ rfl, h.ra.cell 4 _ rfl, h.ra.cell 5 _ rfl, h.rb.cell 0 _ rfl, h.rb.cell 1 _ rfl, h.rb.cell 2 _ rfl, h.rb.cell 3 _ rfl, h.rb.cell 4 _ rfl, h.rb.cell 5 _ rfl,
    h.rp.cell 0 _ rfl, h.rp.cell 1 _ rfl, h.rp.cell 2 _ rfl, h.rq.cell 0 _ rfl, h.rq.cell 1 _ rfl, h.rq.cell 2 _ rfl, h.rp.fz, h.rq.fz⟩


set_option maxRecDepth 100000 in
set_option maxHeartbeats 4000000 in
theorem meet_any (a : Option Addr) (ca n : Nat) (b : Option Addr) (cb m : Nat) (A'0 T U : List (Nat × Nat)) (w : World) (hn : n = A'0.length) (hm : m = T.length + U.length) (ha : Sl w 6 (.slice a n ca) (A'0.map (spC false))) (hb : Sl w 6 (.slice b m cb) (T.map (spC false) ++ U.map (spC true)))
    (la : n ≤ 400) (lb : m ≤ 400) (fa : ∀ s ∈ A'0, Fits false s.1 ∧ Fits false s.2) (ft : ∀ s ∈ T, Fits false s.1 ∧ Fits false s.2) (fu : ∀ s ∈ U, Fits true s.1 ∧ Fits true s.2) :
    Calls Try.prog 65 #[.slice a n ca, .slice b m cb] w fun e w' => ∃ v, e = .returned v ∧ Wk.Own w' w.heap.size 141 6 v ((meetL A'0 T).map (spC false)) ∧ Below w.heap.size w w' := by
  have HS0 := Lib.hid (show MtSt w A'0 T A'0 T U [] a n ca b m cb from ⟨hn, hm, ha, hb, rfl, fa, ft, fu, by simp⟩)
  have a1 := ha.lens.2.1
  have a2 := ha.lens.2.2
  have b1 := hb.lens.2.1
  have b2 := hb.lens.2.2
  have LT := Lib.hid (show A'0.length + T.length ≤ 800 by omega)
  clear ha hb hn hm fa ft fu
  go_enter Try.func65, Try.ntmps65
  go_wp2_with fail
  go_loopw [0, 1, 5] (fun u0 u1 u5 wr => ∃ (A' T' U' O : List (Nat × Nat)) (la lb : Nat) (a0 : Option Addr) (c0 : Nat) (b0 : Option Addr) (d0 : Nat) (oa : Option Addr) (oc : Nat), u0 = .slice a0 la c0 ∧ u1 = .slice b0 lb d0 ∧ u5 = .slice oa O.length oc ∧ Hid (MtSt w A'0 T A' T' U' O a0 la c0 b0 lb d0) ∧ la ≤ 400 ∧ lb ≤ 400 ∧ Hid (Wk.Own wr w.heap.size 141 6 (.slice oa O.length oc) (O.map (spC false))) ∧ Hid (Below w.heap.size w wr)) (fun u0 u1 _ _ => lenOfV2 u0 + lenOfV2 u1)
  case atStart => exact ⟨A'0, T, U, [], n, m, a, ca, b, cb, none, 0, rfl, rfl, rfl, HS0, la, lb, Wk.Own.nil _ _ _ _, Below.refl _ _⟩
  case round =>
    clear a1 a2 b1 b2 la lb HS0
    obtain ⟨A', T', U', O, la, lb, a0, c0, b0, d0, oa, oc, rfl, rfl, rfl, HS, hla, hlb, HO, HB⟩ := hrel
    have hzr := HB.out.size
    have a1 := HS.out.sa.lens.2.1
    have a2 := HS.out.sa.lens.2.2
    have b1 := HS.out.sb.lens.2.1
    have b2 := HS.out.sb.lens.2.2
    by_cases hA0 : la = 0
    · have h1 : meetL A' T' = [] := by
        rw [List.eq_nil_of_length_eq_zero (show A'.length = 0 by have := HS.out.al; omega)]
        exact meetL_nil' _
      have HE := Lib.hid (show O = meetL A'0 T by have := HS.out.is; rw [h1, List.append_nil] at this; exact this)
      clear h1
      subst hA0
      go_wp2_with fail
      refine bodyPost_ret (v := .slice oa O.length oc) (by simp [results, Try.results65, go_sem]) rfl ⟨_, rfl, by rw [← HE.out]; exact HO.out, HB.out⟩
    · by_cases hB0 : lb = 0
      · have h1 : meetL A' T' = [] := by
          rw [List.eq_nil_of_length_eq_zero (show T'.length = 0 by have := HS.out.bl; omega)]
          exact meetL_nil _
        have HE := Lib.hid (show O = meetL A'0 T by have := HS.out.is; rw [h1, List.append_nil] at this; exact this)
        clear h1
        subst hB0
        have hA1 : 0 < la := by omega
        go_wp2_with fail
        refine bodyPost_ret (v := .slice oa O.length oc) (by simp [results, Try.results65, go_sem]) rfl ⟨_, rfl, by rw [← HE.out]; exact HO.out, HB.out⟩
      · have hA1 : 0 < la := by omega
        have hB1 : 0 < lb := by omega
        clear hA0 hB0
        obtain ⟨x, A2, rfl⟩ : ∃ x A2, A' = x :: A2 := by
          cases A' with
          | nil => have := HS.out.al; simp at this; omega
          | cons x A2 => exact ⟨x, A2, rfl⟩
        obtain ⟨sy, y, rs, hrs, fy1, fy2, hcs⟩ := mt_head HS.out.ft HS.out.fu (by have := HS.out.bl; omega)
        have fx := HS.out.fa x (by simp)
        obtain ⟨a2', c2', htla, hsla⟩ := span_tail (by have := HS.out.sa; rw [List.map_cons] at this; exact this)
        obtain ⟨b2', d2', htlb, hslb⟩ := span_tail (by have := HS.out.sb; rw [hrs] at this; exact this)
        obtain ⟨g1, o1, rfl, hg1, hx⟩ := span_first (by have := HS.out.sa; rw [List.map_cons] at this; exact this) HB.out
        obtain ⟨g2, o2, rfl, hg2, hy⟩ := span_first (by have := HS.out.sb; rw [hrs] at this; exact this) HB.out
        have d0' := hx 0 _ rfl
        have d1' := hx 1 _ rfl
        have d2' := hx 2 _ rfl
        have d3' := hx 3 _ rfl
        have d4' := hx 4 _ rfl
        have d5' := hx 5 _ rfl
        have e0' := hy 0 _ rfl
        have e1' := hy 1 _ rfl
        have e2' := hy 2 _ rfl
        have e3' := hy 3 _ rfl
        have e4' := hy 4 _ rfl
        have e5' := hy 5 _ rfl
        rw [Nat.add_zero] at d0' e0'
        have HTA := Lib.hid htla
        have HTB := Lib.hid htlb
        have hg1w : g1 < wr.heap.size := by omega
        have hg2w : g2 < wr.heap.size := by omega
        clear hx hy htla htlb
        go_upto_region 3 with fail
        go_cut [6, 7] (fun v6 v7 wx => ∃ A B : Nat, v6 = .pointer (some ⟨A, 0, none⟩) ∧ v7 = .pointer (some ⟨B, 0, none⟩) ∧ Hid (RX wx A (spC false x)) ∧ Hid (RX wx B (spC sy y)) ∧ wr.heap.size ≤ A ∧ wr.heap.size ≤ B ∧ Hid (Below wr.heap.size wr wx))
        case first =>
          go_region
          all_goals go_wp2_with fail
          all_goals go_meet
          all_goals refine ⟨_, _, rfl, rfl, ?_, ?_, ?_, ?_, ?_⟩
          all_goals first
            | (simp; done)
            | (simp; omega)
            | (refine Lib.hid (rx_cells6 ?_ ?_ ?_ ?_ ?_ ?_ ?_ ?_) <;> first | (simp; done) | (simp; omega))
            | exact Lib.hid (by (repeat' (first | (with_reducible exact Below.refl _ _) | (with_reducible assumption) | (with_reducible refine Below.alloc ?_ ?_ _) | (with_reducible refine Below.drew ?_) | (with_reducible refine Below.stepG ?_ (by assumption) ?_) | (with_reducible refine Below.setCell ?_ ?_ _) | omega | (dsimp only; omega) | (simp; done) | (simp; omega))))
        case rest =>
          obtain ⟨A, B, rfl, rfl, RA, RB, gA, gB, HB3⟩ := hcut
          obtain ⟨V, hV⟩ : ∃ V, V = wc := ⟨_, rfl⟩
          subst hV
          have lA := RA.out.lt
          have lB := RB.out.lt
          have x0 := RA.out.cell 0 _ rfl
          have x1 := RA.out.cell 1 _ rfl
          have x2 := RA.out.cell 2 _ rfl
          have x3 := RA.out.cell 3 _ rfl
          have x4 := RA.out.cell 4 _ rfl
          have x5 := RA.out.cell 5 _ rfl
          have hzv := HB3.out.size
          clear d0' d1' d2' d3' d4' d5' e0' e1' e2' e3' e4' e5'
          go_upto_region 4 with fail
          go_cut [8, 9] (fun v8 v9 wx => ∃ P Q : Nat, v8 = .pointer (some ⟨P, 0, none⟩) ∧ v9 = .pointer (some ⟨Q, 0, none⟩) ∧ Hid (RX wx P (adCells false x.1)) ∧ Hid (RX wx Q (adCells false x.2)) ∧ V.heap.size ≤ P ∧ V.heap.size ≤ Q ∧ P ≠ Q ∧ Hid (Below V.heap.size V wx))
          case first =>
            go_region
            all_goals go_wp2_with fail
            all_goals go_meet
            all_goals refine ⟨_, _, rfl, rfl, ?_, ?_, ?_, ?_, ?_, ?_⟩
            all_goals first
              | (simp; done)
              | (simp; omega)
              | (refine Lib.hid (rx_cells3 ?_ ?_ ?_ ?_ ?_) <;> first | (simp; done) | (simp; omega))
              | exact Lib.hid (by (repeat' (first | (with_reducible exact Below.refl _ _) | (with_reducible assumption) | (with_reducible refine Below.alloc ?_ ?_ _) | (with_reducible refine Below.drew ?_) | (with_reducible refine Below.stepG ?_ (by assumption) ?_) | (with_reducible refine Below.setCell ?_ ?_ _) | omega | (dsimp only; omega) | (simp; done) | (simp; omega))))
          case rest =>
            obtain ⟨P, Q, rfl, rfl, RP, RQ, gP, gQ, nPQ, HB4⟩ := hcut
            have F : Hid (Mt4 wr wc A B P Q (spC false x) (spC sy y) (adCells false x.1) (adCells false x.2)) :=
              ⟨RA.out.below HB4.out, RB.out.below HB4.out, RP.out, RQ.out, ⟨gA, gB, by omega, by omega⟩, ⟨by omega, by omega, fun e => nPQ e.symm, by omega, by omega⟩, HB3.out.trans (HB4.out.mono hzv)⟩
            obtain ⟨lo, hlo⟩ : ∃ lo : Bool × Nat, lo = if lessB false x.1 sy y.1 = true then (sy, y.1) else (false, x.1) := ⟨_, rfl⟩
            obtain ⟨hi, hhi⟩ : ∃ hi : Bool × Nat, hi = if lessB sy y.2 false x.2 = true then (sy, y.2) else (false, x.2) := ⟨_, rfl⟩
            have HLO := Lib.hid hlo
            have HHI := Lib.hid hhi
            have L1 := Lib.hid (fun w => lessX_any false x.1 sy y.1 w fx.1 fy1)
            have L2 := Lib.hid (fun w => lessX_any sy y.2 false x.2 w fy2 fx.2)
            have L4 := Lib.hid (fun w => lessX_any false x.2 sy y.2 w fx.2 fy2)
            clear hlo hhi x0 x1 x2 x3 x4 x5 lA lB RA RB RP RQ gA gB gP gQ nPQ HB3 HB4 hzv
            obtain ⟨lA, lB, lP, lQ, x3, x4, x5, y0, y1, y2, y3, y4, y5, p0, p1, p2, q0, q1, q2, fP, fQ⟩ := F.out.say
            go_upto_if 31 with (first | ((with_reducible refine (L1.out _).mono ?_); rintro e w2 ⟨rfl, hb2⟩; (repeat (with_reducible (replace hb2 := Below.undrew hb2))); obtain ⟨hc2, hf2⟩ := bcell hb2; have hz2 := hb2.size; (repeat (first | rw [World.size_alloc] at hz2 | rw [World.size_drew] at hz2 | rw [World.size_setCell] at hz2)); (try have : wr.heap.size < w2.heap.size := by omega); (try have : wr.heap.size < w2.heap.size + 1 := by omega); (try have : wr.heap.size < w2.heap.size + 1 + 1 := by omega); (try have : wr.heap.size < w2.heap.size + 1 + 1 + 1 := by omega); (try have : wr.heap.size + 1 < w2.heap.size := by omega); (try have : wr.heap.size + 1 < w2.heap.size + 1 := by omega); (try have : wr.heap.size + 1 < w2.heap.size + 1 + 1 := by omega); (try have : wr.heap.size + 1 < w2.heap.size + 1 + 1 + 1 := by omega)))
            have F2 := Lib.hid (F.out.below hb2)
            clear hb2 hc2 hf2 lA lB lP lQ x3 x4 x5 y0 y1 y2 y3 y4 y5 p0 p1 p2 q0 q1 q2 fP fQ F
            obtain ⟨lA, lB, lP, lQ, x3, x4, x5, y0, y1, y2, y3, y4, y5, p0, p1, p2, q0, q1, q2, fP, fQ⟩ := F2.out.say
            go_cut [] (fun wx => Hid (Mt4 wr wx A B P Q (spC false x) (spC sy y) (adCells lo.1 lo.2) (adCells false x.2)))
            case first =>
              by_cases c : lessB false x.1 sy y.1 = true
              · have e : lo = (sy, y.1) := by rw [HLO.out, if_pos c]
                rw [c]
                go_wp2_with fail
                go_meet
                rw [e]
                exact F2.out.setP sy y.1 rfl
              · have e : lo = (false, x.1) := by rw [HLO.out, if_neg c]
                rw [Bool.eq_false_iff.2 c]
                go_wp2_with fail
                go_meet
                rw [e]
                exact F2.out
            case rest =>
              clear F2 lA lB lP lQ x3 x4 x5 y0 y1 y2 y3 y4 y5 p0 p1 p2 q0 q1 q2 fP fQ
              have F3 : Hid (Mt4 wr wc A B P Q (spC false x) (spC sy y) (adCells lo.1 lo.2) (adCells false x.2)) := hcut
              clear hcut
              obtain ⟨lA, lB, lP, lQ, x3, x4, x5, y0, y1, y2, y3, y4, y5, p0, p1, p2, q0, q1, q2, fP, fQ⟩ := F3.out.say
              go_upto_if 37 with (first | ((with_reducible refine (L2.out _).mono ?_); rintro e w4 ⟨rfl, hb4⟩; (repeat (with_reducible (replace hb4 := Below.undrew hb4))); obtain ⟨hc4, hf4⟩ := bcell hb4; have hz4 := hb4.size; (repeat (first | rw [World.size_alloc] at hz4 | rw [World.size_drew] at hz4 | rw [World.size_setCell] at hz4)); (try have : wr.heap.size < w4.heap.size := by omega); (try have : wr.heap.size < w4.heap.size + 1 := by omega); (try have : wr.heap.size < w4.heap.size + 1 + 1 := by omega); (try have : wr.heap.size < w4.heap.size + 1 + 1 + 1 := by omega); (try have : wr.heap.size + 1 < w4.heap.size := by omega); (try have : wr.heap.size + 1 < w4.heap.size + 1 := by omega); (try have : wr.heap.size + 1 < w4.heap.size + 1 + 1 := by omega); (try have : wr.heap.size + 1 < w4.heap.size + 1 + 1 + 1 := by omega)))
              have F4 := Lib.hid (F3.out.below hb4)
              clear hb4 hc4 hf4 lA lB lP lQ x3 x4 x5 y0 y1 y2 y3 y4 y5 p0 p1 p2 q0 q1 q2 fP fQ F3
              obtain ⟨lA, lB, lP, lQ, x3, x4, x5, y0, y1, y2, y3, y4, y5, p0, p1, p2, q0, q1, q2, fP, fQ⟩ := F4.out.say
              go_cut [] (fun wx => Hid (Mt4 wr wx A B P Q (spC false x) (spC sy y) (adCells lo.1 lo.2) (adCells hi.1 hi.2)))
              case first =>
                by_cases c : lessB sy y.2 false x.2 = true
                · have e : hi = (sy, y.2) := by rw [HHI.out, if_pos c]
                  rw [c]
                  go_wp2_with fail
                  go_meet
                  rw [e]
                  exact F4.out.setQ sy y.2 rfl
                · have e : hi = (false, x.2) := by rw [HHI.out, if_neg c]
                  rw [Bool.eq_false_iff.2 c]
                  go_wp2_with fail
                  go_meet
                  rw [e]
                  exact F4.out
              case rest =>
                clear F4 lA lB lP lQ x3 x4 x5 y0 y1 y2 y3 y4 y5 p0 p1 p2 q0 q1 q2 fP fQ L1 L2
                have F5 : Hid (Mt4 wr wc A B P Q (spC false x) (spC sy y) (adCells lo.1 lo.2) (adCells hi.1 hi.2)) := hcut
                clear hcut
                rcases hcs with ⟨rfl, T2, rfl, rfl⟩ | ⟨rfl, rfl⟩
                · have hl : ∀ u v, lessB false u false v = decide (u < v) := fun u v => if_pos rfl
                  obtain ⟨p, hp⟩ : ∃ p, p = if x.1 < y.1 then y.1 else x.1 := ⟨_, rfl⟩
                  obtain ⟨q, hq⟩ : ∃ q, q = if y.2 < x.2 then y.2 else x.2 := ⟨_, rfl⟩
                  have elo : lo = (false, p) := by rw [HLO.out, hl, hp]; by_cases c : x.1 < y.1 <;> simp [c]
                  have ehi : hi = (false, q) := by rw [HHI.out, hl, hq]; by_cases c : y.2 < x.2 <;> simp [c]
                  have fp : Fits false p := by rw [hp]; split; exact fy1; exact fx.1
                  have fq : Fits false q := by rw [hq]; split; exact fy2; exact fx.2
                  have KEY := Lib.hid (meetL_cons x y A2 T2)
                  rw [← hp, ← hq] at KEY
                  have L3 := Lib.hid (fun w => lessX_any false q false p w fq fp)
                  rw [hl] at L3 L4
                  subst elo
                  subst ehi
                  obtain ⟨O2, hO2⟩ : ∃ O2, O2 = O ++ (if q < p then [] else [(p, q)]) := ⟨_, rfl⟩
                  have HO2 := Lib.hid hO2
                  have HLN := Lib.hid (show O2.length + A2.length + T2.length + 1 ≤ A'0.length + T.length by
                    have := HS.out.len
                    rw [hO2]
                    split <;> simp at this ⊢ <;> omega)
                  clear hl hp hq fp fq HLO HHI hO2
                  obtain ⟨lA, lB, lP, lQ, x3, x4, x5, y0, y1, y2, y3, y4, y5, p0, p1, p2, q0, q1, q2, fP, fQ⟩ := F5.out.say
                  go_upto_if 50 with (first | ((with_reducible refine (L3.out _).mono ?_); rintro e w6 ⟨rfl, hb6⟩; (repeat (with_reducible (replace hb6 := Below.undrew hb6))); obtain ⟨hc6, hf6⟩ := bcell hb6; have hz6 := hb6.size; (repeat (first | rw [World.size_alloc] at hz6 | rw [World.size_drew] at hz6 | rw [World.size_setCell] at hz6)); (try have : wr.heap.size < w6.heap.size := by omega); (try have : wr.heap.size < w6.heap.size + 1 := by omega); (try have : wr.heap.size < w6.heap.size + 1 + 1 := by omega); (try have : wr.heap.size < w6.heap.size + 1 + 1 + 1 := by omega); (try have : wr.heap.size + 1 < w6.heap.size := by omega); (try have : wr.heap.size + 1 < w6.heap.size + 1 := by omega); (try have : wr.heap.size + 1 < w6.heap.size + 1 + 1 := by omega); (try have : wr.heap.size + 1 < w6.heap.size + 1 + 1 + 1 := by omega)))
                  have F6 := Lib.hid (F5.out.below hb6)
                  clear hb6 hc6 hf6 lA lB lP lQ x3 x4 x5 y0 y1 y2 y3 y4 y5 p0 p1 p2 q0 q1 q2 fP fQ F5
                  obtain ⟨lA, lB, lP, lQ, x3, x4, x5, y0, y1, y2, y3, y4, y5, p0, p1, p2, q0, q1, q2, fP, fQ⟩ := F6.out.say
                  go_cut [5] (fun v5 wx => ∃ oa oc, v5 = .slice oa O2.length oc ∧ Hid (Wk.Own wx w.heap.size 141 6 (.slice oa O2.length oc) (O2.map (spC false))) ∧ Hid (RX wx A (spC false x)) ∧ Hid (RX wx B (spC false y)) ∧ Hid (Below w.heap.size w wx))
                  case first =>
                    by_cases c3 : q < p
                    · have e : O2 = O := by rw [HO2.out, if_pos c3, List.append_nil]
                      rw [decide_eq_true c3]
                      go_wp2_with fail
                      go_meet
                      rw [e]
                      exact ⟨oa, oc, rfl, HO.out.below F6.out.bl, F6.out.ra, F6.out.rb, HB.out.trans (F6.out.bl.mono hzr)⟩
                    · have e : O2 = O ++ [(p, q)] := by rw [HO2.out, if_neg c3]
                      have hzc := F6.out.bl.size
                      have HE := Lib.hid e
                      have HOL := Lib.hid (show O.length ≤ 800 by have := HS.out.len; have := LT.out; omega)
                      clear e
                      rw [decide_eq_false c3]
                      go_wp2_with (at_builtin; refine stop_at ?_; intro G hG)
                      rw [← hG.out]; clear hG G
                      refine wpList_append_at rfl _ _ 93 141 6 48 _ rfl eiSp w.heap.size (.slice oa O.length oc) (O.map (spC false)) rfl ((HO.out.below F6.out.bl).alloc _) _ [spC false (p, q)] rfl (sl_new (c := spC false (p, q)) (by simp) rfl) (by intro c hc; simp at hc; subst hc; exact spC_one false _) (by have := HOL.out; simp; omega) (by decide) (by simp; omega) (by simp) ?_
                      intro v7 w7 hown hgr hb7 hat
                      rw [show O.map (spC false) ++ [spC false (p, q)] = O2.map (spC false) by rw [HE.out, List.map_append]; rfl] at hown
                      obtain ⟨oa7, oc7, rfl⟩ := hown.shape
                      rw [List.length_map] at hown ⊢
                      have hblk : ∀ g, (Value.slice oa O.length oc).ownBlock = some g → g ≠ A ∧ g ≠ B := fun g hg => by
                        have := (HO.out.lt g hg).2
                        have := F6.out.ge
                        omega
                      have HO7 := Lib.hid hown
                      have RA7 := Lib.hid ((F6.out.ra.below ((Below.refl _ _).alloc (Nat.le_refl _) _)).grown hgr (fun g hg => (hblk g hg).1))
                      have RB7 := Lib.hid ((F6.out.rb.below ((Below.refl _ _).alloc (Nat.le_refl _) _)).grown hgr (fun g hg => (hblk g hg).2))
                      have HB7 := Lib.hid (HB.out.trans (((F6.out.bl.mono hzr).alloc (by omega) _).trans hb7))
                      clear hown hgr hb7 hat hblk
                      go_wp2_with fail
                      go_meet
                      exact ⟨_, _, rfl, HO7, RA7, RB7, HB7⟩
                  case rest =>
                    clear F6 lA lB lP lQ x3 x4 x5 y0 y1 y2 y3 y4 y5 p0 p1 p2 q0 q1 q2 fP fQ L3
                    obtain ⟨oa2, oc2, rfl, HO3, RA3, RB3, HB3⟩ := hcut
                    have lA := RA3.out.lt
                    have lB := RB3.out.lt
                    have x3 := RA3.out.cell 3 _ rfl
                    have x4 := RA3.out.cell 4 _ rfl
                    have x5 := RA3.out.cell 5 _ rfl
                    have y3 := RB3.out.cell 3 _ rfl
                    have y4 := RB3.out.cell 4 _ rfl
                    have y5 := RB3.out.cell 5 _ rfl
                    have hz3 := HB3.out.size
                    by_cases c4 : x.2 < y.2
                    · have NS : Hid (MtSt w A'0 T A2 (y :: T2) U' O2 a2' (la - 1) c2' (some ⟨g2, o2, none⟩) lb d0) :=
                        ⟨by have := HS.out.al; simp at this; omega, HS.out.bl, hsla, HS.out.sb, by
                          rw [← HS.out.is, KEY.out, if_pos c4, HO2.out, List.append_assoc], fun s hs => HS.out.fa s (List.mem_cons_of_mem _ hs), HS.out.ft, HS.out.fu, by have := HLN.out; simp; omega⟩
                      rw [decide_eq_true c4] at L4
                      have IA := HTA.out
                      go_wp2_with (first | ((with_reducible refine (L4.out _).mono ?_); rintro e w8 ⟨rfl, hb8⟩; (repeat (with_reducible (replace hb8 := Below.undrew hb8))); obtain ⟨hc8, hf8⟩ := bcell hb8; have hz8 := hb8.size; (repeat (first | rw [World.size_alloc] at hz8 | rw [World.size_drew] at hz8 | rw [World.size_setCell] at hz8)); (try have : wr.heap.size < w8.heap.size := by omega); (try have : wr.heap.size < w8.heap.size + 1 := by omega); (try have : wr.heap.size < w8.heap.size + 1 + 1 := by omega); (try have : wr.heap.size < w8.heap.size + 1 + 1 + 1 := by omega); (try have : wr.heap.size + 1 < w8.heap.size := by omega); (try have : wr.heap.size + 1 < w8.heap.size + 1 := by omega); (try have : wr.heap.size + 1 < w8.heap.size + 1 + 1 := by omega); (try have : wr.heap.size + 1 < w8.heap.size + 1 + 1 + 1 := by omega)))
                      go_roundw
                      case rel => exact ⟨A2, y :: T2, U', O2, la - 1, lb, a2', c2', _, d0, oa2, oc2, rfl, rfl, rfl, NS, by omega, hlb, Lib.hid (HO3.out.below (by (repeat' (first | (with_reducible exact Below.refl _ _) | (with_reducible assumption) | (with_reducible refine Below.alloc ?_ ?_ _) | (with_reducible refine Below.drew ?_) | (with_reducible refine Below.stepG ?_ (by assumption) ?_) | (with_reducible refine Below.setCell ?_ ?_ _) | omega | (dsimp only; omega) | (simp; done) | (simp; omega))))), Lib.hid (HB3.out.trans (by (repeat' (first | (with_reducible exact Below.refl _ _) | (with_reducible assumption) | (with_reducible refine Below.alloc ?_ ?_ _) | (with_reducible refine Below.drew ?_) | (with_reducible refine Below.stepG ?_ (by assumption) ?_) | (with_reducible refine Below.setCell ?_ ?_ _) | omega | (dsimp only; omega) | (simp; done) | (simp; omega)))))⟩
                      case measure => simp [lenOfV2]; omega
                    · have NS : Hid (MtSt w A'0 T (x :: A2) T2 U' O2 (some ⟨g1, o1, none⟩) la c0 b2' (lb - 1) d2') :=
                        ⟨HS.out.al, by have := HS.out.bl; simp at this; omega, HS.out.sa, hslb, by
                          rw [← HS.out.is, KEY.out, if_neg c4, HO2.out, List.append_assoc], HS.out.fa, fun s hs => HS.out.ft s (List.mem_cons_of_mem _ hs), HS.out.fu, by have := HLN.out; simp; omega⟩
                      rw [decide_eq_false c4] at L4
                      have IB := HTB.out
                      go_wp2_with (first | ((with_reducible refine (L4.out _).mono ?_); rintro e w8 ⟨rfl, hb8⟩; (repeat (with_reducible (replace hb8 := Below.undrew hb8))); obtain ⟨hc8, hf8⟩ := bcell hb8; have hz8 := hb8.size; (repeat (first | rw [World.size_alloc] at hz8 | rw [World.size_drew] at hz8 | rw [World.size_setCell] at hz8)); (try have : wr.heap.size < w8.heap.size := by omega); (try have : wr.heap.size < w8.heap.size + 1 := by omega); (try have : wr.heap.size < w8.heap.size + 1 + 1 := by omega); (try have : wr.heap.size < w8.heap.size + 1 + 1 + 1 := by omega); (try have : wr.heap.size + 1 < w8.heap.size := by omega); (try have : wr.heap.size + 1 < w8.heap.size + 1 := by omega); (try have : wr.heap.size + 1 < w8.heap.size + 1 + 1 := by omega); (try have : wr.heap.size + 1 < w8.heap.size + 1 + 1 + 1 := by omega)))
                      go_roundw
                      case rel => exact ⟨x :: A2, T2, U', O2, la, lb - 1, _, c0, b2', d2', oa2, oc2, rfl, rfl, rfl, NS, hla, by omega, Lib.hid (HO3.out.below (by (repeat' (first | (with_reducible exact Below.refl _ _) | (with_reducible assumption) | (with_reducible refine Below.alloc ?_ ?_ _) | (with_reducible refine Below.drew ?_) | (with_reducible refine Below.stepG ?_ (by assumption) ?_) | (with_reducible refine Below.setCell ?_ ?_ _) | omega | (dsimp only; omega) | (simp; done) | (simp; omega))))), Lib.hid (HB3.out.trans (by (repeat' (first | (with_reducible exact Below.refl _ _) | (with_reducible assumption) | (with_reducible refine Below.alloc ?_ ?_ _) | (with_reducible refine Below.drew ?_) | (with_reducible refine Below.stepG ?_ (by assumption) ?_) | (with_reducible refine Below.setCell ?_ ?_ _) | omega | (dsimp only; omega) | (simp; done) | (simp; omega)))))⟩
                      case measure => simp [lenOfV2]; omega
                · have elo : lo = (true, y.1) := by rw [HLO.out]; rfl
                  have ehi : hi = (false, x.2) := by rw [HHI.out]; rfl
                  rw [show lessB false x.2 true y.2 = true from rfl] at L4
                  subst elo
                  subst ehi
                  have NS : Hid (MtSt w A'0 T A2 [] U' O a2' (la - 1) c2' (some ⟨g2, o2, none⟩) lb d0) :=
                    ⟨by have := HS.out.al; simp at this; omega, HS.out.bl, hsla, HS.out.sb, by
                      rw [← HS.out.is, meetL_nil, meetL_nil], fun s hs => HS.out.fa s (List.mem_cons_of_mem _ hs), HS.out.ft, HS.out.fu, by have := HS.out.len; simp at this ⊢; omega⟩
                  have IA := HTA.out
                  obtain ⟨lA, lB, lP, lQ, x3, x4, x5, y0, y1, y2, y3, y4, y5, p0, p1, p2, q0, q1, q2, fP, fQ⟩ := F5.out.say
                  have hz5 := F5.out.bl.size
                  go_wp2_with (first | ((with_reducible refine (L4.out _).mono ?_); rintro e w8 ⟨rfl, hb8⟩; (repeat (with_reducible (replace hb8 := Below.undrew hb8))); obtain ⟨hc8, hf8⟩ := bcell hb8; have hz8 := hb8.size; (repeat (first | rw [World.size_alloc] at hz8 | rw [World.size_drew] at hz8 | rw [World.size_setCell] at hz8)); (try have : wr.heap.size < w8.heap.size := by omega); (try have : wr.heap.size < w8.heap.size + 1 := by omega); (try have : wr.heap.size < w8.heap.size + 1 + 1 := by omega); (try have : wr.heap.size < w8.heap.size + 1 + 1 + 1 := by omega); (try have : wr.heap.size + 1 < w8.heap.size := by omega); (try have : wr.heap.size + 1 < w8.heap.size + 1 := by omega); (try have : wr.heap.size + 1 < w8.heap.size + 1 + 1 := by omega); (try have : wr.heap.size + 1 < w8.heap.size + 1 + 1 + 1 := by omega)))
                  go_roundw
                  case rel => exact ⟨A2, [], U', O, la - 1, lb, a2', c2', _, d0, oa, oc, rfl, rfl, rfl, NS, by omega, hlb, Lib.hid (HO.out.below (F5.out.bl.trans (by (repeat' (first | (with_reducible exact Below.refl _ _) | (with_reducible assumption) | (with_reducible refine Below.alloc ?_ ?_ _) | (with_reducible refine Below.drew ?_) | (with_reducible refine Below.stepG ?_ (by assumption) ?_) | (with_reducible refine Below.setCell ?_ ?_ _) | omega | (dsimp only; omega) | (simp; done) | (simp; omega)))))), Lib.hid (HB.out.trans ((F5.out.bl.trans (by (repeat' (first | (with_reducible exact Below.refl _ _) | (with_reducible assumption) | (with_reducible refine Below.alloc ?_ ?_ _) | (with_reducible refine Below.drew ?_) | (with_reducible refine Below.stepG ?_ (by assumption) ?_) | (with_reducible refine Below.setCell ?_ ?_ _) | omega | (dsimp only; omega) | (simp; done) | (simp; omega))))).mono hzr))⟩
                  case measure => simp [lenOfV2]; omega
end Go.Proofs.Ytoecmoicaklbaaa
