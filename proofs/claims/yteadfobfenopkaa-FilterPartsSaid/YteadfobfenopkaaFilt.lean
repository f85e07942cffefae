
/- Contract: rules.Filter. -/
import Derived.Test.YteadfobfenopkaaPassed
import Derived.Test.YteadfobfenopkaaLk
set_option linter.unusedVariables false
set_option linter.unusedSimpArgs false
namespace Go.Proofs.Yteadfobfenopkaa
open Go Go.RowKit Go.Sort Wc Wk

def thru (rs : List RuleD) (L : List (Nat × Nat × Nat)) : List (Nat × Nat × Nat) := L.filter (fun x => passY rs x.1 x.2.1)
theorem thru_snoc (rs : List RuleD) {L : List (Nat × Nat × Nat)} {m : Nat} {x : Nat × Nat × Nat} (hx : L[m]? = some x) : thru rs (L.take (m + 1)) = thru rs (L.take m) ++ (if passY rs x.1 x.2.1 then [x] else []) := by
  unfold thru
  rw [List.take_add_one, hx, List.filter_append]
  congr 1
  by_cases h : passY rs x.1 x.2.1 = true
  · rw [if_pos h]; simp [h]
  · rw [if_neg h]; simp [h]
theorem thru_len (rs : List RuleD) (L : List (Nat × Nat × Nat)) : (thru rs L).length ≤ L.length := List.length_filter_le _ _
theorem thru_twice (rs : List RuleD) (L : List (Nat × Nat × Nat)) : thru rs (thru rs L) = thru rs L := by
  unfold thru; rw [List.filter_filter]; simp
theorem thru_ok {L : List (Nat × Nat × Nat)} (rs : List RuleD) (h : RtOk L) : RtOk (thru rs L) := by
  have hs : (thru rs L).Sublist L := List.filter_sublist
  exact ⟨fun x hx => h.vp x (hs.subset hx), fun x hx => h.lo x (hs.subset hx), fun x hx => h.hi x (hs.subset hx), h.keys.sublist hs, Nat.le_trans hs.length_le h.len⟩


set_option maxRecDepth 100000 in
set_option maxHeartbeats 2000000 in
theorem filter_any (a : Option Addr) (ca n : Nat) (b : Option Addr) (cb m : Nat) (rs : List RuleD) (L : List (Nat × Nat × Nat)) (w : World) (hn : n = rs.length) (hm : m = L.length) (ha : Sl w 7 (.slice a n ca) (rs.map ruleCells)) (hb : Sl w 5 (.slice b m cb) (L.map routeCells))
    (hr : rs.length ≤ 30) (hok : ∀ q ∈ rs, RuleD.ok q) (hL : RtOk L) :
    Calls Try.prog 28 #[.slice a n ca, .slice b m cb] w fun e w' => ∃ v, e = .returned (.tuple #[v, .int .i64 0]) ∧ Wk.Own w' w.heap.size 53 5 v ((thru rs L).map routeCells) ∧ Below w.heap.size w w' := by
  subst hn
  have HM := Lib.hid hm
  have HA := Lib.hid ha
  have HB := Lib.hid hb
  have HK := Lib.hid hok
  have HL := Lib.hid hL
  have h60 : m ≤ 60 := by have := hL.len; omega
  have l1 := hb.lens.2.1
  have l2 := hb.lens.2.2
  have HR := Lib.hid hr
  clear ha hb hok hL hm hr
  go_enter Try.func28, Try.ntmps28
  go_wp2_with fail
  refine (rcheck_any a ca rs w HA.out HR.out HK.out).mono ?_
  rintro e w1 ⟨rfl, hb1⟩
  have HB1 := Lib.hid (HB.out.below hb1)
  have HA1 := Lib.hid (HA.out.below hb1)
  have HW := Lib.hid hb1
  clear hb1 HA HB
  go_wp2_with fail
  refine (check_any b cb m L w1 HM.out HB1.out HL.out).mono ?_
  rintro e w2 ⟨rfl, hb2⟩
  have HBb := Lib.hid (HB1.out.below hb2)
  have HAa := Lib.hid (HA1.out.below hb2)
  have HWw := Lib.hid (HW.out.trans (hb2.mono HW.out.size))
  have hz2 := HWw.out.size
  clear hb2 HA1 HB1 HW
  go_wp2_with fail
  go_loopw [8, 25] (fun v i wr => ∃ (k : Nat), k ≤ m ∧ i = .int .i64 k ∧ Hid (Wk.Own wr w2.heap.size 53 5 v ((thru rs (L.take k)).map routeCells)) ∧ Hid (Below w2.heap.size w2 wr)) (fun _ i _ => m - (intOf i).toNat)
  case atStart => exact ⟨0, Nat.zero_le _, rfl, Wk.Own.nil _ _ _ _, Below.refl _ _⟩
  case round =>
    obtain ⟨k, hk, rfl, HV, HX⟩ := hrel
    have hzr := HX.out.size
    by_cases hlt : k < m
    · obtain ⟨x, hx⟩ : ∃ x, L[k]? = some x := ⟨_, List.getElem?_eq_getElem (by rw [← HM.out]; exact hlt)⟩
      obtain ⟨g, off, rfl, hg, c0, c1, c2, c3, c4⟩ := Sl.route HBb.out HX.out hx
      have HVP := Lib.hid (HL.out.vp x (List.mem_of_getElem? hx))
      have HT := Lib.hid (thru_snoc rs hx)
      have HTL := Lib.hid (Nat.le_trans (thru_len rs (L.take k)) (List.length_take_le k L))
      generalize thru rs (L.take k) = T0 at *
      have PA := Lib.hid (fun (W : World) (hW : Below w2.heap.size w2 W) => rpass_any a ca rs x.1 x.2.1 W (HAa.out.below hW) (by have := HR.out; omega) HK.out HVP.out)
      clear hx
      go_wp2_with fail
      have hB1 : Below w2.heap.size w2 (wr.alloc (.cells (routeCells x).toArray 53)) := HX.out.alloc hzr _
      refine (PA.out _ hB1).mono ?_
      rintro e w3 ⟨rfl, hb3⟩
      have hB3 := hB1.trans (hb3.mono (by simp; omega))
      have HB3 := Lib.hid hB3
      have HV3 := Lib.hid ((HV.out.alloc (.cells (routeCells x).toArray 53)).below hb3)
      have f0 : w3.cell? ⟨wr.heap.size, 0, none⟩ = some (.bool false) := (hb3.cell (p := ⟨wr.heap.size, 0, none⟩) (by simp)).trans (by rw [World.cell?_alloc_new]; rfl)
      have f1 : w3.cell? ⟨wr.heap.size, 1, none⟩ = some (.int .u64 (hiOf false x.1)) := (hb3.cell (p := ⟨wr.heap.size, 1, none⟩) (by simp)).trans (by rw [World.cell?_alloc_new]; rfl)
      have f2 : w3.cell? ⟨wr.heap.size, 2, none⟩ = some (.int .u64 (loOf x.1)) := (hb3.cell (p := ⟨wr.heap.size, 2, none⟩) (by simp)).trans (by rw [World.cell?_alloc_new]; rfl)
      have f3 : w3.cell? ⟨wr.heap.size, 3, none⟩ = some (.int .i64 x.2.1) := (hb3.cell (p := ⟨wr.heap.size, 3, none⟩) (by simp)).trans (by rw [World.cell?_alloc_new]; rfl)
      have f4 : w3.cell? ⟨wr.heap.size, 4, none⟩ = some (.int .i64 x.2.2) := (hb3.cell (p := ⟨wr.heap.size, 4, none⟩) (by simp)).trans (by rw [World.cell?_alloc_new]; rfl)
      have hz3 : w2.heap.size ≤ w3.heap.size := hB3.size
      clear hb3 hB3 hB1 c0 c1 c2 c3 c4
      by_cases hy : passY rs x.1 x.2.1 = true
      · rw [if_pos hy] at HT
        rw [hy]
        clear hy
        go_wp2_with (at_builtin; refine stop_at ?_; intro G hG)
        rw [← hG.out]; clear hG G
        refine wpList_append_any rfl _ _ 41 53 5 40 _ rfl eiRoute w2.heap.size _ (T0.map routeCells) rfl (HV3.out.alloc _) _ [routeCells x] rfl (sl_new (c := routeCells x) (by simp) rfl) (by intro c hc; simp at hc; subst hc; exact routeCells_one _) (by have := HTL.out; simp; omega) (by decide) (by simp; omega) ?_
        intro v5 w5 hown5 hb5
        have HV5 := Lib.hid (show Wk.Own w5 w2.heap.size 53 5 v5 ((thru rs (L.take (k + 1))).map routeCells) by rw [HT.out, List.map_append]; exact hown5)
        have HB5 := Lib.hid ((HB3.out.alloc hz3 _).trans hb5)
        clear hown5 hb5
        go_wp2_with fail
        go_roundw
        case rel => exact ⟨k + 1, by omega, by go_num, HV5, HB5⟩
        case measure => simp [intOf]; omega
      · rw [if_neg hy, List.append_nil] at HT
        have hy' : passY rs x.1 x.2.1 = false := by simpa using hy
        rw [hy']
        rw [← HT.out] at HV3
        clear hy hy'
        go_wp2_with fail
        go_roundw
        case rel => exact ⟨k + 1, by omega, by go_num, HV3, HB3⟩
        case measure => simp [intOf]; omega
    · obtain rfl : k = m := by omega
      rw [HM.out, List.take_of_length_le (Nat.le_refl _)] at HV
      obtain ⟨a5, c5, h5⟩ := HV.out.shape
      rw [List.length_map] at h5
      subst h5
      go_wp2_with fail
      go_returns
      exact ⟨_, rfl, HV.out.base hz2, HWw.out.trans (HX.out.mono hz2)⟩
end Go.Proofs.Yteadfobfenopkaa
