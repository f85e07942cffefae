
/- whipcordkeep.StrideFew: the walk. -/
import Derived.Test.YtoecmoicaklbaaaDoorSt10
set_option linter.unusedVariables false
set_option linter.unusedSimpArgs false
namespace Go.Proofs.YtoecmoicaklbaaaDoor
open Go Go.RowKit Go.Sort Wc Wk

/-- What a tree is made of. -/
theorem few_hops {R : List (Nat × Nat × Nat)} (hR : RtOk R) : ((treeOf R).map (fun x => x.hops.length)).sum = R.length := hops_sum hR (bT_done hR)
theorem few_full {R : List (Nat × Nat × Nat)} (hR : RtOk R) {i : Nat} (h0 : 0 < i) {x : NodeD} (hx : (treeOf R)[i]? = some x) : ¬ (x.hops.length = 0 ∧ x.kids.length = 0) := by
  have hi : i < bT R := by rw [← treeOf_length]; exact (List.getElem?_eq_some_iff.1 hx).1
  have hb := bT_done hR
  have hy := bq_at hi (List.getElem?_eq_getElem (by rw [hb]; exact hi))
  obtain ⟨y, hyy⟩ : ∃ y, y = (bq (nodeIn R) (bT R))[i]'(by rw [hb]; exact hi) := ⟨_, rfl⟩
  rw [← hyy] at hy
  have h2 := treeL_at (H := hopAt R) hi hy
  have h3 : (treeOf R)[i]? = some (nodeAt (nodeIn R) (hopAt R) y (bq (nodeIn R) i).length) := h2
  rw [hx] at h3
  cases h3
  have h4 := node_full hR h0 hy
  unfold nodeAt
  dsimp only
  rw [List.length_map, List.length_map, List.length_range]
  intro e
  rcases h4 with h | h
  · exact h (List.length_eq_zero_iff.1 e.1)
  · exact h (List.length_eq_zero_iff.1 e.2)
theorem few_len {R : List (Nat × Nat × Nat)} (hR : RtOk R) : 1 ≤ (treeOf R).length ∧ (treeOf R).length ≤ 1 + 8 * R.length := by
  rw [treeOf_length]
  refine ⟨?_, bT_le hR⟩
  apply Nat.pos_of_ne_zero
  intro e
  have h := bT_done hR
  rw [e] at h
  simp [bq] at h
theorem sum_take {l : List Nat} {j x : Nat} (h : l[j]? = some x) : (l.take (j + 1)).sum = (l.take j).sum + x := by
  rw [List.take_add_one, h, List.sum_append]
  simp
theorem sum_take_le (l : List Nat) (j : Nat) : (l.take j).sum ≤ l.sum := by
  have h := List.take_append_drop j l
  have : l.sum = (l.take j).sum + (l.drop j).sum := by rw [← List.sum_append, h]
  omega
def hopsN (R : List (Nat × Nat × Nat)) : List Nat := (treeOf R).map (fun x => x.hops.length)
-- StrideFew

set_option maxHeartbeats 4000000 in
theorem strideFew_walk (a0 : Option Addr) (len0 cap0 : Nat) (z0 : List RawJ) (w : World) (h0 : IsJobs w a0 len0 cap0 z0) (hT : TabAt 0 Lib.deBruijn64tab w) (hz : 0 < w.heap.size) :
    Calls Tryd.prog 3 #[.slice a0 len0 cap0] w fun e w' => e = .returned (.bool true) ∧ Below w.heap.size w w' := by
  have HT := Lib.hid hT
  have HZ := Lib.hid hz
  have AC := Lib.hid (acts_any a0 len0 cap0 z0 60 w h0 (by decide))
  clear h0 hT hz
  go_enter Tryd.func3, Tryd.ntmps3
  go_wp2_with fail
  refine AC.out.mono ?_
  rintro e w1 ⟨v1, rfl, HO, hb1⟩
  obtain ⟨aa, ca, rfl⟩ := HO.shape
  rw [List.length_map] at HO ⊢
  have RO := Lib.hid (routesOf_any aa ca (actsOf z0 60).length (actsOf z0 60) w1 rfl HO.sl (Nat.le_trans (actsOf_len z0 60) (by decide)) actsOf_fit)
  have HB1 := Lib.hid hb1
  have HFIT := Lib.hid (actsOf_fit (js := z0) (n := 60))
  generalize actsOf z0 60 = AL at *
  clear HO hb1 AC
  go_wp2_with fail
  refine RO.out.mono ?_
  rintro e w2 ⟨v2, rfl, HO2, hb2⟩
  have HRK := Lib.hid (RtOk.of_tab (tend_ok TabOk.nil (l := AL) HFIT.out))
  generalize tend [] AL = R at *
  obtain ⟨ra, rc, rfl⟩ := HO2.shape
  rw [List.length_map] at HO2 ⊢
  have HB2 := Lib.hid (HB1.out.trans (hb2.mono HB1.out.size))
  obtain ⟨m, hm⟩ : ∃ m, m = R.length := ⟨_, rfl⟩
  have HM := Lib.hid hm
  have SD := Lib.hid (strided_any ra rc R.length R w2 rfl HO2.sl HRK.out (tab_in HT.out HZ.out HB2.out) (Nat.lt_of_lt_of_le HZ.out HB2.out.size))
  rw [← hm] at SD ⊢
  clear HO2 hb2 RO hm HB1
  go_wp2_with fail
  refine SD.out.mono ?_
  rintro e w3 ⟨v3, rfl, rows, q3, n3, b3⟩
  obtain ⟨ta, tc, rfl⟩ := q3.shape
  have HB3 := Lib.hid (HB2.out.trans (b3.mono HB2.out.size))
  obtain ⟨tl, htl⟩ : ∃ t, t = rows.length := ⟨_, rfl⟩
  have HTL := Lib.hid (show tl = (treeOf R).length by rw [htl]; exact n3.1)
  have HN := Lib.hid (show NodesR w3 ta tl tc (treeOf R) rows from ⟨by rw [htl]; exact q3.sl, HTL.out, n3.1, fun m nd r e1 e2 => (n3.2 m nd r e1 e2).read, treeOf_bits R⟩)
  rw [← htl] at ⊢
  have l1 : 1 ≤ tl := by rw [HTL.out]; exact (few_len HRK.out).1
  have l2 : tl ≤ 1 + 8 * m := by rw [HTL.out, HM.out]; exact (few_len HRK.out).2
  have l3 : m ≤ 60 := by rw [HM.out]; exact HRK.out.len
  clear q3 n3 b3 htl SD HB2
  go_wp2_with fail
  go_loopw [7, 8] (fun v7 v8 wr => ∃ j : Nat, j ≤ tl ∧ v8 = .int .i64 j ∧ v7 = .int .i64 (((hopsN R).take j).sum : Nat) ∧ Hid (Below w.heap.size w wr) ∧ Hid (Below w3.heap.size w3 wr)) (fun _ i _ => tl - (intOf i).toNat)
  case atStart => exact ⟨0, Nat.zero_le _, rfl, rfl, HB3, Lib.hid (Below.refl _ _)⟩
  case round =>
    obtain ⟨j, hj, rfl, rfl, HB, HC⟩ := hrel
    have hzr := HC.out.size
    by_cases hlt : j < tl
    · obtain ⟨x, hx⟩ : ∃ x, (treeOf R)[j]? = some x := ⟨_, List.getElem?_eq_getElem (by rw [← HTL.out]; exact hlt)⟩
      obtain ⟨r, hr⟩ : ∃ r, rows[j]? = some r := ⟨_, List.getElem?_eq_getElem (by rw [HN.out.rl, ← HTL.out]; exact hlt)⟩
      obtain ⟨a1, c1, a2, c2, e1, _, _⟩ := HN.out.ro j x r hx hr
      obtain ⟨g, o, rfl, hg, hcl⟩ := Sl.at HN.out.sl hr
      have hgr : g < wr.heap.size := by omega
      have k : ∀ y u, r[y]? = some u → wr.cell? ⟨g, o + j * 4 + y, none⟩ = some u := fun y u hu => (HC.out.cell (p := ⟨g, o + j * 4 + y, none⟩) hg).trans (hcl y u hu)
      rw [e1] at k
      have t2 := k 2 _ rfl
      have t3 := k 3 _ rfl
      have hfu : ¬ (0 < j ∧ x.hops.length = 0 ∧ x.kids.length = 0) := fun e => few_full HRK.out e.1 hx e.2
      have hst := sum_take (l := hopsN R) (j := j) (x := x.hops.length) (by unfold hopsN; rw [List.getElem?_map, hx]; rfl)
      have hle := sum_take_le (hopsN R) (j + 1)
      have hall : (hopsN R).sum = m := by rw [HM.out]; exact few_hops HRK.out
      obtain ⟨hn, hhn⟩ : ∃ s, s = x.hops.length := ⟨_, rfl⟩
      obtain ⟨kn, hkn⟩ : ∃ s, s = x.kids.length := ⟨_, rfl⟩
      obtain ⟨P, hP⟩ : ∃ s, s = ((hopsN R).take j).sum := ⟨_, rfl⟩
      obtain ⟨P1, hP1⟩ : ∃ s, s = ((hopsN R).take (j + 1)).sum := ⟨_, rfl⟩
      have HP1 := Lib.hid hP1
      rw [← hhn, ← hkn] at hfu
      rw [← hhn] at t2 hst
      rw [← hkn] at t3
      rw [← hP, ← hP1] at hst
      rw [hall, ← hP1] at hle
      rw [← hP]
      clear hx hr e1 hcl k hhn hkn hP hP1 hg hall
      have ewp : IntKind.i64.wrap ((P : Int) + hn) = (P1 : Int) := by rw [IntKind.wrap_i64]; omega
      have ewp2 : wrap64 ((P : Int) + hn) = (P1 : Int) := by rw [show (P : Int) + hn = (P1 : Int) by omega]; exact wrap64_in (by omega) (by omega)
      have hcs : (¬ (0 : Int) < j) ∨ ((0 : Int) < j ∧ ¬ ((hn : Int) = 0)) ∨ ((0 : Int) < j ∧ hn = 0 ∧ ¬ ((kn : Int) = 0)) := by omega
      clear hfu hst hle
      rcases hcs with c | ⟨c, c'⟩ | ⟨c, rfl, c'⟩
      all_goals go_wp2_with fail
      all_goals go_roundw
      case rel => exact ⟨j + 1, by omega, by go_num, by first | (rw [← HP1.out]; done) | (rw [← HP1.out]; have h := ewp2; simp at h ⊢; first | exact h | omega), HB, HC⟩
      case measure => simp [intOf]; omega
      case rel => exact ⟨j + 1, by omega, by go_num, by first | (rw [← HP1.out]; done) | (rw [← HP1.out]; have h := ewp2; simp at h ⊢; first | exact h | omega), HB, HC⟩
      case measure => simp [intOf]; omega
      case rel => exact ⟨j + 1, by omega, by go_num, by first | (rw [← HP1.out]; done) | (rw [← HP1.out]; have h := ewp2; simp at h ⊢; first | exact h | omega), HB, HC⟩
      case measure => simp [intOf]; omega
    · obtain rfl : tl = j := by omega
      have hs : ((hopsN R).take tl).sum = m := by
        rw [List.take_of_length_le (by unfold hopsN; rw [List.length_map, ← HTL.out]; exact Nat.le_refl _), HM.out]
        exact few_hops HRK.out
      rw [hs]
      clear hs
      go_wp2_with fail
      go_returns
      exact ⟨by simp, HB.out⟩
end Go.Proofs.YtoecmoicaklbaaaDoor
