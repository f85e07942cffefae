
/- Contracts: delta.Diff, delta.Apply. -/
import Derived.Test.YteadfobfenopkaaDel2
set_option linter.unusedVariables false
set_option linter.unusedSimpArgs false
namespace Go.Proofs.Yteadfobfenopkaa
open Go Go.RowKit Go.Sort Wc Wk

theorem putAll_tab {l : List (Nat × Nat × Nat)} (h : RtOk l) : TabOk (putAll l) := by
  obtain ⟨s, hh, hm, hl⟩ := putAll_ok _ h rfl
  exact ⟨s, hh, fun x hx => h.vp x ((hm x).1 hx), fun x hx => h.hi x ((hm x).1 hx), by rw [hl]; exact h.len⟩

set_option maxRecDepth 100000 in
set_option maxHeartbeats 1000000 in
theorem ddiff_any (a : Option Addr) (ca n : Nat) (b : Option Addr) (cb m : Nat) (l k : List (Nat × Nat × Nat)) (w : World) (hn : n = l.length) (hm : m = k.length) (ha : Sl w 5 (.slice a n ca) (l.map routeCells)) (hb : Sl w 5 (.slice b m cb) (k.map routeCells)) (hl : RtOk l) (hk : RtOk k) :
    Calls Try.prog 26 #[.slice a n ca, .slice b m cb] w fun e w' => ∃ v, e = .returned (.tuple #[v, .int .i64 0]) ∧ Wk.Own w' w.heap.size 35 9 v ((diffL (putAll l) (putAll k)).map actCells) ∧ Below w.heap.size w w' := by
  have HN := Lib.hid hn
  have HM := Lib.hid hm
  have HA := Lib.hid ha
  have HB := Lib.hid hb
  have HL := Lib.hid hl
  have HK := Lib.hid hk
  clear hn hm ha hb hl hk
  go_enter Try.func26, Try.ntmps26
  go_wp2_with fail
  refine (new_any a ca n l w HN.out HA.out HL.out).mono ?_
  rintro e w1 ⟨t1, rfl, ht1⟩
  have hz1 := ht1.bel.size
  have HT1 := Lib.hid ht1
  clear ht1
  go_wp2_with fail
  refine (new_any b cb m k w1 HM.out (HB.out.below HT1.out.bel) HK.out).mono ?_
  rintro e w2 ⟨t2, rfl, ht2⟩
  have hz2 := ht2.bel.size
  have HT2 := Lib.hid ht2
  have HT12 := Lib.hid (HT1.out.below ht2.bel)
  clear ht2
  go_wp2_with fail
  refine (sorted_any HT12.out (putAll_tab HL.out).len).mono ?_
  rintro e w3 ⟨v3, rfl, ho3, hb3⟩
  have hz3 := hb3.size
  obtain ⟨a3, c3, rfl⟩ := ho3.shape
  rw [List.length_map] at ho3 ⊢
  have HO3 := Lib.hid ho3.sl
  have l31 := ho3.sl.lens.2.1
  have l32 := ho3.sl.lens.2.2
  have HT3 := Lib.hid (HT2.out.below hb3)
  have HW3 := Lib.hid (HT12.out.bel.trans (hb3.mono HT12.out.bel.size))
  clear ho3 hb3
  go_wp2_with fail
  refine (sorted_any HT3.out (putAll_tab HK.out).len).mono ?_
  rintro e w4 ⟨v4, rfl, ho4, hb4⟩
  have hz4 := hb4.size
  obtain ⟨a4, c4, rfl⟩ := ho4.shape
  rw [List.length_map] at ho4 ⊢
  have HO4 := Lib.hid ho4.sl
  have l41 := ho4.sl.lens.2.1
  have l42 := ho4.sl.lens.2.2
  have HO34 := Lib.hid (HO3.out.below hb4)
  have HW4 := Lib.hid (HW3.out.trans (hb4.mono HW3.out.size))
  clear ho4 hb4
  go_wp2_with fail
  refine (dof_any a3 c3 _ a4 c4 _ (putAll l) (putAll k) w4 rfl rfl HO34.out HO4.out (putAll_tab HL.out) (putAll_tab HK.out)).mono ?_
  rintro e w5 ⟨v5, rfl, ho5, hb5⟩
  obtain ⟨a5, c5, rfl⟩ := ho5.shape
  rw [List.length_map] at ho5 ⊢
  have HO5 := Lib.hid ho5
  have HB5 := Lib.hid hb5
  clear ho5 hb5
  go_wp2_with fail
  go_returns
  exact ⟨_, rfl, HO5.out.base HW4.out.size, HW4.out.trans (HB5.out.mono HW4.out.size)⟩


set_option maxRecDepth 100000 in
set_option maxHeartbeats 2000000 in
theorem dapply_any (a : Option Addr) (ca n : Nat) (b : Option Addr) (cb m : Nat) (l : List (Nat × Nat × Nat)) (q : List ActD) (w : World) (hn : n = l.length) (hm : m = q.length) (ha : Sl w 5 (.slice a n ca) (l.map routeCells)) (hb : Sl w 9 (.slice b m cb) (q.map actCells)) (hl : RtOk l)
    (hq : q.length ≤ 120) (hf : ∀ x ∈ q, x.fit ∧ (x.kind = 1 ∨ x.kind = 2)) (hok : AllOk (putAll l) q) :
    Calls Try.prog 25 #[.slice a n ca, .slice b m cb] w fun e w' => ∃ v, e = .returned (.tuple #[v, .int .i64 0]) ∧ Wk.Own w' w.heap.size 53 5 v ((tend (putAll l) q).map routeCells) ∧ Below w.heap.size w w' := by
  have HN := Lib.hid hn
  have HM := Lib.hid hm
  have HA := Lib.hid ha
  have HB := Lib.hid hb
  have HL := Lib.hid hl
  have HF := Lib.hid hf
  have HK := Lib.hid hok
  have hm120 : m ≤ 120 := by omega
  have d1 : decide ((120 : Int) < m) = false := by simp; omega
  have hlw1 := hb.lens.2.1
  have hlw2 := hb.lens.2.2
  clear hn hm ha hb hl hf hok
  go_enter Try.func25, Try.ntmps25
  go_wp2_with fail
  refine (new_any a ca n l w HN.out HA.out HL.out).mono ?_
  rintro e w1 ⟨tb, rfl, ht1⟩
  have hz1 := ht1.bel.size
  have HT1 := Lib.hid ht1
  clear ht1
  go_wp2_with fail
  go_loopw [26] (fun i wr => ∃ (k : Nat), k ≤ m ∧ i = .int .i64 k ∧ Hid (OwnTab w wr tb (tend (putAll l) (q.take k)))) (fun i _ => m - (intOf i).toNat)
  case atStart => exact ⟨0, Nat.zero_le _, rfl, HT1⟩
  case round =>
    obtain ⟨k, hk, rfl, HP⟩ := hrel
    have hzr := HP.out.bel.size
    by_cases hlt : k < m
    · obtain ⟨x, hx⟩ : ∃ x, q[k]? = some x := ⟨_, List.getElem?_eq_getElem (by rw [← HM.out]; exact hlt)⟩
      obtain ⟨g, off, rfl, hg, c0, c1, c2, c3, c4, c5, c6, c7, c8⟩ := Sl.act HB.out HP.out.bel hx
      have HX := Lib.hid (HF.out x (List.mem_of_getElem? hx))
      have HC := Lib.hid (HK.out.at hx)
      have HT := Lib.hid (show tend (putAll l) (q.take (k + 1)) = (tstep (tend (putAll l) (q.take k)) x).1 by rw [take_one hx, tend_app]; rfl)
      have H60 := Lib.hid (tend_ok (putAll_tab HL.out) (l := q.take k) (fun y hy => (HF.out y (List.mem_of_mem_take hy)).1)).len
      generalize tend (putAll l) (q.take k) = L0 at *
      have hYB : Below wr.heap.size wr (wr.alloc (.cells (actCells x).toArray 35)) := (Below.refl _ _).alloc (Nat.le_refl _) _
      have HPY := Lib.hid (HP.out.below hYB)
      have hkd : ((x.kind : Int) != 1) = false ∨ (((x.kind : Int) != 1) = true ∧ ((x.kind : Int) != 2) = false) := by
        rcases HX.out.2 with h | h
        · left; rw [h]; rfl
        · right; rw [h]; exact ⟨rfl, rfl⟩
      clear hx hYB
      rcases hkd with hk1 | ⟨hk1, hk2⟩
      all_goals
        go_wp2_with fail
        refine (OwnTab.act (x := x) HPY.out H60.out HX.out.1).mono ?_
        rintro e w2 ⟨rfl, hp2, hz2⟩
        rw [HC.out]
        have HP2 := Lib.hid hp2
        rw [← HT.out] at HP2
        have hz2' : wr.heap.size + 1 ≤ w2.heap.size := by simpa using hz2
        generalize (tstep L0 x).2.hop = h1
        generalize (tstep L0 x).2.len = h2
        clear hp2 hz2
        go_wp2_with fail
        go_roundw
        case rel => exact ⟨k + 1, by omega, by go_num, Lib.hid (HP2.out.below ((Below.refl _ _).alloc (Nat.le_refl _) _))⟩
        case measure => simp [intOf]; omega
    · obtain rfl : k = m := by omega
      rw [HM.out, List.take_of_length_le (Nat.le_refl _)] at HP
      have H60 := Lib.hid (tend_ok (putAll_tab HL.out) (l := q) (fun y hy => (HF.out y hy).1)).len
      go_wp2_with fail
      refine (sorted_any HP.out H60.out).mono ?_
      rintro e w5 ⟨v5, rfl, ho5, hb5⟩
      obtain ⟨a5, c5, rfl⟩ := ho5.shape
      rw [List.length_map] at ho5 ⊢
      have HO5 := Lib.hid ho5
      have HB5 := Lib.hid hb5
      clear ho5 hb5
      go_wp2_with fail
      go_returns
      exact ⟨_, rfl, HO5.out.base hzr, HP.out.bel.trans (HB5.out.mono hzr)⟩
end Go.Proofs.Yteadfobfenopkaa
