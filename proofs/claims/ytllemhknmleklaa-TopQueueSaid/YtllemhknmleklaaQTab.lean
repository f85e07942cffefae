
/- Contracts: a Do on a table of the call's own; its routes collected; queue.Table. -/
import Derived.Test.YtllemhknmleklaaOTab
import Derived.Test.YtllemhknmleklaaQLastP
import Derived.Test.YtllemhknmleklaaQPart
set_option linter.unusedVariables false
set_option linter.unusedSimpArgs false
namespace Go.Proofs.Ytllemhknmleklaa
open Go Go.RowKit Go.Sort Wc Wk

theorem qrun_acts : ∀ {q : List ActD} {l : List JobD}, (∀ x ∈ q, x.ok) → (∀ j ∈ l, JobD.ok j) → ∀ d ∈ qrun q l, ∀ x ∈ d.acts, x.ok
  | q, [], _, _, d, hd, _, _ => by simp [qrun] at hd
  | q, j :: l, hq, hl, d, hd, x, hx => by
    have hd : d ∈ (qstep q j).2 :: qrun (qstep q j).1 l := hd
    rcases List.mem_cons.1 hd with rfl | hd
    · rcases qstep_cases q j with ⟨_, i, y, hy, hs, hno, e⟩ | ⟨_, hno, h⟩ | ⟨_, h0, e⟩ | ⟨_, h0, e⟩
      · rw [e] at hx; cases hx
      · rcases h with ⟨_, e⟩ | ⟨_, e⟩ <;> rw [e] at hx <;> cases hx
      · rw [e] at hx; cases hx
      · rw [e] at hx; exact hq x (List.mem_of_mem_take hx)
    · exact qrun_acts (qstep_ok hq (hl j (by simp))) (fun i hi => hl i (by simp [hi])) d hd x hx
def actsIn (ds : List DoneD) : List ActD := ds.flatMap (·.acts)
theorem actsIn_snoc {ds : List DoneD} {m : Nat} {d : DoneD} (h : ds[m]? = some d) : actsIn (ds.take (m + 1)) = actsIn (ds.take m) ++ d.acts := by
  unfold actsIn
  rw [List.take_add_one, h, List.flatMap_append]; simp
theorem actsIn_fit {ds : List DoneD} (h : ∀ d ∈ ds, ∀ x ∈ d.acts, x.ok) (m : Nat) : ∀ x ∈ actsIn (ds.take m), x.fit := by
  intro x hx
  unfold actsIn at hx
  obtain ⟨d, hd, hx⟩ := List.mem_flatMap.1 hx
  exact ok_fit (h d (List.mem_of_mem_take hd) x hx)


set_option maxRecDepth 100000 in
set_option maxHeartbeats 2000000 in
theorem qtable_any (a : Option Addr) (cap n : Nat) (js : List JobD) (w : World) (hn : n = js.length) (hs : Sl w 11 (.slice a n cap) (js.map jobCells)) (hl : js.length ≤ 100) (hok : ∀ j ∈ js, JobD.ok j) :
    Calls Try.prog 17 #[.slice a n cap] w fun e w' => ∃ v, e = .returned (.tuple #[v, .int .i64 0]) ∧ Wk.Own w' w.heap.size 64 5 v ((tend [] (pulls [] js)).map routeCells) ∧ Below w.heap.size w w' := by
  subst hn
  have HS := Lib.hid hs
  have HOK := Lib.hid hok
  have hlw1 := hs.lens.2.1
  have hlw2 := hs.lens.2.2
  clear hs hok
  go_enter Try.func17, Try.ntmps17
  go_wp2_with fail
  refine (qplay_any a cap js w HS.out hl HOK.out).mono ?_
  rintro e w1 ⟨v, vs, rfl, HD, hb1⟩
  have hz1 := hb1.size
  have HW1 := Lib.hid hb1
  obtain ⟨va, vc, rfl⟩ := HD.shape
  have hlen : (qrun [] js).length = js.length := qrun_len _ _
  have HAC := Lib.hid (qrun_acts (q := []) (l := js) (by simp) HOK.out)
  have HPU := Lib.hid (show pulls [] js = actsIn (qrun [] js) from rfl)
  rw [hlen] at HD ⊢
  have HD1 := Lib.hid HD
  clear HD hb1 HS HOK
  generalize qrun [] js = ds at *
  have HLE := Lib.hid hlen
  clear hlen
  go_wp2_with fail
  have HP0 := Lib.hid (otab_new w1)
  have hWs : (w1.alloc (.cells #[.pointer none, .pointer none, .int .i64 0] 121)).heap.size = w1.heap.size + 1 := by simp
  generalize w1.alloc (.cells #[.pointer none, .pointer none, .int .i64 0] 121) = W at *
  obtain ⟨tb, htb⟩ : ∃ tb, tb = w1.heap.size := ⟨_, rfl⟩
  rw [← htb] at HP0 ⊢
  clear htb hWs
  go_loopw [23] (fun i wr => ∃ (m : Nat), m ≤ js.length ∧ i = .int .i64 m ∧ Hid (OwnTab w1 wr tb (tend [] (actsIn (ds.take m))))) (fun i _ => js.length - (intOf i).toNat)
  case atStart => exact ⟨0, Nat.zero_le _, rfl, HP0⟩
  case round =>
    obtain ⟨m, hm, rfl, HP⟩ := hrel
    have hzr := HP.out.bel.size
    by_cases hlt : m < js.length
    · obtain ⟨d, hd⟩ : ∃ d, ds[m]? = some d := ⟨_, List.getElem?_eq_getElem (by rw [HLE.out]; exact hlt)⟩
      obtain ⟨g, p, c, rfl, hg, x0, x1, x2, _⟩ := HD1.out.opened HP.out.bel hd
      obtain ⟨g', cap', p', c', hv', _, _, _, _, y2, oy⟩ := HD1.out.at hd
      simp only [Value.slice.injEq, Option.some.injEq, Addr.mk.injEq] at hv'
      obtain ⟨⟨rfl, -, -⟩, -, rfl⟩ := hv'
      have hpp : Value.slice p' d.acts.length c' = .slice p d.acts.length c := by
        have := (HP.out.bel.cell (p := ⟨g, m * 3 + 2, none⟩) hg).trans y2
        rw [x2] at this
        exact (Option.some.inj this).symm
      rw [hpp] at oy
      have OX := Lib.hid oy.sl
      have HSN := Lib.hid (actsIn_snoc hd)
      have HFD := Lib.hid (fun x hx => ok_fit (HAC.out d (List.mem_of_getElem? hd) x hx))
      have HF0 := Lib.hid (actsIn_fit HAC.out m)
      generalize actsIn (ds.take m) = A0 at *
      generalize hac : d.acts = acl at *
      obtain ⟨K, hK⟩ : ∃ K, K = acl.length := ⟨_, rfl⟩
      rw [← hK] at x2 OX
      have hKm : K ≤ 9223372036854775807 := by have := OX.out.lens; omega
      have HK := Lib.hid hK
      have hgr : g < wr.heap.size := by omega
      clear hd oy hac y2 hpp hK
      go_wp2_with fail
      have hYB : Below wr.heap.size wr (wr.alloc (.cells #[.int .i64 d.code, .bool d.merged, .slice p K c] 45)) := (Below.refl _ _).alloc (Nat.le_refl _) _
      have HPX := Lib.hid (HP.out.below hYB)
      have hYs : (wr.alloc (.cells #[.int .i64 d.code, .bool d.merged, .slice p K c] 45)).heap.size = wr.heap.size + 1 := by simp
      generalize wr.alloc (.cells #[.int .i64 d.code, .bool d.merged, .slice p K c] 45) = Y at *
      go_loopw [30] (fun k wz => ∃ t : Nat, t ≤ K ∧ k = .int .i64 t ∧ Hid (OwnTab w1 wz tb (tend [] (A0 ++ acl.take t)))) (fun k _ => K - (intOf k).toNat)
      case atStart => exact ⟨0, Nat.zero_le _, rfl, by rw [List.take_zero, List.append_nil]; exact HPX⟩
      case round =>
        obtain ⟨t, ht, rfl, HZ⟩ := hrel
        by_cases hlt3 : t < K
        · obtain ⟨r, hr⟩ : ∃ r, acl[t]? = some r := ⟨_, List.getElem?_eq_getElem (by rw [← HK.out]; exact hlt3)⟩
          obtain ⟨b, off, rfl, hb, d0, d1, d2, d3, d4, d5, d6, d7, d8⟩ := Sl.act OX.out HZ.out.bel hr
          have HX := Lib.hid (HFD.out r (List.mem_of_getElem? hr))
          have HT := Lib.hid (show A0 ++ acl.take (t + 1) = (A0 ++ acl.take t) ++ [r] by rw [List.take_add_one, hr]; simp)
          have HL := Lib.hid (tend_ok (L := []) TabOk.nil (l := A0 ++ acl.take t) (fun y hy => by
            rcases List.mem_append.1 hy with hy | hy
            · exact HF0.out y hy
            · exact HFD.out y (List.mem_of_mem_take hy))).len
          have HTE := Lib.hid (tend_app [] (A0 ++ acl.take t) [r])
          have hbz := HZ.out.bel.size
          have hbz' : b < wr.heap.size := by omega
          generalize tend [] (A0 ++ acl.take t) = L0 at *
          clear hr
          go_wp2_with fail
          have hZB : Below wr.heap.size wr (wr.alloc (.cells (actCells r).toArray 31)) := (Below.refl _ _).alloc (Nat.le_refl _) _
          refine (OwnTab.act (x := r) (HZ.out.below hZB) HL.out HX.out).mono ?_
          rintro e w2 ⟨rfl, hp2, hz2⟩
          have HP2 := Lib.hid (show OwnTab w1 w2 tb (tend [] (A0 ++ acl.take (t + 1))) by rw [HT.out, HTE.out]; exact hp2)
          clear hp2 hz2 hZB
          go_wp2_with fail
          go_roundw
          case rel => exact ⟨t + 1, by omega, by go_num, HP2⟩
          case measure => simp [intOf]; omega
        · obtain rfl : t = K := by omega
          have hfin : OwnTab w1 wr tb (tend [] (actsIn (ds.take (m + 1)))) := by
            rw [HSN.out]
            have := HZ.out
            rw [HK.out, List.take_of_length_le (Nat.le_refl _)] at this
            exact this
          have HFN := Lib.hid hfin
          clear hfin
          go_wp2_with fail
          go_roundw
          case rel => exact ⟨m + 1, by omega, by go_num, HFN⟩
          case measure => simp [intOf]; omega
    · obtain rfl : m = js.length := by omega
      have hL : OwnTab w1 wr tb (tend [] (pulls [] js)) := by
        rw [HPU.out]
        have := HP.out
        rw [List.take_of_length_le (by rw [HLE.out]; exact Nat.le_refl _)] at this
        exact this
      have H60 := Lib.hid (tend_ok (L := []) TabOk.nil (l := pulls [] js) (by
        rw [HPU.out]
        have := actsIn_fit HAC.out js.length
        rw [List.take_of_length_le (by rw [HLE.out]; exact Nat.le_refl _)] at this
        exact this)).len
      have HL := Lib.hid hL
      clear hL
      go_wp2_with fail
      refine (HL.out.collect H60.out).mono ?_
      rintro e w5 ⟨v5, rfl, ho, hb⟩
      obtain ⟨a5, c5, rfl⟩ := ho.shape
      rw [List.length_map] at ho ⊢
      have HO := Lib.hid ho
      have HB := Lib.hid hb
      clear ho hb
      go_wp2_with fail
      go_returns
      exact ⟨_, rfl, HO.out.base (Nat.le_trans hz1 hzr), (HW1.out.trans (HL.out.bel.mono hz1)).trans (HB.out.mono (by omega))⟩
end Go.Proofs.Ytllemhknmleklaa
