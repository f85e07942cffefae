
/- ViaAll: the walk. -/
import Derived.Test.YtllemhknmleklaaSrtV
import Derived.Test.YtllemhknmleklaaVias
set_option linter.unusedVariables false
set_option linter.unusedSimpArgs false
namespace Go.Proofs.Ytllemhknmleklaa
open Go.RowKit Go.Sort Wc Wk

theorem cntV_all (l : List ViaD) : cntV l l.length = (l.filterMap (resV l)).length := by
  unfold cntV
  rw [List.take_length]
theorem vias_asc {vs : List ViaD} (h : ViasOk vs) : vs.Pairwise (fun a b => a.hop < b.hop) := by
  rw [List.pairwise_iff_getElem]
  intro i j hi hj hij
  have a := (h i _ (List.getElem?_eq_getElem hi)).1
  have b := (h j _ (List.getElem?_eq_getElem hj)).1
  omega


set_option maxRecDepth 100000 in
set_option maxHeartbeats 4000000 in
theorem viaAll_walk (a : Option Addr) (len cap : Nat) (zs : List Int) (n : Int) (w : World) (h : IsRow .i64 w a len cap zs) (hn : -9223372036854775808 ≤ n ∧ n ≤ 9223372036854775807) :
    Calls Try.prog 5 #[.slice a len cap, .int .i64 n] w fun e w' => e = .returned (.bool true) ∧ Below w.heap.size w w' := by
  go_enter Try.func5, Try.ntmps5
  go_wp2_with fail
  refine (vias_any a len cap zs n _ h hn).mono ?_
  rintro e w1 ⟨v, vs, rfl, HO, hvs, hlen, _, hb1⟩; (repeat (with_reducible (replace hb1 := Below.undrew hb1))); obtain ⟨hc1, hf1⟩ := bcell hb1; have hz1 := hb1.size; (repeat (first | rw [World.size_alloc] at hz1 | rw [World.size_drew] at hz1 | rw [World.size_setCell] at hz1)); (try have : w.heap.size < w1.heap.size := by omega); (try have : w.heap.size < w1.heap.size + 1 := by omega); (try have : w.heap.size < w1.heap.size + 1 + 1 := by omega); (try have : w.heap.size < w1.heap.size + 1 + 1 + 1 := by omega)
  obtain ⟨a1, cap1, rfl, hcap1, hcap2⟩ := HO.sl.shape
  rw [List.length_map] at HO hcap1 ⊢
  have HO := Lib.hid HO
  have HV := Lib.hid hvs
  clear hvs h
  go_wp2_with (at_builtin; refine stop_at ?_; intro G hG)
  rw [← hG.out]; clear hG G
  refine wpList_append_any rfl _ _ 69 76 3 24 _ rfl eiVia w1.heap.size _ ((([] : List ViaD)).map viaCells) rfl (Own.nil _ _ _ _) _ ((vs).map viaCells) rfl (HO.out.sl.below (by (repeat' (first | (with_reducible exact Below.refl _ _) | (with_reducible assumption) | (with_reducible refine Below.alloc ?_ ?_ _) | (with_reducible refine Below.drew ?_) | (with_reducible refine Below.stepG ?_ (by assumption) ?_) | (with_reducible refine Below.setCell ?_ ?_ _) | omega | (dsimp only; omega) | (simp; done) | (simp; omega))))) (by intro c hc; obtain ⟨r, _, rfl⟩ := List.mem_map.1 hc; exact viaCells_one r) (by skip; first | omega | (simp; omega)) (by decide) (by first | omega | (simp; done) | (simp; omega)) ?_
  intro v2 w2 hown2 hb2
  rw [← List.map_append] at hown2
  obtain ⟨xs2, hxs2⟩ : ∃ x : List ViaD, x = (([] : List ViaD)) ++ (vs) := ⟨_, rfl⟩
  rw [← hxs2] at hown2
  have hl2 : xs2.length = (([] : List ViaD)).length + (vs).length := by rw [hxs2, List.length_append]
  have HX2 := Lib.hid hxs2
  clear hxs2
  have HL2 := Lib.hid hl2
  clear hl2
  obtain ⟨a2, cap2, rfl⟩ := hown2.shape
  rw [List.length_map] at hown2 ⊢
  have HO2 := Lib.hid hown2
  clear hown2
  obtain ⟨hc2, hf2⟩ := bcellB hb2; have hz2 := hb2.size; (repeat (first | rw [World.size_alloc] at hz2 | rw [World.size_drew] at hz2 | rw [World.size_setCell] at hz2)); (try have : w.heap.size < w2.heap.size := by omega); (try have : w.heap.size < w2.heap.size + 1 := by omega); (try have : w.heap.size < w2.heap.size + 1 + 1 := by omega); (try have : w.heap.size < w2.heap.size + 1 + 1 + 1 := by omega); (try have : w1.heap.size < w2.heap.size := by omega); (try have : w1.heap.size < w2.heap.size + 1 := by omega); (try have : w1.heap.size < w2.heap.size + 1 + 1 := by omega); (try have : w1.heap.size < w2.heap.size + 1 + 1 + 1 := by omega)
  obtain rfl : xs2 = vs := by rw [HX2.out]; rfl
  have A := Lib.hid (fun w (hb : Below w2.heap.size w2 w) => all_any sortVia a2 cap2 xs2 w (HO2.out.sl.below hb) (by omega) (HV.out.ok (by omega)) HV.out.apart)
  go_wp2_with ((with_reducible refine (A.out _ (Below.refl _ _)).mono ?_); rintro e w3 ⟨v3, ys, rfl, HO3, HR3, hl3, hb3⟩; (repeat (with_reducible (replace hb3 := Below.undrew hb3))); obtain ⟨hc3, hf3⟩ := bcell hb3; have hz3 := hb3.size; (repeat (first | rw [World.size_alloc] at hz3 | rw [World.size_drew] at hz3 | rw [World.size_setCell] at hz3)); (try have : w.heap.size < w3.heap.size := by omega); (try have : w.heap.size < w3.heap.size + 1 := by omega); (try have : w.heap.size < w3.heap.size + 1 + 1 := by omega); (try have : w.heap.size < w3.heap.size + 1 + 1 + 1 := by omega); (try have : w1.heap.size < w3.heap.size := by omega); (try have : w1.heap.size < w3.heap.size + 1 := by omega); (try have : w1.heap.size < w3.heap.size + 1 + 1 := by omega); (try have : w1.heap.size < w3.heap.size + 1 + 1 + 1 := by omega); (try have : w2.heap.size < w3.heap.size := by omega); (try have : w2.heap.size < w3.heap.size + 1 := by omega); (try have : w2.heap.size < w3.heap.size + 1 + 1 := by omega); (try have : w2.heap.size < w3.heap.size + 1 + 1 + 1 := by omega))
  have hEQ := Lib.hid (allR_eq HR3 (vias_asc HV.out))
  have HYO := Lib.hid HO3
  have hB1 : Below w1.heap.size w1 w3 := by (repeat' (first | (with_reducible exact Below.refl _ _) | (with_reducible assumption) | (with_reducible refine Below.alloc ?_ ?_ _) | (with_reducible refine Below.drew ?_) | (with_reducible refine Below.stepG ?_ (by assumption) ?_) | (with_reducible refine Below.setCell ?_ ?_ _) | omega | (dsimp only; omega) | (simp; done) | (simp; omega)))
  have hB0 : Below w.heap.size w w3 := by (repeat' (first | (with_reducible exact Below.refl _ _) | (with_reducible assumption) | (with_reducible refine Below.alloc ?_ ?_ _) | (with_reducible refine Below.drew ?_) | (with_reducible refine Below.stepG ?_ (by assumption) ?_) | (with_reducible refine Below.setCell ?_ ?_ _) | omega | (dsimp only; omega) | (simp; done) | (simp; omega)))
  have hCA := Lib.hid (cntV_all xs2)
  have hYL : ys.length = (xs2.filterMap (resV xs2)).length := by rw [← hEQ.out]
  have HYL := Lib.hid hYL
  obtain ⟨a3, cap3, hv3, hcap3, hcap32⟩ := HYO.out.sl.shape
  rw [List.length_map] at hv3 hcap3
  subst hv3
  have P := Lib.hid (fun hop w (hb : Below w1.heap.size w1 w) (hh : hop ≤ 1000) => portOf_any a1 cap1 hop xs2 w (HO.out.sl.below hb) (by omega) (HV.out.ok (by omega)) HV.out.apart hh)
  clear HO3 HR3 hYL A HX2 HL2
  go_wp2_with fail
  go_loopw [8, 9] (fun k i wr => ∃ j : Nat, j ≤ xs2.length ∧ i = .int .i64 j ∧ (∃ q : Nat, k = .int .i64 q ∧ Hid (q = cntV xs2 j)) ∧ Below w3.heap.size w3 wr) (fun _ i _ => xs2.length - (intOf i).toNat)
  case atStart => exact ⟨0, Nat.zero_le _, rfl, ⟨0, rfl, by show _ = _; simp [cntV]⟩, Below.refl _ _⟩
  case round =>
    obtain ⟨j, hj, rfl, ⟨q, rfl, HQ⟩, hbr⟩ := hrel
    have hB1r : Below w1.heap.size w1 wr := by (repeat' (first | (with_reducible exact Below.refl _ _) | (with_reducible assumption) | (with_reducible refine Below.alloc ?_ ?_ _) | (with_reducible refine Below.drew ?_) | (with_reducible refine Below.stepG ?_ (by assumption) ?_) | (with_reducible refine Below.setCell ?_ ?_ _) | omega | (dsimp only; omega) | (simp; done) | (simp; omega)))
    by_cases hlt : j < xs2.length
    · obtain ⟨v, hv⟩ : ∃ v, xs2[j]? = some v := ⟨_, List.getElem?_eq_getElem hlt⟩
      obtain ⟨b, off, rfl, hb, d0, d1, d2⟩ := Sl.via HO.out.sl hB1r hv
      obtain ⟨k1, k2, k3, k4⟩ := HV.out j v hv
      have PT := Lib.hid (P.out v.hop wr hB1r (by omega))
      have HPC := Lib.hid (portW_code xs2 10 [] v.hop rfl)
      have HRS := Lib.hid (show res xs2 v.hop = if (portW xs2 10 [] v.hop).2.2 = 0 then some (portW xs2 10 [] v.hop).1 else none from rfl)
      unfold port3 at PT
      generalize portW xs2 10 [] v.hop = R at *
      obtain ⟨p, d, e⟩ := R
      dsimp only at PT HPC HRS
      by_cases he : e = 0
      · subst he
        obtain ⟨e1, e2⟩ := cntV_yes hv (show res xs2 v.hop = some p by rw [HRS.out]; rfl)
        rw [← hEQ.out, ← HQ.out] at e2
        obtain ⟨b3, off3, rfl, hb3, c0, c1, c2⟩ := Sl.via HYO.out.sl hbr e2
        have hql : q < ys.length := (List.getElem?_eq_some_iff.1 e2).1
        have HQ2 : Hid (q + 1 = cntV xs2 (j + 1)) := by show _ = _; rw [e1, ← HQ.out]
        have hge : decide ((ys.length : Int) ≤ q) = false := by (first | omega | (simp; done) | (simp; omega))
        clear e1 e2 hv HPC HRS HQ k4 k1 k2 k3
        go_wp2_with ((with_reducible refine PT.out.mono ?_); rintro e w6 ⟨rfl, hb6⟩; (repeat (with_reducible (replace hb6 := Below.undrew hb6))); obtain ⟨hc6, hf6⟩ := bcell hb6; have hz6 := hb6.size; (repeat (first | rw [World.size_alloc] at hz6 | rw [World.size_drew] at hz6 | rw [World.size_setCell] at hz6)); (try have : w.heap.size < w6.heap.size := by omega); (try have : w.heap.size < w6.heap.size + 1 := by omega); (try have : w.heap.size < w6.heap.size + 1 + 1 := by omega); (try have : w.heap.size < w6.heap.size + 1 + 1 + 1 := by omega); (try have : w1.heap.size < w6.heap.size := by omega); (try have : w1.heap.size < w6.heap.size + 1 := by omega); (try have : w1.heap.size < w6.heap.size + 1 + 1 := by omega); (try have : w1.heap.size < w6.heap.size + 1 + 1 + 1 := by omega); (try have : w2.heap.size < w6.heap.size := by omega); (try have : w2.heap.size < w6.heap.size + 1 := by omega); (try have : w2.heap.size < w6.heap.size + 1 + 1 := by omega); (try have : w2.heap.size < w6.heap.size + 1 + 1 + 1 := by omega); (try have : w3.heap.size < w6.heap.size := by omega); (try have : w3.heap.size < w6.heap.size + 1 := by omega); (try have : w3.heap.size < w6.heap.size + 1 + 1 := by omega); (try have : w3.heap.size < w6.heap.size + 1 + 1 + 1 := by omega); (try have : w4.heap.size < w6.heap.size := by omega); (try have : w4.heap.size < w6.heap.size + 1 := by omega); (try have : w4.heap.size < w6.heap.size + 1 + 1 := by omega); (try have : w4.heap.size < w6.heap.size + 1 + 1 + 1 := by omega))
        have hbw : b < wr.heap.size := by have := hB1r.size; omega
        have hb3w : b3 < wr.heap.size := by have := hbr.size; omega
        have d06 := (hc6 b _ hbw).trans d0
        have c06 := (hc6 b3 _ hb3w).trans c0
        have c16 := (hc6 b3 _ hb3w).trans c1
        have c26 := (hc6 b3 _ hb3w).trans c2
        clear d1 d2
        go_wp2_with fail
        go_quiet (fail)
        go_wp2
        go_roundw
        case rel => exact ⟨j + 1, by omega, by go_num, ⟨q + 1, by go_num, HQ2⟩, below_drewN (hbr.trans (hb6.mono hbr.size)) _⟩
        case measure => simp [intOf]; omega
      · have e1 := cntV_no hv (show res xs2 v.hop = none by rw [HRS.out]; exact if_neg he)
        have HQ2 : Hid (q = cntV xs2 (j + 1)) := by show _ = _; rw [e1, ← HQ.out]
        have hne : ((e : Int) == 0) = false := by rw [beq_eq_false_iff_ne]; omega
        have hne3 : ((e : Int) == 3) = false := by rw [beq_eq_false_iff_ne]; have := HPC.out; omega
        clear e1 hv HPC HRS HQ k4 k1 k2 k3 he
        go_wp2_with ((with_reducible refine PT.out.mono ?_); rintro e w6 ⟨rfl, hb6⟩; (repeat (with_reducible (replace hb6 := Below.undrew hb6))); obtain ⟨hc6, hf6⟩ := bcell hb6; have hz6 := hb6.size; (repeat (first | rw [World.size_alloc] at hz6 | rw [World.size_drew] at hz6 | rw [World.size_setCell] at hz6)); (try have : w.heap.size < w6.heap.size := by omega); (try have : w.heap.size < w6.heap.size + 1 := by omega); (try have : w.heap.size < w6.heap.size + 1 + 1 := by omega); (try have : w.heap.size < w6.heap.size + 1 + 1 + 1 := by omega); (try have : w1.heap.size < w6.heap.size := by omega); (try have : w1.heap.size < w6.heap.size + 1 := by omega); (try have : w1.heap.size < w6.heap.size + 1 + 1 := by omega); (try have : w1.heap.size < w6.heap.size + 1 + 1 + 1 := by omega); (try have : w2.heap.size < w6.heap.size := by omega); (try have : w2.heap.size < w6.heap.size + 1 := by omega); (try have : w2.heap.size < w6.heap.size + 1 + 1 := by omega); (try have : w2.heap.size < w6.heap.size + 1 + 1 + 1 := by omega); (try have : w3.heap.size < w6.heap.size := by omega); (try have : w3.heap.size < w6.heap.size + 1 := by omega); (try have : w3.heap.size < w6.heap.size + 1 + 1 := by omega); (try have : w3.heap.size < w6.heap.size + 1 + 1 + 1 := by omega); (try have : w4.heap.size < w6.heap.size := by omega); (try have : w4.heap.size < w6.heap.size + 1 := by omega); (try have : w4.heap.size < w6.heap.size + 1 + 1 := by omega); (try have : w4.heap.size < w6.heap.size + 1 + 1 + 1 := by omega))
        go_roundw
        case rel => exact ⟨j + 1, by omega, by go_num, ⟨q, rfl, HQ2⟩, hbr.trans (hb6.mono hbr.size)⟩
        case measure => simp [intOf]; omega
    · obtain rfl : j = xs2.length := by omega
      have hq : q = ys.length := by rw [HQ.out, hCA.out, ← HYL.out]
      subst hq
      clear HQ
      go_wp2
      go_returns
      exact ⟨rfl, by (repeat' (first | (with_reducible exact Below.refl _ _) | (with_reducible assumption) | (with_reducible refine Below.alloc ?_ ?_ _) | (with_reducible refine Below.drew ?_) | (with_reducible refine Below.stepG ?_ (by assumption) ?_) | (with_reducible refine Below.setCell ?_ ?_ _) | omega | (dsimp only; omega) | (simp; done) | (simp; omega)))⟩
end Go.Proofs.Ytllemhknmleklaa
