
/- OffersAway: the walk. -/
import Derived.Test.YtllemhknmleklaaOf9
set_option linter.unusedVariables false
set_option linter.unusedSimpArgs false
namespace Go.Proofs.Ytllemhknmleklaa
open Go.RowKit Go.Sort Wc Wk

/-- The two lists that grow. -/
structure Aw (w : World) (B : Nat) (va vo : Value) (os : List OfD) (s p j : Nat) : Prop where
  oa : Own w B 84 8 va ((os ++ ((os.take j).filter (spB s p)).map OfD.away).map ofCells)
  oo : Own w B 84 8 vo (((os.take j).filter (fun x => !spB s p x)).map ofCells)
  ap : Apart va vo
theorem take_sp {os : List OfD} {j : Nat} {o : OfD} (h : os[j]? = some o) (s p : Nat) :
    (os.take (j + 1)).filter (spB s p) = (os.take j).filter (spB s p) ++ (if spB s p o then [o] else []) ∧ (os.take (j + 1)).filter (fun x => !spB s p x) = (os.take j).filter (fun x => !spB s p x) ++ (if spB s p o then [] else [o]) := by
  rw [List.take_add_one, h, List.filter_append, List.filter_append]
  cases hs : spB s p o <;> simp [hs]
theorem sp_len (os : List OfD) (s p j : Nat) : ((os.take j).filter (spB s p)).length ≤ os.length ∧ ((os.take j).filter (fun x => !spB s p x)).length ≤ os.length := by
  have h1 := List.length_filter_le (spB s p) (os.take j)
  have h2 := List.length_filter_le (fun x => !spB s p x) (os.take j)
  rw [List.length_take] at h1 h2
  omega
theorem sl_away (o : OfD) {W : World} {b : Nat} (hb : b = W.heap.size) : Sl (W.alloc (.cells #[.bool false, .int .u64 (hiOf false o.n), .int .u64 (loOf o.n), .int .i64 o.k, .int .i64 o.src, .int .i64 o.peer, .int .i64 999, .int .i64 o.hop] 84)) 8 (.slice (some ⟨b, 0, none⟩) 1 1) [ofCells o.away] := sl_new (c := ofCells o.away) hb rfl

theorem away_ok {o : OfD} (h : o.ok) : o.away.ok := by
  obtain ⟨a1, a2, a3, a4, a5, a6, a7⟩ := h
  exact ⟨a1, a2, a3, a4, Nat.le_refl _, a6, a7⟩

set_option maxRecDepth 100000 in
set_option maxHeartbeats 4000000 in
theorem offersAway_walk (a0 : Option Addr) (len0 cap0 : Nat) (z0 : List BidD) (so po : Int) (w : World) (h0 : IsBids w a0 len0 cap0 z0) (hs : -9223372036854775808 ≤ so ∧ so ≤ 9223372036854775807) (hp : -9223372036854775808 ≤ po ∧ po ≤ 9223372036854775807) :
    Calls Try.prog 7 #[.slice a0 len0 cap0, .int .i64 so, .int .i64 po] w fun e w' => e = .returned (.bool true) ∧ Below w.heap.size w w' := by
  have P1 := Lib.hid (fun w => picked_any so 4 w (by decide) (by decide))
  have P2 := Lib.hid (fun w => picked_any po 4 w (by decide) (by decide))
  have q1 := Int.emod_nonneg so (show (4 : Int) ≠ 0 by decide)
  have q2 := Int.emod_nonneg po (show (4 : Int) ≠ 0 by decide)
  have l1 := Int.emod_lt_of_pos so (show (0 : Int) < 4 by decide)
  obtain ⟨ps, e1⟩ := Int.eq_ofNat_of_zero_le q1
  obtain ⟨pp, e2⟩ := Int.eq_ofNat_of_zero_le q2
  rw [e1] at P1 l1
  rw [e2] at P2
  clear e1 e2 q1 q2 hs hp
  go_enter Try.func7, Try.ntmps7
  go_wp2_with fail
  refine (offers_any a0 len0 cap0 z0 45 w h0 (by decide)).mono ?_
  rintro e w1 ⟨v1, rfl, HO1, hb1⟩; (repeat (with_reducible (replace hb1 := Below.undrew hb1))); obtain ⟨hc1, hf1⟩ := bcell hb1; have hz1 := hb1.size; (repeat (first | rw [World.size_alloc] at hz1 | rw [World.size_drew] at hz1 | rw [World.size_setCell] at hz1)); (try have : w.heap.size < w1.heap.size := by omega); (try have : w.heap.size < w1.heap.size + 1 := by omega); (try have : w.heap.size < w1.heap.size + 1 + 1 := by omega); (try have : w.heap.size < w1.heap.size + 1 + 1 + 1 := by omega)
  have HOK := Lib.hid (bids_ok z0 45)
  have hol := bids_len z0 45
  generalize (z0.take 45).map bidO = os at *
  obtain ⟨a1, ca, rfl⟩ := HO1.shape
  rw [List.length_map] at HO1 ⊢
  have HS := Lib.hid HO1.sl
  have HB1 := Lib.hid hb1
  clear HO1 hb1 hc1 hf1 h0
  go_wp2_with (first | ((with_reducible refine (P1.out _).mono ?_); rintro e w' ⟨rfl, rfl⟩) | ((with_reducible refine (P2.out _).mono ?_); rintro e w' ⟨rfl, rfl⟩) | (at_builtin; refine stop_at ?_; intro G hG))
  rw [← hG.out]; clear hG G
  refine wpList_append_any rfl _ _ 79 84 8 64 _ rfl eiOf w1.heap.size _ ((([] : List OfD)).map ofCells) rfl (Own.nil _ _ _ _) _ ((os).map ofCells) rfl (HS.out) (by intro c hc; obtain ⟨r, _, rfl⟩ := List.mem_map.1 hc; exact ofCells_one r) (by skip; first | omega | (simp; omega)) (by decide) (by first | omega | (simp; done) | (simp; omega)) ?_
  intro v2 w2 hown2 hb2
  rw [← List.map_append] at hown2
  obtain ⟨xs2, hxs2⟩ : ∃ x : List OfD, x = (([] : List OfD)) ++ (os) := ⟨_, rfl⟩
  rw [← hxs2] at hown2
  have hl2 : xs2.length = (([] : List OfD)).length + (os).length := by rw [hxs2, List.length_append]
  have HX2 := Lib.hid hxs2
  clear hxs2
  have HL2 := Lib.hid hl2
  clear hl2
  obtain ⟨a2, cap2, rfl⟩ := hown2.shape
  rw [List.length_map] at hown2 ⊢
  have HO2 := Lib.hid hown2
  clear hown2
  obtain ⟨hc2, hf2⟩ := bcellB hb2; have hz2 := hb2.size; (repeat (first | rw [World.size_alloc] at hz2 | rw [World.size_drew] at hz2 | rw [World.size_setCell] at hz2)); (try have : w.heap.size < w2.heap.size := by omega); (try have : w.heap.size < w2.heap.size + 1 := by omega); (try have : w.heap.size < w2.heap.size + 1 + 1 := by omega); (try have : w.heap.size < w2.heap.size + 1 + 1 + 1 := by omega); (try have : w1.heap.size < w2.heap.size := by omega); (try have : w1.heap.size < w2.heap.size + 1 := by omega); (try have : w1.heap.size < w2.heap.size + 1 + 1 := by omega); (try have : w1.heap.size < w2.heap.size + 1 + 1 + 1 := by omega)
  obtain rfl : xs2 = os := by rw [HX2.out]; rfl
  have HB2 := Lib.hid hb2
  clear hb2 hc2 hf2 HX2 HL2
  go_wp2_with fail
  go_loopw [10, 11, 12] (fun va vo i wr => ∃ j : Nat, j ≤ xs2.length ∧ i = .int .i64 j ∧ Hid (Aw wr w1.heap.size va vo xs2 (1 + ps) pp j) ∧ Hid (Below w1.heap.size w1 wr)) (fun _ _ i _ => xs2.length - (intOf i).toNat)
  case atStart => exact ⟨0, Nat.zero_le _, rfl, ⟨by simpa using HO2.out, Own.nil _ _ _ _, (Apart.nil none _).symm⟩, HB2⟩
  case round =>
    obtain ⟨j, hj, rfl, HA, HR⟩ := hrel
    have hzr := HR.out.size
    by_cases hlt : j < xs2.length
    · obtain ⟨o, ho⟩ : ∃ o, xs2[j]? = some o := ⟨_, List.getElem?_eq_getElem hlt⟩
      obtain ⟨b, off, rfl, hb, d0, d1, d2, d3, d4, d5, d6, d7⟩ := Sl.of8 HS.out HR.out ho
      have HT := Lib.hid (take_sp ho (1 + ps) pp)
      have hsl := Lib.hid (sp_len xs2 (1 + ps) pp j)
      clear ho
      cases hsp : spB (1 + ps) pp o with
      | true =>
        have h1 : ((o.src : Int) == 1 + (ps : Int)) = true := by unfold spB at hsp; simp at hsp ⊢; omega
        have h2 : ((o.peer : Int) == (pp : Int)) = true := by unfold spB at hsp; simp at hsp ⊢; omega
        rw [hsp] at HT
        clear hsp
        go_wp2_with (at_builtin; refine stop_at ?_; intro G hG)
        rw [← hG.out]; clear hG G
        have e1 : (xs2 ++ ((xs2.take (j + 1)).filter (spB (1 + ps) pp)).map OfD.away).map ofCells = (xs2 ++ ((xs2.take j).filter (spB (1 + ps) pp)).map OfD.away).map ofCells ++ [ofCells o.away] := by rw [HT.out.1]; simp
        have e2 : (xs2.take (j + 1)).filter (fun x => !spB (1 + ps) pp x) = (xs2.take j).filter (fun x => !spB (1 + ps) pp x) := by rw [HT.out.2]; simp
        have HE1 := Lib.hid e1
        have HE2 := Lib.hid e2
        clear e1 e2
        refine wpList_append_at rfl _ _ 79 84 8 64 _ rfl eiOf w1.heap.size _ ((xs2 ++ ((xs2.take j).filter (spB (1 + ps) pp)).map OfD.away).map ofCells) rfl ((HA.out.oa.alloc _).alloc _) _ [ofCells o.away] rfl (sl_away o (by (first | omega | (simp; done) | (simp; omega)))) (by intro c hc; rw [List.mem_singleton] at hc; rw [hc]; exact ofCells_one _) (by have := hsl.out; simp; omega) (by decide) (by simp; omega) (by simp) ?_
        intro vA w3 hoA hgA hbA hatA
        have HA3 := Lib.hid (show Aw w3 w1.heap.size vA u11 xs2 (1 + ps) pp (j + 1) from ⟨by rw [HE1.out]; exact hoA, by rw [HE2.out]; exact HA.out.ap.symm.keeps ((HA.out.oo.alloc _).alloc _) hgA, (HA.out.ap.symm.grown ((HA.out.oo.alloc _).alloc _) hatA).symm⟩)
        have HR3 := Lib.hid (HR.out.trans ((((Below.refl w1.heap.size wr).alloc hzr _).alloc (by simp; omega) _).trans hbA))
        clear hoA hgA hbA hatA HA HE1 HE2
        go_wp2
        go_roundw
        case rel => exact ⟨j + 1, by omega, by go_num, HA3, HR3⟩
        case measure => simp [intOf]; omega
      | false =>
        have h12 : ((o.src : Int) == 1 + (ps : Int)) = false ∨ ((o.src : Int) == 1 + (ps : Int)) = true ∧ ((o.peer : Int) == (pp : Int)) = false := by
          unfold spB at hsp
          by_cases hc : o.src = 1 + ps
          · right
            refine ⟨by simp; omega, ?_⟩
            rw [hc] at hsp
            simp at hsp ⊢
            omega
          · left; rw [beq_eq_false_iff_ne]; omega
        rw [hsp] at HT
        have e1 : (xs2.take (j + 1)).filter (spB (1 + ps) pp) = (xs2.take j).filter (spB (1 + ps) pp) := by rw [HT.out.1]; simp
        have e2 : ((xs2.take (j + 1)).filter (fun x => !spB (1 + ps) pp x)).map ofCells = ((xs2.take j).filter (fun x => !spB (1 + ps) pp x)).map ofCells ++ [ofCells o] := by rw [HT.out.2]; simp
        have HE1 := Lib.hid e1
        have HE2 := Lib.hid e2
        clear hsp e1 e2
        rcases h12 with h1 | ⟨h1, h2⟩
        all_goals
          go_wp2_with (at_builtin; refine stop_at ?_; intro G hG)
          rw [← hG.out]; clear hG G
          refine wpList_append_at rfl _ _ 79 84 8 64 _ rfl eiOf w1.heap.size _ (((xs2.take j).filter (fun x => !spB (1 + ps) pp x)).map ofCells) rfl (HA.out.oo.alloc _) _ ([o].map ofCells) rfl (sl_of1 o (by (first | omega | (simp; done) | (simp; omega)))) (by intro c hc; rw [List.map_singleton, List.mem_singleton] at hc; rw [hc]; exact ofCells_one _) (by have := hsl.out; simp; omega) (by decide) (by simp; omega) (by simp) ?_
          intro vO w3 hoO hgO hbO hatO
          have HA3 := Lib.hid (show Aw w3 w1.heap.size u10 vO xs2 (1 + ps) pp (j + 1) from ⟨by rw [HE1.out]; exact HA.out.ap.keeps (HA.out.oa.alloc _) hgO, by rw [HE2.out]; exact hoO, HA.out.ap.grown (HA.out.oa.alloc _) hatO⟩)
          have HR3 := Lib.hid (HR.out.trans (((Below.refl w1.heap.size wr).alloc hzr _).trans hbO))
          clear hoO hgO hbO hatO HA HE1 HE2
          go_wp2
          go_roundw
          case rel => exact ⟨j + 1, by omega, by go_num, HA3, HR3⟩
          case measure => simp [intOf]; omega
    · obtain rfl : j = xs2.length := by omega
      have hoa := HA.out.oa
      have hoo := HA.out.oo
      have hl := sp_len xs2 (1 + ps) pp xs2.length
      rw [List.take_length] at hoa hoo hl
      have HLW := Lib.hid (away_law xs2 HOK.out (1 + ps) pp)
      have HKA : Hid (∀ o ∈ xs2 ++ (xs2.filter (spB (1 + ps) pp)).map OfD.away, o.ok) := fun o ho => by
        rcases List.mem_append.1 ho with h | h
        · exact HOK.out o h
        · obtain ⟨q, hq, rfl⟩ := List.mem_map.1 h
          exact away_ok (HOK.out q (List.mem_filter.1 hq).1)
      have HKO : Hid (∀ o ∈ xs2.filter (fun x => !spB (1 + ps) pp x), o.ok) := fun o ho => HOK.out o (List.mem_filter.1 ho).1
      have hal : (xs2 ++ (xs2.filter (spB (1 + ps) pp)).map OfD.away).length ≤ 100 := by rw [List.length_append, List.length_map]; omega
      have hot : (xs2.filter (fun x => !spB (1 + ps) pp x)).length ≤ 100 := by omega
      clear hl HA
      generalize xs2 ++ (xs2.filter (spB (1 + ps) pp)).map OfD.away = al at *
      generalize xs2.filter (fun x => !spB (1 + ps) pp x) = ot at *
      obtain ⟨aa, cx, hva⟩ := hoa.shape
      obtain ⟨ao, cy, hvo⟩ := hoo.shape
      rw [List.length_map] at hva hvo
      subst hva hvo
      have HSA := Lib.hid hoa.sl
      have HSO := Lib.hid hoo.sl
      clear hoa hoo
      go_wp2_with fail
      refine (bestOf_any aa cx al wr HSA.out hal HKA.out).mono ?_
      rintro e w4 ⟨v4, xs, rfl, HO4, HR4, hl4, hb4⟩; (repeat (with_reducible (replace hb4 := Below.undrew hb4))); obtain ⟨hc4, hf4⟩ := bcell hb4; have hz4 := hb4.size; (repeat (first | rw [World.size_alloc] at hz4 | rw [World.size_drew] at hz4 | rw [World.size_setCell] at hz4)); (try have : w.heap.size < w4.heap.size := by omega); (try have : w.heap.size < w4.heap.size + 1 := by omega); (try have : w.heap.size < w4.heap.size + 1 + 1 := by omega); (try have : w.heap.size < w4.heap.size + 1 + 1 + 1 := by omega); (try have : w1.heap.size < w4.heap.size := by omega); (try have : w1.heap.size < w4.heap.size + 1 := by omega); (try have : w1.heap.size < w4.heap.size + 1 + 1 := by omega); (try have : w1.heap.size < w4.heap.size + 1 + 1 + 1 := by omega); (try have : w2.heap.size < w4.heap.size := by omega); (try have : w2.heap.size < w4.heap.size + 1 := by omega); (try have : w2.heap.size < w4.heap.size + 1 + 1 := by omega); (try have : w2.heap.size < w4.heap.size + 1 + 1 + 1 := by omega); (try have : wr.heap.size < w4.heap.size := by omega); (try have : wr.heap.size < w4.heap.size + 1 := by omega); (try have : wr.heap.size < w4.heap.size + 1 + 1 := by omega); (try have : wr.heap.size < w4.heap.size + 1 + 1 + 1 := by omega); (try have : wr.heap.size + 1 < w4.heap.size := by omega); (try have : wr.heap.size + 1 < w4.heap.size + 1 := by omega); (try have : wr.heap.size + 1 < w4.heap.size + 1 + 1 := by omega); (try have : wr.heap.size + 1 < w4.heap.size + 1 + 1 + 1 := by omega)
      obtain ⟨a4, cap4, rfl⟩ := HO4.shape
      rw [List.length_map] at HO4 ⊢
      have HO4 := Lib.hid HO4
      go_wp2_with fail
      refine (bestOf_any ao cy ot w4 (HSO.out.below hb4) hot HKO.out).mono ?_
      rintro e w5 ⟨v5, ys, rfl, HO5, HR5, hl5, hb5⟩; (repeat (with_reducible (replace hb5 := Below.undrew hb5))); obtain ⟨hc5, hf5⟩ := bcell hb5; have hz5 := hb5.size; (repeat (first | rw [World.size_alloc] at hz5 | rw [World.size_drew] at hz5 | rw [World.size_setCell] at hz5)); (try have : w.heap.size < w5.heap.size := by omega); (try have : w.heap.size < w5.heap.size + 1 := by omega); (try have : w.heap.size < w5.heap.size + 1 + 1 := by omega); (try have : w.heap.size < w5.heap.size + 1 + 1 + 1 := by omega); (try have : w1.heap.size < w5.heap.size := by omega); (try have : w1.heap.size < w5.heap.size + 1 := by omega); (try have : w1.heap.size < w5.heap.size + 1 + 1 := by omega); (try have : w1.heap.size < w5.heap.size + 1 + 1 + 1 := by omega); (try have : w2.heap.size < w5.heap.size := by omega); (try have : w2.heap.size < w5.heap.size + 1 := by omega); (try have : w2.heap.size < w5.heap.size + 1 + 1 := by omega); (try have : w2.heap.size < w5.heap.size + 1 + 1 + 1 := by omega); (try have : wr.heap.size < w5.heap.size := by omega); (try have : wr.heap.size < w5.heap.size + 1 := by omega); (try have : wr.heap.size < w5.heap.size + 1 + 1 := by omega); (try have : wr.heap.size < w5.heap.size + 1 + 1 + 1 := by omega); (try have : wr.heap.size + 1 < w5.heap.size := by omega); (try have : wr.heap.size + 1 < w5.heap.size + 1 := by omega); (try have : wr.heap.size + 1 < w5.heap.size + 1 + 1 := by omega); (try have : wr.heap.size + 1 < w5.heap.size + 1 + 1 + 1 := by omega); (try have : w4.heap.size < w5.heap.size := by omega); (try have : w4.heap.size < w5.heap.size + 1 := by omega); (try have : w4.heap.size < w5.heap.size + 1 + 1 := by omega); (try have : w4.heap.size < w5.heap.size + 1 + 1 + 1 := by omega)
      obtain ⟨a5, cap5, rfl⟩ := HO5.shape
      rw [List.length_map] at HO5 ⊢
      obtain rfl : xs = ys := HR4.same HR5 HLW.out
      have SS := Lib.hid (sameOf_any a4 a5 cap4 cap5 xs.length xs w5 rfl (HO4.out.sl.below hb5) HO5.sl)
      have HB5 := Lib.hid (HR.out.trans ((hb4.trans (hb5.mono hz4)).mono hzr))
      clear hb4 hb5 hc4 hf4 hc5 hf5 HR4 HR5 HO5
      go_wp2_with fail
      refine SS.out.mono ?_
      rintro e w6 ⟨rfl, hb6⟩; (repeat (with_reducible (replace hb6 := Below.undrew hb6))); obtain ⟨hc6, hf6⟩ := bcell hb6; have hz6 := hb6.size; (repeat (first | rw [World.size_alloc] at hz6 | rw [World.size_drew] at hz6 | rw [World.size_setCell] at hz6)); (try have : w.heap.size < w6.heap.size := by omega); (try have : w.heap.size < w6.heap.size + 1 := by omega); (try have : w.heap.size < w6.heap.size + 1 + 1 := by omega); (try have : w.heap.size < w6.heap.size + 1 + 1 + 1 := by omega); (try have : w1.heap.size < w6.heap.size := by omega); (try have : w1.heap.size < w6.heap.size + 1 := by omega); (try have : w1.heap.size < w6.heap.size + 1 + 1 := by omega); (try have : w1.heap.size < w6.heap.size + 1 + 1 + 1 := by omega); (try have : w2.heap.size < w6.heap.size := by omega); (try have : w2.heap.size < w6.heap.size + 1 := by omega); (try have : w2.heap.size < w6.heap.size + 1 + 1 := by omega); (try have : w2.heap.size < w6.heap.size + 1 + 1 + 1 := by omega); (try have : wr.heap.size < w6.heap.size := by omega); (try have : wr.heap.size < w6.heap.size + 1 := by omega); (try have : wr.heap.size < w6.heap.size + 1 + 1 := by omega); (try have : wr.heap.size < w6.heap.size + 1 + 1 + 1 := by omega); (try have : wr.heap.size + 1 < w6.heap.size := by omega); (try have : wr.heap.size + 1 < w6.heap.size + 1 := by omega); (try have : wr.heap.size + 1 < w6.heap.size + 1 + 1 := by omega); (try have : wr.heap.size + 1 < w6.heap.size + 1 + 1 + 1 := by omega); (try have : w4.heap.size < w6.heap.size := by omega); (try have : w4.heap.size < w6.heap.size + 1 := by omega); (try have : w4.heap.size < w6.heap.size + 1 + 1 := by omega); (try have : w4.heap.size < w6.heap.size + 1 + 1 + 1 := by omega); (try have : w5.heap.size < w6.heap.size := by omega); (try have : w5.heap.size < w6.heap.size + 1 := by omega); (try have : w5.heap.size < w6.heap.size + 1 + 1 := by omega); (try have : w5.heap.size < w6.heap.size + 1 + 1 + 1 := by omega)
      go_wp2
      go_returns
      exact ⟨rfl, HB1.out.trans ((HB5.out.trans (hb6.mono HB5.out.size)).mono hz1)⟩
end Go.Proofs.Ytllemhknmleklaa
