
/- RulesIdle: the walk. -/
import Derived.Test.YtlcacocecdnpnaaIdleP
set_option linter.unusedVariables false
namespace Go.Proofs.Ytlcacocecdnpnaa
open Go.RowKit Go.Sort Wc Wk

theorem Sl.nat {w w' : World} {a : Option Addr} {cap : Nat} {l : List Nat} (hs : Sl w 1 (.slice a l.length cap) (l.map natCells)) (hb : Below w.heap.size w w') {i x : Nat} (hx : l[i]? = some x) :
    ∃ b off, a = some ⟨b, off, none⟩ ∧ b < w.heap.size ∧ w'.cell? ⟨b, off + i, none⟩ = some (.int .i64 x) := by
  obtain ⟨_, a', cap', he, _, _, hcc⟩ := hs
  have he' : a = a' := by
    simp only [Value.slice.injEq] at he
    exact he.1
  subst he'
  obtain ⟨b, off, rfl, hlt, hcell⟩ := hcc (by intro h; rw [List.map_eq_nil_iff] at h; rw [h] at hx; simp at hx)
  have hm := hcell i (natCells x) (by rw [List.getElem?_map, hx]; rfl) 0 _ rfl
  rw [Nat.mul_one, Nat.add_zero] at hm
  exact ⟨b, off, rfl, hlt, (hb.cell (p := ⟨b, off + i, none⟩) hlt).trans hm⟩


set_option maxRecDepth 100000 in
set_option maxHeartbeats 4000000 in
theorem rulesIdle_walk (a : Option Addr) (len cap : Nat) (zs : List Int) (p : Int) (w : World) (h : IsRow .i64 w a len cap zs) (hp : -9223372036854775808 ≤ p ∧ p ≤ 9223372036854775807) :
    Calls Try.prog 13 #[.slice a len cap, .int .i64 p] w fun e w' => e = .returned (.bool true) ∧ Below w.heap.size w w' := by
  go_enter Try.func13, Try.ntmps13
  go_wp2_with fail
  refine (rules_any a len cap zs 20 _ h (by omega)).mono ?_
  rintro e w1 ⟨v, rs, rfl, HO, hok, hlen, hb1⟩; (repeat (with_reducible (replace hb1 := Below.undrew hb1))); obtain ⟨hc1, hf1⟩ := bcell hb1; have hz1 := hb1.size; (repeat (first | rw [World.size_alloc] at hz1 | rw [World.size_drew] at hz1 | rw [World.size_setCell] at hz1)); (try have : w.heap.size < w1.heap.size := by omega); (try have : w.heap.size < w1.heap.size + 1 := by omega); (try have : w.heap.size < w1.heap.size + 1 + 1 := by omega); (try have : w.heap.size < w1.heap.size + 1 + 1 + 1 := by omega)
  obtain ⟨a1, cap1, rfl, hcap1, hcap2⟩ := HO.sl.shape
  rw [List.length_map] at HO hcap1 ⊢
  have HOK := Lib.hid hok
  have HS := Lib.hid HO.sl
  clear hok h HO
  go_wp2_with (at_builtin; refine stop_at ?_; intro G hG)
  rw [← hG.out]; clear hG G
  refine wpList_append_any rfl _ _ 34 46 7 56 _ rfl eiRule w1.heap.size _ ((([] : List RuleD)).map ruleCells) rfl (Own.nil _ _ _ _) _ ((rs).map ruleCells) rfl (HS.out.below (by (repeat' (first | (with_reducible exact Below.refl _ _) | (with_reducible assumption) | (with_reducible refine Below.alloc ?_ ?_ _) | (with_reducible refine Below.drew ?_) | (with_reducible refine Below.stepG ?_ (by assumption) ?_) | (with_reducible refine Below.setCell ?_ ?_ _) | omega | (dsimp only; omega) | (simp; done) | (simp; omega))))) (by intro c hc; obtain ⟨r, _, rfl⟩ := List.mem_map.1 hc; exact ruleCells_one r) (by skip; first | omega | (simp; omega)) (by decide) (by first | omega | (simp; done) | (simp; omega)) ?_
  intro v2 w2 hown2 hb2
  rw [← List.map_append] at hown2
  obtain ⟨xs2, hxs2⟩ : ∃ x : List RuleD, x = (([] : List RuleD)) ++ (rs) := ⟨_, rfl⟩
  rw [← hxs2] at hown2
  have hl2 : xs2.length = (([] : List RuleD)).length + (rs).length := by rw [hxs2, List.length_append]
  have HX2 := Lib.hid hxs2
  clear hxs2
  have HL2 := Lib.hid hl2
  clear hl2
  obtain ⟨a2, cap2, rfl⟩ := hown2.shape
  rw [List.length_map] at hown2 ⊢
  have HO2 := Lib.hid hown2
  clear hown2
  obtain ⟨hc2, hf2⟩ := bcellB hb2; have hz2 := hb2.size; (repeat (first | rw [World.size_alloc] at hz2 | rw [World.size_drew] at hz2 | rw [World.size_setCell] at hz2)); (try have : w.heap.size < w2.heap.size := by omega); (try have : w.heap.size < w2.heap.size + 1 := by omega); (try have : w.heap.size < w2.heap.size + 1 + 1 := by omega); (try have : w.heap.size < w2.heap.size + 1 + 1 + 1 := by omega); (try have : w1.heap.size < w2.heap.size := by omega); (try have : w1.heap.size < w2.heap.size + 1 := by omega); (try have : w1.heap.size < w2.heap.size + 1 + 1 := by omega); (try have : w1.heap.size < w2.heap.size + 1 + 1 + 1 := by omega)
  obtain rfl : xs2 = rs := by rw [HX2.out]; rfl
  go_wp2_with fail
  refine (idle_any a2 cap2 xs2 _ (HO2.out.sl.below (by (repeat' (first | (with_reducible exact Below.refl _ _) | (with_reducible assumption) | (with_reducible refine Below.alloc ?_ ?_ _) | (with_reducible refine Below.drew ?_) | (with_reducible refine Below.stepG ?_ (by assumption) ?_) | (with_reducible refine Below.setCell ?_ ?_ _) | omega | (dsimp only; omega) | (simp; done) | (simp; omega))))) (by omega) HOK.out).mono ?_
  rintro e w3 ⟨v3, rfl, hown3, hb3⟩; (repeat (with_reducible (replace hb3 := Below.undrew hb3))); obtain ⟨hc3, hf3⟩ := bcell hb3; have hz3 := hb3.size; (repeat (first | rw [World.size_alloc] at hz3 | rw [World.size_drew] at hz3 | rw [World.size_setCell] at hz3)); (try have : w.heap.size < w3.heap.size := by omega); (try have : w.heap.size < w3.heap.size + 1 := by omega); (try have : w.heap.size < w3.heap.size + 1 + 1 := by omega); (try have : w.heap.size < w3.heap.size + 1 + 1 + 1 := by omega); (try have : w1.heap.size < w3.heap.size := by omega); (try have : w1.heap.size < w3.heap.size + 1 := by omega); (try have : w1.heap.size < w3.heap.size + 1 + 1 := by omega); (try have : w1.heap.size < w3.heap.size + 1 + 1 + 1 := by omega); (try have : w2.heap.size < w3.heap.size := by omega); (try have : w2.heap.size < w3.heap.size + 1 := by omega); (try have : w2.heap.size < w3.heap.size + 1 + 1 := by omega); (try have : w2.heap.size < w3.heap.size + 1 + 1 + 1 := by omega)
  obtain ⟨a3, cap3, rfl, hcap3, hcap4⟩ := hown3.sl.shape
  rw [List.length_map] at hown3 hcap3 ⊢
  have HI := Lib.hid hown3.sl
  have HS3 := Lib.hid (HS.out.below (w' := w3) (by (repeat' (first | (with_reducible exact Below.refl _ _) | (with_reducible assumption) | (with_reducible refine Below.alloc ?_ ?_ _) | (with_reducible refine Below.drew ?_) | (with_reducible refine Below.stepG ?_ (by assumption) ?_) | (with_reducible refine Below.setCell ?_ ?_ _) | omega | (dsimp only; omega) | (simp; done) | (simp; omega)))))
  have HLF := Lib.hid (left_pass (l := xs2) HOK.out (m := presN p) (wide := presK p) (pres_vp p) xs2.length (Nat.le_refl _))
  have HLI := Lib.hid (left_idles (l := xs2) HOK.out)
  have HLM := Lib.hid (fun q hq => HOK.out q (List.mem_of_mem_take (leftL_mem (l := xs2) xs2.length q hq)))
  obtain ⟨IL, hIL⟩ : ∃ x, x = idles xs2 xs2.length := ⟨_, rfl⟩
  rw [← hIL] at HI hcap3 ⊢
  have hILl : IL.length ≤ 20 := by rw [hIL]; exact Nat.le_trans (idles_len _ _) hlen
  have HIL := Lib.hid hIL
  have hb0 : Below w.heap.size w w3 := by (repeat' (first | (with_reducible exact Below.refl _ _) | (with_reducible assumption) | (with_reducible refine Below.alloc ?_ ?_ _) | (with_reducible refine Below.drew ?_) | (with_reducible refine Below.stepG ?_ (by assumption) ?_) | (with_reducible refine Below.setCell ?_ ?_ _) | omega | (dsimp only; omega) | (simp; done) | (simp; omega)))
  clear hIL hown3 hb1 hb2 hb3 hc1 hc2 hc3 hf1 hf2 hf3 HS HO2 HX2 HL2
  go_wp2_with fail
  go_loopw [8, 9, 10] (fun lv kv iv wr => ∃ j : Nat, j ≤ xs2.length ∧ iv = .int .i64 j ∧ kv = .int .i64 ((idles xs2 j).length : Nat) ∧ Hid (Own wr w3.heap.size 46 7 lv ((leftL xs2 j).map ruleCells)) ∧ Below w3.heap.size w3 wr) (fun _ _ iv _ => xs2.length - (intOf iv).toNat)
  case atStart => exact ⟨0, Nat.zero_le _, rfl, rfl, Own.nil _ _ _ _, Below.refl _ _⟩
  case round =>
    obtain ⟨j, hj, rfl, rfl, HO, hbr⟩ := hrel
    have hzr := hbr.size
    have hkl : (idles xs2 j).length ≤ 20 := Nat.le_trans (idles_len _ _) (by omega)
    by_cases hlt : j < xs2.length
    · obtain ⟨r, hr⟩ : ∃ r, xs2[j]? = some r := ⟨_, List.getElem?_eq_getElem hlt⟩
      have HL := Lib.hid (leftL_some hr)
      have HS2 := Lib.hid (idles_succ xs2 j)
      have hll := leftL_len (l := xs2) j (by omega)
      by_cases hi : isIdle xs2 j = true
      · obtain ⟨e1, e2⟩ := idles_here hlt hi
        rw [← HIL.out] at e1 e2
        obtain ⟨b, off, rfl, hb, d0⟩ := Sl.nat HI.out hbr e2
        have HOx := HO.out
        rw [← show leftL xs2 (j + 1) = leftL xs2 j by rw [HL.out, if_pos hi]] at HOx
        have hkn : ((idles xs2 j).length : Int) + 1 = ((idles xs2 (j + 1)).length : Nat) := by rw [HS2.out, if_pos hi]; simp
        have HO3 := Lib.hid HOx
        have HKN := Lib.hid hkn
        clear hi e2 hr HOx HO HS2 HL hkn
        generalize hk : (idles xs2 j).length = k at *
        clear hk
        go_wp2_with fail
        rw [HKN.out]
        go_roundw
        case rel => exact ⟨j + 1, by omega, by go_num, rfl, HO3, hbr⟩
        case measure => simp [intOf]; omega
      · have hi' : isIdle xs2 j = false := by simpa using hi
        have HIo := Lib.hid (idles_other hlt hi')
        have hkn : idles xs2 j = idles xs2 (j + 1) := by rw [HS2.out, if_neg hi]; simp
        have HLx := Lib.hid (show leftL xs2 (j + 1) = leftL xs2 j ++ [r] by rw [HL.out, if_neg hi])
        have HKN := Lib.hid (show (idles xs2 j).length = (idles xs2 (j + 1)).length by rw [hkn])
        obtain ⟨bs, offs, ha1, hbs, d0, d1, d2, d3, d4, d5, d6⟩ := Sl.rule HS3.out hbr hr
        subst ha1
        clear hi hi' hr HS2 HL hkn
        generalize hk : (idles xs2 j).length = k at *
        clear hk
        rw [← HIL.out] at HIo
        rcases HIo.out with hge | ⟨z, h1, h2, h3, h4⟩
        · have hge' : IL.length ≤ k := by omega
          clear hge HIo
          go_wp2_with (at_builtin; refine stop_at ?_; intro G hG)
          rw [← hG.out]; clear hG G
          refine wpList_append_any rfl _ _ 34 46 7 56 _ rfl eiRule w3.heap.size _ ((leftL xs2 j).map ruleCells) rfl (by ((repeat (first | (with_reducible refine Own.alloc ?_ _) | (with_reducible refine Own.dr ?_))); exact HO.out)) _ (([r]).map ruleCells) rfl (sl_rule r (by simp)) (by intro c hc; obtain ⟨r, _, rfl⟩ := List.mem_map.1 hc; exact ruleCells_one r) (by skip; first | omega | (simp; omega)) (by decide) (by first | omega | (simp; done) | (simp; omega)) ?_
          intro v4 w4 hown4 hb4
          rw [← List.map_append] at hown4
          obtain ⟨xs4, hxs4⟩ : ∃ x : List RuleD, x = (leftL xs2 j) ++ ([r]) := ⟨_, rfl⟩
          rw [← hxs4] at hown4
          have hl4 : xs4.length = (leftL xs2 j).length + ([r]).length := by rw [hxs4, List.length_append]
          have HX4 := Lib.hid hxs4
          clear hxs4
          have HL4 := Lib.hid hl4
          clear hl4
          obtain ⟨a4, cap4, rfl⟩ := hown4.shape
          rw [List.length_map] at hown4 ⊢
          have HO4 := Lib.hid hown4
          clear hown4
          obtain ⟨hc4, hf4⟩ := bcellB hb4; have hz4 := hb4.size; (repeat (first | rw [World.size_alloc] at hz4 | rw [World.size_drew] at hz4 | rw [World.size_setCell] at hz4)); (try have : w.heap.size < w4.heap.size := by omega); (try have : w.heap.size < w4.heap.size + 1 := by omega); (try have : w.heap.size < w4.heap.size + 1 + 1 := by omega); (try have : w.heap.size < w4.heap.size + 1 + 1 + 1 := by omega); (try have : w1.heap.size < w4.heap.size := by omega); (try have : w1.heap.size < w4.heap.size + 1 := by omega); (try have : w1.heap.size < w4.heap.size + 1 + 1 := by omega); (try have : w1.heap.size < w4.heap.size + 1 + 1 + 1 := by omega); (try have : w2.heap.size < w4.heap.size := by omega); (try have : w2.heap.size < w4.heap.size + 1 := by omega); (try have : w2.heap.size < w4.heap.size + 1 + 1 := by omega); (try have : w2.heap.size < w4.heap.size + 1 + 1 + 1 := by omega); (try have : w3.heap.size < w4.heap.size := by omega); (try have : w3.heap.size < w4.heap.size + 1 := by omega); (try have : w3.heap.size < w4.heap.size + 1 + 1 := by omega); (try have : w3.heap.size < w4.heap.size + 1 + 1 + 1 := by omega); (try have : wr.heap.size < w4.heap.size := by omega); (try have : wr.heap.size < w4.heap.size + 1 := by omega); (try have : wr.heap.size < w4.heap.size + 1 + 1 := by omega); (try have : wr.heap.size < w4.heap.size + 1 + 1 + 1 := by omega); (try have : wr.heap.size + 1 < w4.heap.size := by omega); (try have : wr.heap.size + 1 < w4.heap.size + 1 := by omega); (try have : wr.heap.size + 1 < w4.heap.size + 1 + 1 := by omega); (try have : wr.heap.size + 1 < w4.heap.size + 1 + 1 + 1 := by omega); (try have : w5.heap.size < w4.heap.size := by omega); (try have : w5.heap.size < w4.heap.size + 1 := by omega); (try have : w5.heap.size < w4.heap.size + 1 + 1 := by omega); (try have : w5.heap.size < w4.heap.size + 1 + 1 + 1 := by omega); (try have : w6.heap.size < w4.heap.size := by omega); (try have : w6.heap.size < w4.heap.size + 1 := by omega); (try have : w6.heap.size < w4.heap.size + 1 + 1 := by omega); (try have : w6.heap.size < w4.heap.size + 1 + 1 + 1 := by omega); (try have : w7.heap.size < w4.heap.size := by omega); (try have : w7.heap.size < w4.heap.size + 1 := by omega); (try have : w7.heap.size < w4.heap.size + 1 + 1 := by omega); (try have : w7.heap.size < w4.heap.size + 1 + 1 + 1 := by omega)
          have HO5 : Hid (Own w4 w3.heap.size 46 7 (.slice a4 xs4.length cap4) ((leftL xs2 (j + 1)).map ruleCells)) := by
            rw [HLx.out, ← HX4.out]; exact HO4
          clear HO HLx HX4 HO4
          go_wp2
          go_roundw
          case rel => exact ⟨j + 1, by omega, by go_num, by rw [← HKN.out], HO5, by (repeat' (first | (with_reducible exact Below.refl _ _) | (with_reducible assumption) | (with_reducible refine Below.alloc ?_ ?_ _) | (with_reducible refine Below.drew ?_) | (with_reducible refine Below.stepG ?_ (by assumption) ?_) | (with_reducible refine Below.setCell ?_ ?_ _) | omega | (dsimp only; omega) | (simp; done) | (simp; omega)))⟩
          case measure => simp [intOf]; omega
        · obtain ⟨bi, offi, hai, hbi, c0⟩ := Sl.nat HI.out hbr h2
          subst hai
          have hzj : ((z : Int) == j) = false := by rw [beq_eq_false_iff_ne]; omega
          clear h2 HIo
          go_wp2_with (at_builtin; refine stop_at ?_; intro G hG)
          rw [← hG.out]; clear hG G
          refine wpList_append_any rfl _ _ 34 46 7 56 _ rfl eiRule w3.heap.size _ ((leftL xs2 j).map ruleCells) rfl (by ((repeat (first | (with_reducible refine Own.alloc ?_ _) | (with_reducible refine Own.dr ?_))); exact HO.out)) _ (([r]).map ruleCells) rfl (sl_rule r (by simp)) (by intro c hc; obtain ⟨r, _, rfl⟩ := List.mem_map.1 hc; exact ruleCells_one r) (by skip; first | omega | (simp; omega)) (by decide) (by first | omega | (simp; done) | (simp; omega)) ?_
          intro v4 w4 hown4 hb4
          rw [← List.map_append] at hown4
          obtain ⟨xs4, hxs4⟩ : ∃ x : List RuleD, x = (leftL xs2 j) ++ ([r]) := ⟨_, rfl⟩
          rw [← hxs4] at hown4
          have hl4 : xs4.length = (leftL xs2 j).length + ([r]).length := by rw [hxs4, List.length_append]
          have HX4 := Lib.hid hxs4
          clear hxs4
          have HL4 := Lib.hid hl4
          clear hl4
          obtain ⟨a4, cap4, rfl⟩ := hown4.shape
          rw [List.length_map] at hown4 ⊢
          have HO4 := Lib.hid hown4
          clear hown4
          obtain ⟨hc4, hf4⟩ := bcellB hb4; have hz4 := hb4.size; (repeat (first | rw [World.size_alloc] at hz4 | rw [World.size_drew] at hz4 | rw [World.size_setCell] at hz4)); (try have : w.heap.size < w4.heap.size := by omega); (try have : w.heap.size < w4.heap.size + 1 := by omega); (try have : w.heap.size < w4.heap.size + 1 + 1 := by omega); (try have : w.heap.size < w4.heap.size + 1 + 1 + 1 := by omega); (try have : w1.heap.size < w4.heap.size := by omega); (try have : w1.heap.size < w4.heap.size + 1 := by omega); (try have : w1.heap.size < w4.heap.size + 1 + 1 := by omega); (try have : w1.heap.size < w4.heap.size + 1 + 1 + 1 := by omega); (try have : w2.heap.size < w4.heap.size := by omega); (try have : w2.heap.size < w4.heap.size + 1 := by omega); (try have : w2.heap.size < w4.heap.size + 1 + 1 := by omega); (try have : w2.heap.size < w4.heap.size + 1 + 1 + 1 := by omega); (try have : w3.heap.size < w4.heap.size := by omega); (try have : w3.heap.size < w4.heap.size + 1 := by omega); (try have : w3.heap.size < w4.heap.size + 1 + 1 := by omega); (try have : w3.heap.size < w4.heap.size + 1 + 1 + 1 := by omega); (try have : wr.heap.size < w4.heap.size := by omega); (try have : wr.heap.size < w4.heap.size + 1 := by omega); (try have : wr.heap.size < w4.heap.size + 1 + 1 := by omega); (try have : wr.heap.size < w4.heap.size + 1 + 1 + 1 := by omega); (try have : wr.heap.size + 1 < w4.heap.size := by omega); (try have : wr.heap.size + 1 < w4.heap.size + 1 := by omega); (try have : wr.heap.size + 1 < w4.heap.size + 1 + 1 := by omega); (try have : wr.heap.size + 1 < w4.heap.size + 1 + 1 + 1 := by omega); (try have : w5.heap.size < w4.heap.size := by omega); (try have : w5.heap.size < w4.heap.size + 1 := by omega); (try have : w5.heap.size < w4.heap.size + 1 + 1 := by omega); (try have : w5.heap.size < w4.heap.size + 1 + 1 + 1 := by omega); (try have : w6.heap.size < w4.heap.size := by omega); (try have : w6.heap.size < w4.heap.size + 1 := by omega); (try have : w6.heap.size < w4.heap.size + 1 + 1 := by omega); (try have : w6.heap.size < w4.heap.size + 1 + 1 + 1 := by omega); (try have : w7.heap.size < w4.heap.size := by omega); (try have : w7.heap.size < w4.heap.size + 1 := by omega); (try have : w7.heap.size < w4.heap.size + 1 + 1 := by omega); (try have : w7.heap.size < w4.heap.size + 1 + 1 + 1 := by omega)
          have HO5 : Hid (Own w4 w3.heap.size 46 7 (.slice a4 xs4.length cap4) ((leftL xs2 (j + 1)).map ruleCells)) := by
            rw [HLx.out, ← HX4.out]; exact HO4
          clear HO HLx HX4 HO4
          go_wp2
          go_roundw
          case rel => exact ⟨j + 1, by omega, by go_num, by rw [← HKN.out], HO5, by (repeat' (first | (with_reducible exact Below.refl _ _) | (with_reducible assumption) | (with_reducible refine Below.alloc ?_ ?_ _) | (with_reducible refine Below.drew ?_) | (with_reducible refine Below.stepG ?_ (by assumption) ?_) | (with_reducible refine Below.setCell ?_ ?_ _) | omega | (dsimp only; omega) | (simp; done) | (simp; omega)))⟩
          case measure => simp [intOf]; omega
    · obtain rfl : j = xs2.length := by omega
      have HO3 := HO.out
      rw [← HIL.out]
      obtain ⟨a4, cap4, hv4, hcap5, hcap6⟩ := HO3.sl.shape
      rw [List.length_map] at hv4
      subst hv4
      have hll := leftL_len (l := xs2) xs2.length (Nat.le_refl _)
      generalize leftL xs2 xs2.length = LL at *
      have HL3 := Lib.hid HO3.sl
      clear HO HO3 hcap5 hkl
      go_wp2_with fail
      refine (pres_one _ p _ (by simp) hp).mono ?_
      rintro e w5 ⟨g2, c2, rfl, hg2, hl2, e0, e1, e2, e3, hb5⟩; (repeat (with_reducible (replace hb5 := Below.undrew hb5))); obtain ⟨hc5, hf5⟩ := bcell hb5; have hz5 := hb5.size; (repeat (first | rw [World.size_alloc] at hz5 | rw [World.size_drew] at hz5 | rw [World.size_setCell] at hz5)); (try have : w.heap.size < w5.heap.size := by omega); (try have : w.heap.size < w5.heap.size + 1 := by omega); (try have : w.heap.size < w5.heap.size + 1 + 1 := by omega); (try have : w.heap.size < w5.heap.size + 1 + 1 + 1 := by omega); (try have : w1.heap.size < w5.heap.size := by omega); (try have : w1.heap.size < w5.heap.size + 1 := by omega); (try have : w1.heap.size < w5.heap.size + 1 + 1 := by omega); (try have : w1.heap.size < w5.heap.size + 1 + 1 + 1 := by omega); (try have : w2.heap.size < w5.heap.size := by omega); (try have : w2.heap.size < w5.heap.size + 1 := by omega); (try have : w2.heap.size < w5.heap.size + 1 + 1 := by omega); (try have : w2.heap.size < w5.heap.size + 1 + 1 + 1 := by omega); (try have : w3.heap.size < w5.heap.size := by omega); (try have : w3.heap.size < w5.heap.size + 1 := by omega); (try have : w3.heap.size < w5.heap.size + 1 + 1 := by omega); (try have : w3.heap.size < w5.heap.size + 1 + 1 + 1 := by omega); (try have : wr.heap.size < w5.heap.size := by omega); (try have : wr.heap.size < w5.heap.size + 1 := by omega); (try have : wr.heap.size < w5.heap.size + 1 + 1 := by omega); (try have : wr.heap.size < w5.heap.size + 1 + 1 + 1 := by omega); (try have : wr.heap.size + 1 < w5.heap.size := by omega); (try have : wr.heap.size + 1 < w5.heap.size + 1 := by omega); (try have : wr.heap.size + 1 < w5.heap.size + 1 + 1 := by omega); (try have : wr.heap.size + 1 < w5.heap.size + 1 + 1 + 1 := by omega)
      have hvq := pres_vp p
      generalize presN p = N at *
      generalize presK p = K at *
      have HLF2 : passY LL N K = passY xs2 N K := by have := HLF.out; rwa [List.take_length] at this
      have C1 := Lib.hid (fun a cap w hs => passed_any a cap xs2 N K w hs (by omega) HOK.out hvq)
      have C2 := Lib.hid (fun a cap w hs => passed_any a cap LL N K w hs (by omega) HLM.out hvq)
      have C3 := Lib.hid (fun a cap w hs => idle_any a cap LL w hs (by omega) HLM.out)
      rw [HLI.out] at C3
      rw [HLF2] at C2
      generalize passY xs2 N K = y at *
      generalize passI xs2 N K = i1 at *
      generalize passI LL N K = i2 at *
      clear HLF2 HLF HLI
      go_wp2_with fail
      refine (C1.out _ _ _ (HS3.out.below (by (repeat' (first | (with_reducible exact Below.refl _ _) | (with_reducible assumption) | (with_reducible refine Below.alloc ?_ ?_ _) | (with_reducible refine Below.drew ?_) | (with_reducible refine Below.stepG ?_ (by assumption) ?_) | (with_reducible refine Below.setCell ?_ ?_ _) | omega | (dsimp only; omega) | (simp; done) | (simp; omega)))))).mono ?_; rintro e w6 ⟨rfl, hb6⟩; (repeat (with_reducible (replace hb6 := Below.undrew hb6))); obtain ⟨hc6, hf6⟩ := bcell hb6; have hz6 := hb6.size; (repeat (first | rw [World.size_alloc] at hz6 | rw [World.size_drew] at hz6 | rw [World.size_setCell] at hz6)); (try have : w.heap.size < w6.heap.size := by omega); (try have : w.heap.size < w6.heap.size + 1 := by omega); (try have : w.heap.size < w6.heap.size + 1 + 1 := by omega); (try have : w.heap.size < w6.heap.size + 1 + 1 + 1 := by omega); (try have : w1.heap.size < w6.heap.size := by omega); (try have : w1.heap.size < w6.heap.size + 1 := by omega); (try have : w1.heap.size < w6.heap.size + 1 + 1 := by omega); (try have : w1.heap.size < w6.heap.size + 1 + 1 + 1 := by omega); (try have : w2.heap.size < w6.heap.size := by omega); (try have : w2.heap.size < w6.heap.size + 1 := by omega); (try have : w2.heap.size < w6.heap.size + 1 + 1 := by omega); (try have : w2.heap.size < w6.heap.size + 1 + 1 + 1 := by omega); (try have : w3.heap.size < w6.heap.size := by omega); (try have : w3.heap.size < w6.heap.size + 1 := by omega); (try have : w3.heap.size < w6.heap.size + 1 + 1 := by omega); (try have : w3.heap.size < w6.heap.size + 1 + 1 + 1 := by omega); (try have : wr.heap.size < w6.heap.size := by omega); (try have : wr.heap.size < w6.heap.size + 1 := by omega); (try have : wr.heap.size < w6.heap.size + 1 + 1 := by omega); (try have : wr.heap.size < w6.heap.size + 1 + 1 + 1 := by omega); (try have : wr.heap.size + 1 < w6.heap.size := by omega); (try have : wr.heap.size + 1 < w6.heap.size + 1 := by omega); (try have : wr.heap.size + 1 < w6.heap.size + 1 + 1 := by omega); (try have : wr.heap.size + 1 < w6.heap.size + 1 + 1 + 1 := by omega); (try have : w5.heap.size < w6.heap.size := by omega); (try have : w5.heap.size < w6.heap.size + 1 := by omega); (try have : w5.heap.size < w6.heap.size + 1 + 1 := by omega); (try have : w5.heap.size < w6.heap.size + 1 + 1 + 1 := by omega)
      go_wp2_with fail
      refine (C2.out _ _ _ (HL3.out.below (by (repeat' (first | (with_reducible exact Below.refl _ _) | (with_reducible assumption) | (with_reducible refine Below.alloc ?_ ?_ _) | (with_reducible refine Below.drew ?_) | (with_reducible refine Below.stepG ?_ (by assumption) ?_) | (with_reducible refine Below.setCell ?_ ?_ _) | omega | (dsimp only; omega) | (simp; done) | (simp; omega)))))).mono ?_; rintro e w7 ⟨rfl, hb7⟩; (repeat (with_reducible (replace hb7 := Below.undrew hb7))); obtain ⟨hc7, hf7⟩ := bcell hb7; have hz7 := hb7.size; (repeat (first | rw [World.size_alloc] at hz7 | rw [World.size_drew] at hz7 | rw [World.size_setCell] at hz7)); (try have : w.heap.size < w7.heap.size := by omega); (try have : w.heap.size < w7.heap.size + 1 := by omega); (try have : w.heap.size < w7.heap.size + 1 + 1 := by omega); (try have : w.heap.size < w7.heap.size + 1 + 1 + 1 := by omega); (try have : w1.heap.size < w7.heap.size := by omega); (try have : w1.heap.size < w7.heap.size + 1 := by omega); (try have : w1.heap.size < w7.heap.size + 1 + 1 := by omega); (try have : w1.heap.size < w7.heap.size + 1 + 1 + 1 := by omega); (try have : w2.heap.size < w7.heap.size := by omega); (try have : w2.heap.size < w7.heap.size + 1 := by omega); (try have : w2.heap.size < w7.heap.size + 1 + 1 := by omega); (try have : w2.heap.size < w7.heap.size + 1 + 1 + 1 := by omega); (try have : w3.heap.size < w7.heap.size := by omega); (try have : w3.heap.size < w7.heap.size + 1 := by omega); (try have : w3.heap.size < w7.heap.size + 1 + 1 := by omega); (try have : w3.heap.size < w7.heap.size + 1 + 1 + 1 := by omega); (try have : wr.heap.size < w7.heap.size := by omega); (try have : wr.heap.size < w7.heap.size + 1 := by omega); (try have : wr.heap.size < w7.heap.size + 1 + 1 := by omega); (try have : wr.heap.size < w7.heap.size + 1 + 1 + 1 := by omega); (try have : wr.heap.size + 1 < w7.heap.size := by omega); (try have : wr.heap.size + 1 < w7.heap.size + 1 := by omega); (try have : wr.heap.size + 1 < w7.heap.size + 1 + 1 := by omega); (try have : wr.heap.size + 1 < w7.heap.size + 1 + 1 + 1 := by omega); (try have : w5.heap.size < w7.heap.size := by omega); (try have : w5.heap.size < w7.heap.size + 1 := by omega); (try have : w5.heap.size < w7.heap.size + 1 + 1 := by omega); (try have : w5.heap.size < w7.heap.size + 1 + 1 + 1 := by omega); (try have : w6.heap.size < w7.heap.size := by omega); (try have : w6.heap.size < w7.heap.size + 1 := by omega); (try have : w6.heap.size < w7.heap.size + 1 + 1 := by omega); (try have : w6.heap.size < w7.heap.size + 1 + 1 + 1 := by omega)
      go_wp2_with fail
      refine (C3.out _ _ _ (HL3.out.below (by (repeat' (first | (with_reducible exact Below.refl _ _) | (with_reducible assumption) | (with_reducible refine Below.alloc ?_ ?_ _) | (with_reducible refine Below.drew ?_) | (with_reducible refine Below.stepG ?_ (by assumption) ?_) | (with_reducible refine Below.setCell ?_ ?_ _) | omega | (dsimp only; omega) | (simp; done) | (simp; omega)))))).mono ?_
      rintro e w8 ⟨v8, rfl, hown8, hb8⟩
      obtain ⟨a8, cap8, rfl, _, _⟩ := hown8.sl.shape
      rw [List.map_nil, List.length_nil]
      clear hown8
      go_wp2
      all_goals go_returns
      all_goals exact ⟨rfl, by (repeat' (first | (with_reducible exact Below.refl _ _) | (with_reducible assumption) | (with_reducible refine Below.alloc ?_ ?_ _) | (with_reducible refine Below.drew ?_) | (with_reducible refine Below.stepG ?_ (by assumption) ?_) | (with_reducible refine Below.setCell ?_ ?_ _) | omega | (dsimp only; omega) | (simp; done) | (simp; omega)))⟩
end Go.Proofs.Ytlcacocecdnpnaa
