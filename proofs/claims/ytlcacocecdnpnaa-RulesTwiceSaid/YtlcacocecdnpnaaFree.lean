
/- Rules: the contract of free. -/
import Derived.Test.YtlcacocecdnpnaaFree0
import Derived.Test.YtlcacocecdnpnaaPre3
import Derived.Test.YtlcacocecdnpnaaKit4
set_option linter.unusedVariables false
namespace Go.Proofs.Ytlcacocecdnpnaa
open Go.RowKit Go.Sort Wc Wk

def FreeSays (f wide : Nat) : Prop := ∀ (l : List RuleD) (a : Option Addr) (cap n k : Nat) (w : World), Sl w 7 (.slice a l.length cap) (l.map ruleCells) → l.length ≤ 100 → (∀ q ∈ l, RuleD.ok q) → VP false n k → k ≤ wide → wide ≤ 32 → wide - k < f →
    Calls Try.prog 42 #[.slice a l.length cap, Value.agg #[.bool false, .int .u64 (hiOf false n), .int .u64 (loOf n), .int .i64 k], .int .i64 wide] w fun e w' => e = .returned (.bool (freeF f l n k wide)) ∧ Below w.heap.size w w'


set_option maxRecDepth 100000 in
set_option maxHeartbeats 4000000 in
theorem free_step (f wide : Nat) (IH : Hid (FreeSays f wide)) : FreeSays (f + 1) wide := by
  intro l a cap n k w hs hlen hok hp hk hw hf
  have HS := Lib.hid hs
  have HOK := Lib.hid hok
  have OV := Lib.hid (fun (r : RuleD) (hr : r.ok) w => over_any false r.n r.k n k w hr.1 hp)
  have OW := Lib.hid (fun (r : RuleD) (hr : r.ok) w => over_any false n k r.n r.k w hp hr.1)
  have HP := Lib.hid hp
  generalize hR : freeF (f + 1) l n k wide = R
  have HR := Lib.hid hR
  clear hs hok hp hR
  go_enter Try.func42, Try.ntmps42
  go_wp2_with fail
  have FO := HS.out.below (w' := w.alloc (.cells #[.bool false, .int .u64 (hiOf false n), .int .u64 (loOf n), .int .i64 k] 40)) (by (repeat' (first | (with_reducible exact Below.refl _ _) | (with_reducible assumption) | (with_reducible refine Below.al ?_ _) | (with_reducible refine Below.dr ?_) | (with_reducible refine Below.step ?_ (by assumption)) | (with_reducible refine Below.set ?_ ?_ _) | omega | (dsimp only; omega) | (simp; done) | (simp; omega))))
  have F0 : (w.alloc (.cells #[.bool false, .int .u64 (hiOf false n), .int .u64 (loOf n), .int .i64 k] 40)).cell? ⟨w.heap.size, 0, none⟩ = some (.bool false) := by simp
  have F1 : (w.alloc (.cells #[.bool false, .int .u64 (hiOf false n), .int .u64 (loOf n), .int .i64 k] 40)).cell? ⟨w.heap.size, 1, none⟩ = some (.int .u64 (hiOf false n)) := by simp
  have F2 : (w.alloc (.cells #[.bool false, .int .u64 (hiOf false n), .int .u64 (loOf n), .int .i64 k] 40)).cell? ⟨w.heap.size, 2, none⟩ = some (.int .u64 (loOf n)) := by simp
  have F3 : (w.alloc (.cells #[.bool false, .int .u64 (hiOf false n), .int .u64 (loOf n), .int .i64 k] 40)).cell? ⟨w.heap.size, 3, none⟩ = some (.int .i64 k) := by simp
  have FS : w.heap.size < (w.alloc (.cells #[.bool false, .int .u64 (hiOf false n), .int .u64 (loOf n), .int .i64 k] 40)).heap.size := by simp
  have FB : Below w.heap.size w (w.alloc (.cells #[.bool false, .int .u64 (hiOf false n), .int .u64 (loOf n), .int .i64 k] 40)) := by (repeat' (first | (with_reducible exact Below.refl _ _) | (with_reducible assumption) | (with_reducible refine Below.al ?_ _) | (with_reducible refine Below.dr ?_) | (with_reducible refine Below.step ?_ (by assumption)) | (with_reducible refine Below.set ?_ ?_ _) | omega | (dsimp only; omega) | (simp; done) | (simp; omega)))
  generalize w.alloc (.cells #[.bool false, .int .u64 (hiOf false n), .int .u64 (loOf n), .int .i64 k] 40) = W at *
  obtain ⟨B, hB⟩ : ∃ B, B = w.heap.size := ⟨_, rfl⟩
  rw [← hB] at F0 F1 F2 F3 FS ⊢
  have hBe : w.heap.size ≤ B := by omega
  clear hB
  have FO := Lib.hid FO
  go_loopw [7, 12] (fun v i wr => ∃ j : Nat, j ≤ l.length ∧ i = .int .i64 j ∧ Hid ((l.take j).any (hitR n k wide) = false) ∧ Hid (Own wr W.heap.size 46 7 v (((l.take j).filter (somR n k wide)).map ruleCells)) ∧ Below W.heap.size W wr) (fun _ i _ => l.length - (intOf i).toNat)
  case atStart => exact ⟨0, Nat.zero_le _, rfl, Lib.hid rfl, Own.nil _ _ _ _, Below.refl _ _⟩
  case round =>
    obtain ⟨j, hj, rfl, HN, HO, hbr⟩ := hrel
    have hzr := hbr.size
    have g0 := (hbr.cell (p := ⟨B, 0, none⟩) FS).trans F0
    have g1 := (hbr.cell (p := ⟨B, 1, none⟩) FS).trans F1
    have g2 := (hbr.cell (p := ⟨B, 2, none⟩) FS).trans F2
    have g3 := (hbr.cell (p := ⟨B, 3, none⟩) FS).trans F3
    have gs : B < wr.heap.size := by omega
    by_cases hlt : j < l.length
    · obtain ⟨r, hr⟩ : ∃ r, l[j]? = some r := ⟨_, List.getElem?_eq_getElem hlt⟩
      obtain ⟨b, off, rfl, hb, d0, d1, d2, d3, d4, d5, d6⟩ := Sl.rule FO.out hbr hr
      have hrok := HOK.out r (List.mem_of_getElem? hr)
      have O1 := Lib.hid (OV.out r hrok)
      have O2 := Lib.hid (OW.out r hrok)
      have HT := Lib.hid (show l.take (j + 1) = l.take j ++ [r] by rw [List.take_add_one, hr]; rfl)
      have hmem := List.mem_of_getElem? hr
      have HMEM := Lib.hid hmem
      clear hr hrok F0 F1 F2 F3 hmem
      by_cases hin : r.least ≤ wide ∧ wide ≤ r.most
      · obtain ⟨hin1, hin2⟩ := hin
        by_cases hc : cov false r.n r.k n k
        · have hRf : R = false := by
            have := HR.out
            unfold freeF at this
            rw [if_pos] at this
            · exact this.symm
            · rw [List.any_eq_true]
              exact ⟨r, HMEM.out, by unfold hitR; simp [hin1, hin2, hc]⟩
          subst hRf
          rw [decide_eq_true hc] at O1
          clear hc
          go_wp2_with (first | ((with_reducible refine (O1.out _).mono ?_); rintro e w1 ⟨rfl, hb1⟩; (repeat (with_reducible (replace hb1 := Below.undrew hb1))); obtain ⟨hc1, hf1⟩ := bcell hb1; have hz1 := hb1.size; (repeat (first | rw [World.size_alloc] at hz1 | rw [World.size_drew] at hz1 | rw [World.size_setCell] at hz1)); (try have : B < w1.heap.size := by omega); (try have : B < w1.heap.size + 1 := by omega); (try have : B < w1.heap.size + 1 + 1 := by omega); (try have : B < w1.heap.size + 1 + 1 + 1 := by omega); (try have : w.heap.size < w1.heap.size := by omega); (try have : w.heap.size < w1.heap.size + 1 := by omega); (try have : w.heap.size < w1.heap.size + 1 + 1 := by omega); (try have : w.heap.size < w1.heap.size + 1 + 1 + 1 := by omega); (try have : W.heap.size < w1.heap.size := by omega); (try have : W.heap.size < w1.heap.size + 1 := by omega); (try have : W.heap.size < w1.heap.size + 1 + 1 := by omega); (try have : W.heap.size < w1.heap.size + 1 + 1 + 1 := by omega); (try have : wr.heap.size < w1.heap.size := by omega); (try have : wr.heap.size < w1.heap.size + 1 := by omega); (try have : wr.heap.size < w1.heap.size + 1 + 1 := by omega); (try have : wr.heap.size < w1.heap.size + 1 + 1 + 1 := by omega); (try have : wr.heap.size + 1 < w1.heap.size := by omega); (try have : wr.heap.size + 1 < w1.heap.size + 1 := by omega); (try have : wr.heap.size + 1 < w1.heap.size + 1 + 1 := by omega); (try have : wr.heap.size + 1 < w1.heap.size + 1 + 1 + 1 := by omega)))
          go_returns
          exact ⟨rfl, by (repeat' (first | (with_reducible exact Below.refl _ _) | (with_reducible assumption) | (with_reducible refine Below.alloc ?_ ?_ _) | (with_reducible refine Below.drew ?_) | (with_reducible refine Below.stepG ?_ (by assumption) ?_) | (with_reducible refine Below.setCell ?_ ?_ _) | omega | (dsimp only; omega) | (simp; done) | (simp; omega)))⟩
        · rw [decide_eq_false hc] at O1
          have HN2 : Hid ((l.take (j + 1)).any (hitR n k wide) = false) := by
            show (l.take (j + 1)).any (hitR n k wide) = false
            rw [HT.out, List.any_append, HN.out]
            simp [hitR, hc]
          clear hc
          by_cases hk2 : r.k ≤ wide
          · by_cases hc2 : cov false n k r.n r.k
            · rw [decide_eq_true hc2] at O2
              have HF := Lib.hid (show (l.take (j + 1)).filter (somR n k wide) = (l.take j).filter (somR n k wide) ++ [r] by
                rw [HT.out, List.filter_append]
                congr 1
                simp [somR, hin1, hin2, hk2, hc2])
              clear hc2
              generalize hsm : (l.take j).filter (somR n k wide) = SM at *
              have hsl : SM.length ≤ 100 := by
                rw [← hsm]
                exact Nat.le_trans (List.length_filter_le _ _) (Nat.le_trans (List.length_take_le _ _) (by omega))
              clear hsm
              go_wp2_with (first | ((with_reducible refine (O1.out _).mono ?_); rintro e w1 ⟨rfl, hb1⟩; (repeat (with_reducible (replace hb1 := Below.undrew hb1))); obtain ⟨hc1, hf1⟩ := bcell hb1; have hz1 := hb1.size; (repeat (first | rw [World.size_alloc] at hz1 | rw [World.size_drew] at hz1 | rw [World.size_setCell] at hz1)); (try have : B < w1.heap.size := by omega); (try have : B < w1.heap.size + 1 := by omega); (try have : B < w1.heap.size + 1 + 1 := by omega); (try have : B < w1.heap.size + 1 + 1 + 1 := by omega); (try have : w.heap.size < w1.heap.size := by omega); (try have : w.heap.size < w1.heap.size + 1 := by omega); (try have : w.heap.size < w1.heap.size + 1 + 1 := by omega); (try have : w.heap.size < w1.heap.size + 1 + 1 + 1 := by omega); (try have : W.heap.size < w1.heap.size := by omega); (try have : W.heap.size < w1.heap.size + 1 := by omega); (try have : W.heap.size < w1.heap.size + 1 + 1 := by omega); (try have : W.heap.size < w1.heap.size + 1 + 1 + 1 := by omega); (try have : wr.heap.size < w1.heap.size := by omega); (try have : wr.heap.size < w1.heap.size + 1 := by omega); (try have : wr.heap.size < w1.heap.size + 1 + 1 := by omega); (try have : wr.heap.size < w1.heap.size + 1 + 1 + 1 := by omega); (try have : wr.heap.size + 1 < w1.heap.size := by omega); (try have : wr.heap.size + 1 < w1.heap.size + 1 := by omega); (try have : wr.heap.size + 1 < w1.heap.size + 1 + 1 := by omega); (try have : wr.heap.size + 1 < w1.heap.size + 1 + 1 + 1 := by omega)) | ((with_reducible refine (O2.out _).mono ?_); rintro e w2 ⟨rfl, hb2⟩; (repeat (with_reducible (replace hb2 := Below.undrew hb2))); obtain ⟨hc2, hf2⟩ := bcell hb2; have hz2 := hb2.size; (repeat (first | rw [World.size_alloc] at hz2 | rw [World.size_drew] at hz2 | rw [World.size_setCell] at hz2)); (try have : B < w2.heap.size := by omega); (try have : B < w2.heap.size + 1 := by omega); (try have : B < w2.heap.size + 1 + 1 := by omega); (try have : B < w2.heap.size + 1 + 1 + 1 := by omega); (try have : w.heap.size < w2.heap.size := by omega); (try have : w.heap.size < w2.heap.size + 1 := by omega); (try have : w.heap.size < w2.heap.size + 1 + 1 := by omega); (try have : w.heap.size < w2.heap.size + 1 + 1 + 1 := by omega); (try have : W.heap.size < w2.heap.size := by omega); (try have : W.heap.size < w2.heap.size + 1 := by omega); (try have : W.heap.size < w2.heap.size + 1 + 1 := by omega); (try have : W.heap.size < w2.heap.size + 1 + 1 + 1 := by omega); (try have : wr.heap.size < w2.heap.size := by omega); (try have : wr.heap.size < w2.heap.size + 1 := by omega); (try have : wr.heap.size < w2.heap.size + 1 + 1 := by omega); (try have : wr.heap.size < w2.heap.size + 1 + 1 + 1 := by omega); (try have : wr.heap.size + 1 < w2.heap.size := by omega); (try have : wr.heap.size + 1 < w2.heap.size + 1 := by omega); (try have : wr.heap.size + 1 < w2.heap.size + 1 + 1 := by omega); (try have : wr.heap.size + 1 < w2.heap.size + 1 + 1 + 1 := by omega); (try have : w1.heap.size < w2.heap.size := by omega); (try have : w1.heap.size < w2.heap.size + 1 := by omega); (try have : w1.heap.size < w2.heap.size + 1 + 1 := by omega); (try have : w1.heap.size < w2.heap.size + 1 + 1 + 1 := by omega)) | (at_builtin; refine stop_at ?_; intro G hG))
              rw [← hG.out]; clear hG G
              refine wpList_append_any rfl _ _ 34 46 7 56 _ rfl eiRule W.heap.size _ ((SM).map ruleCells) rfl (by ((repeat (first | (with_reducible refine Own.alloc ?_ _) | (with_reducible refine Own.dr ?_))); refine Own.below ?_ hb2; (repeat (first | (with_reducible refine Own.alloc ?_ _) | (with_reducible refine Own.dr ?_))); refine Own.below ?_ hb1; (repeat (first | (with_reducible refine Own.alloc ?_ _) | (with_reducible refine Own.dr ?_))); exact HO.out)) _ (([r]).map ruleCells) rfl (sl_rule r (by simp)) (by intro c hc; obtain ⟨r, _, rfl⟩ := List.mem_map.1 hc; exact ruleCells_one r) (by skip; first | omega | (simp; omega)) (by decide) (by first | omega | (simp; done) | (simp; omega)) ?_
              intro v4 w4 hown4 hb4
              rw [← List.map_append] at hown4
              obtain ⟨xs4, hxs4⟩ : ∃ x : List RuleD, x = (SM) ++ ([r]) := ⟨_, rfl⟩
              rw [← hxs4] at hown4
              have hl4 : xs4.length = (SM).length + ([r]).length := by rw [hxs4, List.length_append]
              have HX4 := Lib.hid hxs4
              clear hxs4
              have HL4 := Lib.hid hl4
              clear hl4
              obtain ⟨a4, cap4, rfl⟩ := hown4.shape
              rw [List.length_map] at hown4 ⊢
              have HO4 := Lib.hid hown4
              clear hown4
              obtain ⟨hc4, hf4⟩ := bcellB hb4; have hz4 := hb4.size; (repeat (first | rw [World.size_alloc] at hz4 | rw [World.size_drew] at hz4 | rw [World.size_setCell] at hz4)); (try have : B < w4.heap.size := by omega); (try have : B < w4.heap.size + 1 := by omega); (try have : B < w4.heap.size + 1 + 1 := by omega); (try have : B < w4.heap.size + 1 + 1 + 1 := by omega); (try have : w.heap.size < w4.heap.size := by omega); (try have : w.heap.size < w4.heap.size + 1 := by omega); (try have : w.heap.size < w4.heap.size + 1 + 1 := by omega); (try have : w.heap.size < w4.heap.size + 1 + 1 + 1 := by omega); (try have : W.heap.size < w4.heap.size := by omega); (try have : W.heap.size < w4.heap.size + 1 := by omega); (try have : W.heap.size < w4.heap.size + 1 + 1 := by omega); (try have : W.heap.size < w4.heap.size + 1 + 1 + 1 := by omega); (try have : wr.heap.size < w4.heap.size := by omega); (try have : wr.heap.size < w4.heap.size + 1 := by omega); (try have : wr.heap.size < w4.heap.size + 1 + 1 := by omega); (try have : wr.heap.size < w4.heap.size + 1 + 1 + 1 := by omega); (try have : wr.heap.size + 1 < w4.heap.size := by omega); (try have : wr.heap.size + 1 < w4.heap.size + 1 := by omega); (try have : wr.heap.size + 1 < w4.heap.size + 1 + 1 := by omega); (try have : wr.heap.size + 1 < w4.heap.size + 1 + 1 + 1 := by omega); (try have : w1.heap.size < w4.heap.size := by omega); (try have : w1.heap.size < w4.heap.size + 1 := by omega); (try have : w1.heap.size < w4.heap.size + 1 + 1 := by omega); (try have : w1.heap.size < w4.heap.size + 1 + 1 + 1 := by omega); (try have : w2.heap.size < w4.heap.size := by omega); (try have : w2.heap.size < w4.heap.size + 1 := by omega); (try have : w2.heap.size < w4.heap.size + 1 + 1 := by omega); (try have : w2.heap.size < w4.heap.size + 1 + 1 + 1 := by omega); (try have : w3.heap.size < w4.heap.size := by omega); (try have : w3.heap.size < w4.heap.size + 1 := by omega); (try have : w3.heap.size < w4.heap.size + 1 + 1 := by omega); (try have : w3.heap.size < w4.heap.size + 1 + 1 + 1 := by omega)
              have HO5 : Hid (Own w4 W.heap.size 46 7 (.slice a4 xs4.length cap4) (((l.take (j + 1)).filter (somR n k wide)).map ruleCells)) := by
                rw [HF.out, ← HX4.out]; exact HO4
              clear HO HF HO4 HX4
              go_wp2
              go_roundw
              case rel => exact ⟨j + 1, by omega, by go_num, HN2, HO5, by (repeat' (first | (with_reducible exact Below.refl _ _) | (with_reducible assumption) | (with_reducible refine Below.alloc ?_ ?_ _) | (with_reducible refine Below.drew ?_) | (with_reducible refine Below.stepG ?_ (by assumption) ?_) | (with_reducible refine Below.setCell ?_ ?_ _) | omega | (dsimp only; omega) | (simp; done) | (simp; omega)))⟩
              case measure => simp [intOf]; omega
            · rw [decide_eq_false hc2] at O2
              have HF := Lib.hid (show (l.take (j + 1)).filter (somR n k wide) = (l.take j).filter (somR n k wide) by
                rw [HT.out, List.filter_append]
                simp [somR, hc2])
              clear hc2
              have HO2 := HO.out
              rw [← HF.out] at HO2
              have HO3 := Lib.hid HO2
              clear HO HF HO2
              go_wp2_with (first | ((with_reducible refine (O1.out _).mono ?_); rintro e w1 ⟨rfl, hb1⟩; (repeat (with_reducible (replace hb1 := Below.undrew hb1))); obtain ⟨hc1, hf1⟩ := bcell hb1; have hz1 := hb1.size; (repeat (first | rw [World.size_alloc] at hz1 | rw [World.size_drew] at hz1 | rw [World.size_setCell] at hz1)); (try have : B < w1.heap.size := by omega); (try have : B < w1.heap.size + 1 := by omega); (try have : B < w1.heap.size + 1 + 1 := by omega); (try have : B < w1.heap.size + 1 + 1 + 1 := by omega); (try have : w.heap.size < w1.heap.size := by omega); (try have : w.heap.size < w1.heap.size + 1 := by omega); (try have : w.heap.size < w1.heap.size + 1 + 1 := by omega); (try have : w.heap.size < w1.heap.size + 1 + 1 + 1 := by omega); (try have : W.heap.size < w1.heap.size := by omega); (try have : W.heap.size < w1.heap.size + 1 := by omega); (try have : W.heap.size < w1.heap.size + 1 + 1 := by omega); (try have : W.heap.size < w1.heap.size + 1 + 1 + 1 := by omega); (try have : wr.heap.size < w1.heap.size := by omega); (try have : wr.heap.size < w1.heap.size + 1 := by omega); (try have : wr.heap.size < w1.heap.size + 1 + 1 := by omega); (try have : wr.heap.size < w1.heap.size + 1 + 1 + 1 := by omega); (try have : wr.heap.size + 1 < w1.heap.size := by omega); (try have : wr.heap.size + 1 < w1.heap.size + 1 := by omega); (try have : wr.heap.size + 1 < w1.heap.size + 1 + 1 := by omega); (try have : wr.heap.size + 1 < w1.heap.size + 1 + 1 + 1 := by omega)) | ((with_reducible refine (O2.out _).mono ?_); rintro e w2 ⟨rfl, hb2⟩; (repeat (with_reducible (replace hb2 := Below.undrew hb2))); obtain ⟨hc2, hf2⟩ := bcell hb2; have hz2 := hb2.size; (repeat (first | rw [World.size_alloc] at hz2 | rw [World.size_drew] at hz2 | rw [World.size_setCell] at hz2)); (try have : B < w2.heap.size := by omega); (try have : B < w2.heap.size + 1 := by omega); (try have : B < w2.heap.size + 1 + 1 := by omega); (try have : B < w2.heap.size + 1 + 1 + 1 := by omega); (try have : w.heap.size < w2.heap.size := by omega); (try have : w.heap.size < w2.heap.size + 1 := by omega); (try have : w.heap.size < w2.heap.size + 1 + 1 := by omega); (try have : w.heap.size < w2.heap.size + 1 + 1 + 1 := by omega); (try have : W.heap.size < w2.heap.size := by omega); (try have : W.heap.size < w2.heap.size + 1 := by omega); (try have : W.heap.size < w2.heap.size + 1 + 1 := by omega); (try have : W.heap.size < w2.heap.size + 1 + 1 + 1 := by omega); (try have : wr.heap.size < w2.heap.size := by omega); (try have : wr.heap.size < w2.heap.size + 1 := by omega); (try have : wr.heap.size < w2.heap.size + 1 + 1 := by omega); (try have : wr.heap.size < w2.heap.size + 1 + 1 + 1 := by omega); (try have : wr.heap.size + 1 < w2.heap.size := by omega); (try have : wr.heap.size + 1 < w2.heap.size + 1 := by omega); (try have : wr.heap.size + 1 < w2.heap.size + 1 + 1 := by omega); (try have : wr.heap.size + 1 < w2.heap.size + 1 + 1 + 1 := by omega); (try have : w1.heap.size < w2.heap.size := by omega); (try have : w1.heap.size < w2.heap.size + 1 := by omega); (try have : w1.heap.size < w2.heap.size + 1 + 1 := by omega); (try have : w1.heap.size < w2.heap.size + 1 + 1 + 1 := by omega)))
              go_roundw
              case rel => exact ⟨j + 1, by omega, by go_num, HN2, Lib.hid (by ((repeat (first | (with_reducible refine Own.alloc ?_ _) | (with_reducible refine Own.dr ?_))); refine Own.below ?_ hb2; (repeat (first | (with_reducible refine Own.alloc ?_ _) | (with_reducible refine Own.dr ?_))); refine Own.below ?_ hb1; (repeat (first | (with_reducible refine Own.alloc ?_ _) | (with_reducible refine Own.dr ?_))); exact HO3.out)), by (repeat' (first | (with_reducible exact Below.refl _ _) | (with_reducible assumption) | (with_reducible refine Below.alloc ?_ ?_ _) | (with_reducible refine Below.drew ?_) | (with_reducible refine Below.stepG ?_ (by assumption) ?_) | (with_reducible refine Below.setCell ?_ ?_ _) | omega | (dsimp only; omega) | (simp; done) | (simp; omega)))⟩
              case measure => simp [intOf]; omega
          · have HF := Lib.hid (show (l.take (j + 1)).filter (somR n k wide) = (l.take j).filter (somR n k wide) by
              rw [HT.out, List.filter_append]
              simp [somR, hk2])
            have hk2' : wide < r.k := by omega
            clear hk2
            have HO2 := HO.out
            rw [← HF.out] at HO2
            have HO3 := Lib.hid HO2
            clear HO HF HO2
            go_wp2_with (first | ((with_reducible refine (O1.out _).mono ?_); rintro e w1 ⟨rfl, hb1⟩; (repeat (with_reducible (replace hb1 := Below.undrew hb1))); obtain ⟨hc1, hf1⟩ := bcell hb1; have hz1 := hb1.size; (repeat (first | rw [World.size_alloc] at hz1 | rw [World.size_drew] at hz1 | rw [World.size_setCell] at hz1)); (try have : B < w1.heap.size := by omega); (try have : B < w1.heap.size + 1 := by omega); (try have : B < w1.heap.size + 1 + 1 := by omega); (try have : B < w1.heap.size + 1 + 1 + 1 := by omega); (try have : w.heap.size < w1.heap.size := by omega); (try have : w.heap.size < w1.heap.size + 1 := by omega); (try have : w.heap.size < w1.heap.size + 1 + 1 := by omega); (try have : w.heap.size < w1.heap.size + 1 + 1 + 1 := by omega); (try have : W.heap.size < w1.heap.size := by omega); (try have : W.heap.size < w1.heap.size + 1 := by omega); (try have : W.heap.size < w1.heap.size + 1 + 1 := by omega); (try have : W.heap.size < w1.heap.size + 1 + 1 + 1 := by omega); (try have : wr.heap.size < w1.heap.size := by omega); (try have : wr.heap.size < w1.heap.size + 1 := by omega); (try have : wr.heap.size < w1.heap.size + 1 + 1 := by omega); (try have : wr.heap.size < w1.heap.size + 1 + 1 + 1 := by omega); (try have : wr.heap.size + 1 < w1.heap.size := by omega); (try have : wr.heap.size + 1 < w1.heap.size + 1 := by omega); (try have : wr.heap.size + 1 < w1.heap.size + 1 + 1 := by omega); (try have : wr.heap.size + 1 < w1.heap.size + 1 + 1 + 1 := by omega)) | ((with_reducible refine (O2.out _).mono ?_); rintro e w2 ⟨rfl, hb2⟩; (repeat (with_reducible (replace hb2 := Below.undrew hb2))); obtain ⟨hc2, hf2⟩ := bcell hb2; have hz2 := hb2.size; (repeat (first | rw [World.size_alloc] at hz2 | rw [World.size_drew] at hz2 | rw [World.size_setCell] at hz2)); (try have : B < w2.heap.size := by omega); (try have : B < w2.heap.size + 1 := by omega); (try have : B < w2.heap.size + 1 + 1 := by omega); (try have : B < w2.heap.size + 1 + 1 + 1 := by omega); (try have : w.heap.size < w2.heap.size := by omega); (try have : w.heap.size < w2.heap.size + 1 := by omega); (try have : w.heap.size < w2.heap.size + 1 + 1 := by omega); (try have : w.heap.size < w2.heap.size + 1 + 1 + 1 := by omega); (try have : W.heap.size < w2.heap.size := by omega); (try have : W.heap.size < w2.heap.size + 1 := by omega); (try have : W.heap.size < w2.heap.size + 1 + 1 := by omega); (try have : W.heap.size < w2.heap.size + 1 + 1 + 1 := by omega); (try have : wr.heap.size < w2.heap.size := by omega); (try have : wr.heap.size < w2.heap.size + 1 := by omega); (try have : wr.heap.size < w2.heap.size + 1 + 1 := by omega); (try have : wr.heap.size < w2.heap.size + 1 + 1 + 1 := by omega); (try have : wr.heap.size + 1 < w2.heap.size := by omega); (try have : wr.heap.size + 1 < w2.heap.size + 1 := by omega); (try have : wr.heap.size + 1 < w2.heap.size + 1 + 1 := by omega); (try have : wr.heap.size + 1 < w2.heap.size + 1 + 1 + 1 := by omega); (try have : w1.heap.size < w2.heap.size := by omega); (try have : w1.heap.size < w2.heap.size + 1 := by omega); (try have : w1.heap.size < w2.heap.size + 1 + 1 := by omega); (try have : w1.heap.size < w2.heap.size + 1 + 1 + 1 := by omega)))
            go_roundw
            case rel => exact ⟨j + 1, by omega, by go_num, HN2, Lib.hid (by ((repeat (first | (with_reducible refine Own.alloc ?_ _) | (with_reducible refine Own.dr ?_))); refine Own.below ?_ hb1; (repeat (first | (with_reducible refine Own.alloc ?_ _) | (with_reducible refine Own.dr ?_))); exact HO3.out)), by (repeat' (first | (with_reducible exact Below.refl _ _) | (with_reducible assumption) | (with_reducible refine Below.alloc ?_ ?_ _) | (with_reducible refine Below.drew ?_) | (with_reducible refine Below.stepG ?_ (by assumption) ?_) | (with_reducible refine Below.setCell ?_ ?_ _) | omega | (dsimp only; omega) | (simp; done) | (simp; omega)))⟩
            case measure => simp [intOf]; omega
      · have HN2 : Hid ((l.take (j + 1)).any (hitR n k wide) = false) := by
          show (l.take (j + 1)).any (hitR n k wide) = false
          rw [HT.out, List.any_append, HN.out]
          simp [hitR]
          omega
        have HF := Lib.hid (show (l.take (j + 1)).filter (somR n k wide) = (l.take j).filter (somR n k wide) by
          rw [HT.out, List.filter_append]
          have : ¬ (somR n k wide r = true) := by unfold somR; simp only [Bool.and_eq_true, decide_eq_true_eq]; intro h; exact hin ⟨h.1.1.1, h.1.1.2⟩
          simp [this])
        by_cases hlo : wide < r.least
        · have hlo2 : decide ((wide : Int) < r.least) = true := by (first | omega | (simp; done) | (simp; omega))
          clear hin
          have HO2 := HO.out
          rw [← HF.out] at HO2
          have HO3 := Lib.hid HO2
          clear HO HF HO2
          go_wp2_with (first | ((with_reducible refine (O1.out _).mono ?_); rintro e w1 ⟨rfl, hb1⟩; (repeat (with_reducible (replace hb1 := Below.undrew hb1))); obtain ⟨hc1, hf1⟩ := bcell hb1; have hz1 := hb1.size; (repeat (first | rw [World.size_alloc] at hz1 | rw [World.size_drew] at hz1 | rw [World.size_setCell] at hz1)); (try have : B < w1.heap.size := by omega); (try have : B < w1.heap.size + 1 := by omega); (try have : B < w1.heap.size + 1 + 1 := by omega); (try have : B < w1.heap.size + 1 + 1 + 1 := by omega); (try have : w.heap.size < w1.heap.size := by omega); (try have : w.heap.size < w1.heap.size + 1 := by omega); (try have : w.heap.size < w1.heap.size + 1 + 1 := by omega); (try have : w.heap.size < w1.heap.size + 1 + 1 + 1 := by omega); (try have : W.heap.size < w1.heap.size := by omega); (try have : W.heap.size < w1.heap.size + 1 := by omega); (try have : W.heap.size < w1.heap.size + 1 + 1 := by omega); (try have : W.heap.size < w1.heap.size + 1 + 1 + 1 := by omega); (try have : wr.heap.size < w1.heap.size := by omega); (try have : wr.heap.size < w1.heap.size + 1 := by omega); (try have : wr.heap.size < w1.heap.size + 1 + 1 := by omega); (try have : wr.heap.size < w1.heap.size + 1 + 1 + 1 := by omega); (try have : wr.heap.size + 1 < w1.heap.size := by omega); (try have : wr.heap.size + 1 < w1.heap.size + 1 := by omega); (try have : wr.heap.size + 1 < w1.heap.size + 1 + 1 := by omega); (try have : wr.heap.size + 1 < w1.heap.size + 1 + 1 + 1 := by omega)) | ((with_reducible refine (O2.out _).mono ?_); rintro e w2 ⟨rfl, hb2⟩; (repeat (with_reducible (replace hb2 := Below.undrew hb2))); obtain ⟨hc2, hf2⟩ := bcell hb2; have hz2 := hb2.size; (repeat (first | rw [World.size_alloc] at hz2 | rw [World.size_drew] at hz2 | rw [World.size_setCell] at hz2)); (try have : B < w2.heap.size := by omega); (try have : B < w2.heap.size + 1 := by omega); (try have : B < w2.heap.size + 1 + 1 := by omega); (try have : B < w2.heap.size + 1 + 1 + 1 := by omega); (try have : w.heap.size < w2.heap.size := by omega); (try have : w.heap.size < w2.heap.size + 1 := by omega); (try have : w.heap.size < w2.heap.size + 1 + 1 := by omega); (try have : w.heap.size < w2.heap.size + 1 + 1 + 1 := by omega); (try have : W.heap.size < w2.heap.size := by omega); (try have : W.heap.size < w2.heap.size + 1 := by omega); (try have : W.heap.size < w2.heap.size + 1 + 1 := by omega); (try have : W.heap.size < w2.heap.size + 1 + 1 + 1 := by omega); (try have : wr.heap.size < w2.heap.size := by omega); (try have : wr.heap.size < w2.heap.size + 1 := by omega); (try have : wr.heap.size < w2.heap.size + 1 + 1 := by omega); (try have : wr.heap.size < w2.heap.size + 1 + 1 + 1 := by omega); (try have : wr.heap.size + 1 < w2.heap.size := by omega); (try have : wr.heap.size + 1 < w2.heap.size + 1 := by omega); (try have : wr.heap.size + 1 < w2.heap.size + 1 + 1 := by omega); (try have : wr.heap.size + 1 < w2.heap.size + 1 + 1 + 1 := by omega); (try have : w1.heap.size < w2.heap.size := by omega); (try have : w1.heap.size < w2.heap.size + 1 := by omega); (try have : w1.heap.size < w2.heap.size + 1 + 1 := by omega); (try have : w1.heap.size < w2.heap.size + 1 + 1 + 1 := by omega)))
          go_roundw
          case rel => exact ⟨j + 1, by omega, by go_num, HN2, Lib.hid (by ((repeat (first | (with_reducible refine Own.alloc ?_ _) | (with_reducible refine Own.dr ?_))); exact HO3.out)), by (repeat' (first | (with_reducible exact Below.refl _ _) | (with_reducible assumption) | (with_reducible refine Below.alloc ?_ ?_ _) | (with_reducible refine Below.drew ?_) | (with_reducible refine Below.stepG ?_ (by assumption) ?_) | (with_reducible refine Below.setCell ?_ ?_ _) | omega | (dsimp only; omega) | (simp; done) | (simp; omega)))⟩
          case measure => simp [intOf]; omega
        · have hhi2 : r.most < wide := by omega
          clear hin
          have HO2 := HO.out
          rw [← HF.out] at HO2
          have HO3 := Lib.hid HO2
          clear HO HF HO2
          go_wp2_with (first | ((with_reducible refine (O1.out _).mono ?_); rintro e w1 ⟨rfl, hb1⟩; (repeat (with_reducible (replace hb1 := Below.undrew hb1))); obtain ⟨hc1, hf1⟩ := bcell hb1; have hz1 := hb1.size; (repeat (first | rw [World.size_alloc] at hz1 | rw [World.size_drew] at hz1 | rw [World.size_setCell] at hz1)); (try have : B < w1.heap.size := by omega); (try have : B < w1.heap.size + 1 := by omega); (try have : B < w1.heap.size + 1 + 1 := by omega); (try have : B < w1.heap.size + 1 + 1 + 1 := by omega); (try have : w.heap.size < w1.heap.size := by omega); (try have : w.heap.size < w1.heap.size + 1 := by omega); (try have : w.heap.size < w1.heap.size + 1 + 1 := by omega); (try have : w.heap.size < w1.heap.size + 1 + 1 + 1 := by omega); (try have : W.heap.size < w1.heap.size := by omega); (try have : W.heap.size < w1.heap.size + 1 := by omega); (try have : W.heap.size < w1.heap.size + 1 + 1 := by omega); (try have : W.heap.size < w1.heap.size + 1 + 1 + 1 := by omega); (try have : wr.heap.size < w1.heap.size := by omega); (try have : wr.heap.size < w1.heap.size + 1 := by omega); (try have : wr.heap.size < w1.heap.size + 1 + 1 := by omega); (try have : wr.heap.size < w1.heap.size + 1 + 1 + 1 := by omega); (try have : wr.heap.size + 1 < w1.heap.size := by omega); (try have : wr.heap.size + 1 < w1.heap.size + 1 := by omega); (try have : wr.heap.size + 1 < w1.heap.size + 1 + 1 := by omega); (try have : wr.heap.size + 1 < w1.heap.size + 1 + 1 + 1 := by omega)) | ((with_reducible refine (O2.out _).mono ?_); rintro e w2 ⟨rfl, hb2⟩; (repeat (with_reducible (replace hb2 := Below.undrew hb2))); obtain ⟨hc2, hf2⟩ := bcell hb2; have hz2 := hb2.size; (repeat (first | rw [World.size_alloc] at hz2 | rw [World.size_drew] at hz2 | rw [World.size_setCell] at hz2)); (try have : B < w2.heap.size := by omega); (try have : B < w2.heap.size + 1 := by omega); (try have : B < w2.heap.size + 1 + 1 := by omega); (try have : B < w2.heap.size + 1 + 1 + 1 := by omega); (try have : w.heap.size < w2.heap.size := by omega); (try have : w.heap.size < w2.heap.size + 1 := by omega); (try have : w.heap.size < w2.heap.size + 1 + 1 := by omega); (try have : w.heap.size < w2.heap.size + 1 + 1 + 1 := by omega); (try have : W.heap.size < w2.heap.size := by omega); (try have : W.heap.size < w2.heap.size + 1 := by omega); (try have : W.heap.size < w2.heap.size + 1 + 1 := by omega); (try have : W.heap.size < w2.heap.size + 1 + 1 + 1 := by omega); (try have : wr.heap.size < w2.heap.size := by omega); (try have : wr.heap.size < w2.heap.size + 1 := by omega); (try have : wr.heap.size < w2.heap.size + 1 + 1 := by omega); (try have : wr.heap.size < w2.heap.size + 1 + 1 + 1 := by omega); (try have : wr.heap.size + 1 < w2.heap.size := by omega); (try have : wr.heap.size + 1 < w2.heap.size + 1 := by omega); (try have : wr.heap.size + 1 < w2.heap.size + 1 + 1 := by omega); (try have : wr.heap.size + 1 < w2.heap.size + 1 + 1 + 1 := by omega); (try have : w1.heap.size < w2.heap.size := by omega); (try have : w1.heap.size < w2.heap.size + 1 := by omega); (try have : w1.heap.size < w2.heap.size + 1 + 1 := by omega); (try have : w1.heap.size < w2.heap.size + 1 + 1 + 1 := by omega)))
          go_roundw
          case rel => exact ⟨j + 1, by omega, by go_num, HN2, Lib.hid (by ((repeat (first | (with_reducible refine Own.alloc ?_ _) | (with_reducible refine Own.dr ?_))); exact HO3.out)), by (repeat' (first | (with_reducible exact Below.refl _ _) | (with_reducible assumption) | (with_reducible refine Below.alloc ?_ ?_ _) | (with_reducible refine Below.drew ?_) | (with_reducible refine Below.stepG ?_ (by assumption) ?_) | (with_reducible refine Below.setCell ?_ ?_ _) | omega | (dsimp only; omega) | (simp; done) | (simp; omega)))⟩
          case measure => simp [intOf]; omega
    · obtain rfl : j = l.length := by omega
      have HN2 := HN.out
      have HO2 := HO.out
      rw [List.take_length] at HN2 HO2
      have hu : freeF (f + 1) l n k wide = R := HR.out
      unfold freeF at hu
      rw [if_neg (by rw [HN2]; simp)] at hu
      have SL := fun h => some_lt (n := n) (k := k) (wide := wide) HOK.out HP.out HN2 h
      have hoks : ∀ q ∈ l.filter (somR n k wide), RuleD.ok q := fun q hq => HOK.out q (List.mem_filter.1 hq).1
      have hsl : (l.filter (somR n k wide)).length ≤ 100 := Nat.le_trans (List.length_filter_le _ _) hlen
      generalize l.filter (somR n k wide) = SM at *
      obtain ⟨a2, cap2, hv, hc2, hc3⟩ := HO2.sl.shape
      rw [List.length_map] at hv hc2
      subst hv
      by_cases hs : SM = []
      · subst hs
        rw [if_pos rfl] at hu
        subst hu
        clear HO HN HN2 HO2 SL
        go_wp2
        go_returns
        exact ⟨rfl, by (repeat' (first | (with_reducible exact Below.refl _ _) | (with_reducible assumption) | (with_reducible refine Below.alloc ?_ ?_ _) | (with_reducible refine Below.drew ?_) | (with_reducible refine Below.stepG ?_ (by assumption) ?_) | (with_reducible refine Below.setCell ?_ ?_ _) | omega | (dsimp only; omega) | (simp; done) | (simp; omega)))⟩
      · have hlt2 := SL hs
        rw [if_neg hs] at hu
        have hs0 : ((SM.length : Int) == 0) = false := by
          have := List.length_pos_iff.2 hs
          rw [beq_eq_false_iff_ne]; omega
        have hk32 : k < 32 := by omega
        have hvp := half_vp HP.out (show k < wd false from hk32)
        have L := Lib.hid (fun w => half_low false n k w (by omega))
        have U := Lib.hid (fun w => half_high false n k w HP.out hk32)
        have C0 := Lib.hid (fun a cap w hs => IH.out SM a cap n (k + 1) w hs hsl hoks hvp.1 (by omega) hw (by omega))
        have C1 := Lib.hid (fun a cap w hs => IH.out SM a cap (halfN 32 n k 1) (k + 1) w hs hsl hoks hvp.2 (by omega) hw (by omega))
        have HO3 := Lib.hid HO2
        generalize freeF f SM n (k + 1) wide = x at *
        generalize freeF f SM (halfN 32 n k 1) (k + 1) wide = y at *
        have HU := Lib.hid hu
        clear HO HN HN2 HO2 SL hvp hoks hu hs
        rw [show wd false = 32 from rfl] at U
        go_wp2_with fail
        refine (L.out _).mono ?_; rintro e w1 ⟨rfl, hb1⟩; (repeat (with_reducible (replace hb1 := Below.undrew hb1))); obtain ⟨hc1, hf1⟩ := bcell hb1; have hz1 := hb1.size; (repeat (first | rw [World.size_alloc] at hz1 | rw [World.size_drew] at hz1 | rw [World.size_setCell] at hz1)); (try have : B < w1.heap.size := by omega); (try have : B < w1.heap.size + 1 := by omega); (try have : B < w1.heap.size + 1 + 1 := by omega); (try have : B < w1.heap.size + 1 + 1 + 1 := by omega); (try have : w.heap.size < w1.heap.size := by omega); (try have : w.heap.size < w1.heap.size + 1 := by omega); (try have : w.heap.size < w1.heap.size + 1 + 1 := by omega); (try have : w.heap.size < w1.heap.size + 1 + 1 + 1 := by omega); (try have : W.heap.size < w1.heap.size := by omega); (try have : W.heap.size < w1.heap.size + 1 := by omega); (try have : W.heap.size < w1.heap.size + 1 + 1 := by omega); (try have : W.heap.size < w1.heap.size + 1 + 1 + 1 := by omega); (try have : wr.heap.size < w1.heap.size := by omega); (try have : wr.heap.size < w1.heap.size + 1 := by omega); (try have : wr.heap.size < w1.heap.size + 1 + 1 := by omega); (try have : wr.heap.size < w1.heap.size + 1 + 1 + 1 := by omega); (try have : wr.heap.size + 1 < w1.heap.size := by omega); (try have : wr.heap.size + 1 < w1.heap.size + 1 := by omega); (try have : wr.heap.size + 1 < w1.heap.size + 1 + 1 := by omega); (try have : wr.heap.size + 1 < w1.heap.size + 1 + 1 + 1 := by omega)
        go_wp2_with fail
        refine (C0.out _ _ _ (HO3.out.sl.below (by (repeat' (first | (with_reducible exact Below.refl _ _) | (with_reducible assumption) | (with_reducible refine Below.alloc ?_ ?_ _) | (with_reducible refine Below.drew ?_) | (with_reducible refine Below.stepG ?_ (by assumption) ?_) | (with_reducible refine Below.setCell ?_ ?_ _) | omega | (dsimp only; omega) | (simp; done) | (simp; omega)))))).mono ?_; rintro e w2 ⟨rfl, hb2⟩; (repeat (with_reducible (replace hb2 := Below.undrew hb2))); obtain ⟨hc2, hf2⟩ := bcell hb2; have hz2 := hb2.size; (repeat (first | rw [World.size_alloc] at hz2 | rw [World.size_drew] at hz2 | rw [World.size_setCell] at hz2)); (try have : B < w2.heap.size := by omega); (try have : B < w2.heap.size + 1 := by omega); (try have : B < w2.heap.size + 1 + 1 := by omega); (try have : B < w2.heap.size + 1 + 1 + 1 := by omega); (try have : w.heap.size < w2.heap.size := by omega); (try have : w.heap.size < w2.heap.size + 1 := by omega); (try have : w.heap.size < w2.heap.size + 1 + 1 := by omega); (try have : w.heap.size < w2.heap.size + 1 + 1 + 1 := by omega); (try have : W.heap.size < w2.heap.size := by omega); (try have : W.heap.size < w2.heap.size + 1 := by omega); (try have : W.heap.size < w2.heap.size + 1 + 1 := by omega); (try have : W.heap.size < w2.heap.size + 1 + 1 + 1 := by omega); (try have : wr.heap.size < w2.heap.size := by omega); (try have : wr.heap.size < w2.heap.size + 1 := by omega); (try have : wr.heap.size < w2.heap.size + 1 + 1 := by omega); (try have : wr.heap.size < w2.heap.size + 1 + 1 + 1 := by omega); (try have : wr.heap.size + 1 < w2.heap.size := by omega); (try have : wr.heap.size + 1 < w2.heap.size + 1 := by omega); (try have : wr.heap.size + 1 < w2.heap.size + 1 + 1 := by omega); (try have : wr.heap.size + 1 < w2.heap.size + 1 + 1 + 1 := by omega); (try have : w1.heap.size < w2.heap.size := by omega); (try have : w1.heap.size < w2.heap.size + 1 := by omega); (try have : w1.heap.size < w2.heap.size + 1 + 1 := by omega); (try have : w1.heap.size < w2.heap.size + 1 + 1 + 1 := by omega)
        cases x
        · obtain rfl : y = R := HU.out
          go_wp2_with fail
          refine (U.out _).mono ?_; rintro e w3 ⟨rfl, hb3⟩; (repeat (with_reducible (replace hb3 := Below.undrew hb3))); obtain ⟨hc3, hf3⟩ := bcell hb3; have hz3 := hb3.size; (repeat (first | rw [World.size_alloc] at hz3 | rw [World.size_drew] at hz3 | rw [World.size_setCell] at hz3)); (try have : B < w3.heap.size := by omega); (try have : B < w3.heap.size + 1 := by omega); (try have : B < w3.heap.size + 1 + 1 := by omega); (try have : B < w3.heap.size + 1 + 1 + 1 := by omega); (try have : w.heap.size < w3.heap.size := by omega); (try have : w.heap.size < w3.heap.size + 1 := by omega); (try have : w.heap.size < w3.heap.size + 1 + 1 := by omega); (try have : w.heap.size < w3.heap.size + 1 + 1 + 1 := by omega); (try have : W.heap.size < w3.heap.size := by omega); (try have : W.heap.size < w3.heap.size + 1 := by omega); (try have : W.heap.size < w3.heap.size + 1 + 1 := by omega); (try have : W.heap.size < w3.heap.size + 1 + 1 + 1 := by omega); (try have : wr.heap.size < w3.heap.size := by omega); (try have : wr.heap.size < w3.heap.size + 1 := by omega); (try have : wr.heap.size < w3.heap.size + 1 + 1 := by omega); (try have : wr.heap.size < w3.heap.size + 1 + 1 + 1 := by omega); (try have : wr.heap.size + 1 < w3.heap.size := by omega); (try have : wr.heap.size + 1 < w3.heap.size + 1 := by omega); (try have : wr.heap.size + 1 < w3.heap.size + 1 + 1 := by omega); (try have : wr.heap.size + 1 < w3.heap.size + 1 + 1 + 1 := by omega); (try have : w1.heap.size < w3.heap.size := by omega); (try have : w1.heap.size < w3.heap.size + 1 := by omega); (try have : w1.heap.size < w3.heap.size + 1 + 1 := by omega); (try have : w1.heap.size < w3.heap.size + 1 + 1 + 1 := by omega); (try have : w2.heap.size < w3.heap.size := by omega); (try have : w2.heap.size < w3.heap.size + 1 := by omega); (try have : w2.heap.size < w3.heap.size + 1 + 1 := by omega); (try have : w2.heap.size < w3.heap.size + 1 + 1 + 1 := by omega)
          go_wp2_with fail
          refine (C1.out _ _ _ (HO3.out.sl.below (by (repeat' (first | (with_reducible exact Below.refl _ _) | (with_reducible assumption) | (with_reducible refine Below.alloc ?_ ?_ _) | (with_reducible refine Below.drew ?_) | (with_reducible refine Below.stepG ?_ (by assumption) ?_) | (with_reducible refine Below.setCell ?_ ?_ _) | omega | (dsimp only; omega) | (simp; done) | (simp; omega)))))).mono ?_; rintro e w4 ⟨rfl, hb4⟩; (repeat (with_reducible (replace hb4 := Below.undrew hb4))); obtain ⟨hc4, hf4⟩ := bcell hb4; have hz4 := hb4.size; (repeat (first | rw [World.size_alloc] at hz4 | rw [World.size_drew] at hz4 | rw [World.size_setCell] at hz4)); (try have : B < w4.heap.size := by omega); (try have : B < w4.heap.size + 1 := by omega); (try have : B < w4.heap.size + 1 + 1 := by omega); (try have : B < w4.heap.size + 1 + 1 + 1 := by omega); (try have : w.heap.size < w4.heap.size := by omega); (try have : w.heap.size < w4.heap.size + 1 := by omega); (try have : w.heap.size < w4.heap.size + 1 + 1 := by omega); (try have : w.heap.size < w4.heap.size + 1 + 1 + 1 := by omega); (try have : W.heap.size < w4.heap.size := by omega); (try have : W.heap.size < w4.heap.size + 1 := by omega); (try have : W.heap.size < w4.heap.size + 1 + 1 := by omega); (try have : W.heap.size < w4.heap.size + 1 + 1 + 1 := by omega); (try have : wr.heap.size < w4.heap.size := by omega); (try have : wr.heap.size < w4.heap.size + 1 := by omega); (try have : wr.heap.size < w4.heap.size + 1 + 1 := by omega); (try have : wr.heap.size < w4.heap.size + 1 + 1 + 1 := by omega); (try have : wr.heap.size + 1 < w4.heap.size := by omega); (try have : wr.heap.size + 1 < w4.heap.size + 1 := by omega); (try have : wr.heap.size + 1 < w4.heap.size + 1 + 1 := by omega); (try have : wr.heap.size + 1 < w4.heap.size + 1 + 1 + 1 := by omega); (try have : w1.heap.size < w4.heap.size := by omega); (try have : w1.heap.size < w4.heap.size + 1 := by omega); (try have : w1.heap.size < w4.heap.size + 1 + 1 := by omega); (try have : w1.heap.size < w4.heap.size + 1 + 1 + 1 := by omega); (try have : w2.heap.size < w4.heap.size := by omega); (try have : w2.heap.size < w4.heap.size + 1 := by omega); (try have : w2.heap.size < w4.heap.size + 1 + 1 := by omega); (try have : w2.heap.size < w4.heap.size + 1 + 1 + 1 := by omega); (try have : w3.heap.size < w4.heap.size := by omega); (try have : w3.heap.size < w4.heap.size + 1 := by omega); (try have : w3.heap.size < w4.heap.size + 1 + 1 := by omega); (try have : w3.heap.size < w4.heap.size + 1 + 1 + 1 := by omega)
          go_wp2
          go_returns
          exact ⟨rfl, by (repeat' (first | (with_reducible exact Below.refl _ _) | (with_reducible assumption) | (with_reducible refine Below.alloc ?_ ?_ _) | (with_reducible refine Below.drew ?_) | (with_reducible refine Below.stepG ?_ (by assumption) ?_) | (with_reducible refine Below.setCell ?_ ?_ _) | omega | (dsimp only; omega) | (simp; done) | (simp; omega)))⟩
        · obtain rfl : true = R := HU.out
          go_wp2
          go_returns
          exact ⟨rfl, by (repeat' (first | (with_reducible exact Below.refl _ _) | (with_reducible assumption) | (with_reducible refine Below.alloc ?_ ?_ _) | (with_reducible refine Below.drew ?_) | (with_reducible refine Below.stepG ?_ (by assumption) ?_) | (with_reducible refine Below.setCell ?_ ?_ _) | omega | (dsimp only; omega) | (simp; done) | (simp; omega)))⟩

theorem free_says (wide : Nat) : ∀ f, FreeSays f wide
  | 0 => fun _ _ _ _ _ _ _ _ _ _ _ _ h => absurd h (Nat.not_lt_zero _)
  | f + 1 => free_step f wide (Lib.hid (free_says wide f))
end Go.Proofs.Ytlcacocecdnpnaa
