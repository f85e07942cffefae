
/- RulesTurned: the walk. -/
import Derived.Test.YtlcacocecdnpnaaJust
set_option linter.unusedVariables false
namespace Go.Proofs.Ytlcacocecdnpnaa
open Go.RowKit Go.Sort Wc Wk

def RuleD.turned (r : RuleD) : RuleD := { r with yes := !r.yes }

theorem RuleD.turned_ok {r : RuleD} (h : r.ok) : r.turned.ok := h
theorem pass_turned (rs : List RuleD) (n k : Nat) : passI (rs.map RuleD.turned) n k = passI rs n k ∧
    ((passI rs n k = -1 ∧ passY rs n k = false ∧ passY (rs.map RuleD.turned) n k = false) ∨ ∃ m : Nat, passI rs n k = m ∧ passY (rs.map RuleD.turned) n k = !passY rs n k) := by
  have e : (rs.map RuleD.turned).findIdx? (fun r => decide (r.fits n k)) = rs.findIdx? (fun r => decide (r.fits n k)) := by
    rw [List.findIdx?_map]; rfl
  unfold passI passY
  rw [e]
  cases h : rs.findIdx? (fun r => decide (r.fits n k)) with
  | none => exact ⟨rfl, .inl ⟨rfl, rfl, rfl⟩⟩
  | some i =>
    obtain ⟨hi, _, _⟩ := List.findIdx?_eq_some_iff_getElem.1 h
    refine ⟨rfl, .inr ⟨i, rfl, ?_⟩⟩
    simp [RuleD.turned, List.getElem?_eq_getElem hi]


set_option maxRecDepth 100000 in
set_option maxHeartbeats 4000000 in
theorem rulesTurned_walk (a : Option Addr) (len cap : Nat) (zs : List Int) (q : Int) (w : World) (h : IsRow .i64 w a len cap zs) (hq : -9223372036854775808 ≤ q ∧ q ≤ 9223372036854775807) :
    Calls Try.prog 7 #[.slice a len cap, .int .i64 q] w fun e w' => e = .returned (.bool true) ∧ Below w.heap.size w w' := by
  go_enter Try.func7, Try.ntmps7
  go_wp2_with fail
  refine (rules_any a len cap zs 20 _ h (by omega)).mono ?_
  rintro e w1 ⟨v, rs, rfl, HO, hok, hlen, hb1⟩; (repeat (with_reducible (replace hb1 := Below.undrew hb1))); obtain ⟨hc1, hf1⟩ := bcell hb1; have hz1 := hb1.size; (repeat (first | rw [World.size_alloc] at hz1 | rw [World.size_drew] at hz1 | rw [World.size_setCell] at hz1)); (try have : w.heap.size < w1.heap.size := by omega); (try have : w.heap.size < w1.heap.size + 1 := by omega); (try have : w.heap.size < w1.heap.size + 1 + 1 := by omega); (try have : w.heap.size < w1.heap.size + 1 + 1 + 1 := by omega)
  go_wp2_with fail
  refine (pres_one _ q _ (by simp) hq).mono ?_
  rintro e w2 ⟨g2, c2, rfl, hg2, hl2, e0, e1, e2, e3, hb2⟩; (repeat (with_reducible (replace hb2 := Below.undrew hb2))); obtain ⟨hc2, hf2⟩ := bcell hb2; have hz2 := hb2.size; (repeat (first | rw [World.size_alloc] at hz2 | rw [World.size_drew] at hz2 | rw [World.size_setCell] at hz2)); (try have : w.heap.size < w2.heap.size := by omega); (try have : w.heap.size < w2.heap.size + 1 := by omega); (try have : w.heap.size < w2.heap.size + 1 + 1 := by omega); (try have : w.heap.size < w2.heap.size + 1 + 1 + 1 := by omega); (try have : w1.heap.size < w2.heap.size := by omega); (try have : w1.heap.size < w2.heap.size + 1 := by omega); (try have : w1.heap.size < w2.heap.size + 1 + 1 := by omega); (try have : w1.heap.size < w2.heap.size + 1 + 1 + 1 := by omega); (try have : w1.heap.size + 1 < w2.heap.size := by omega); (try have : w1.heap.size + 1 < w2.heap.size + 1 := by omega); (try have : w1.heap.size + 1 < w2.heap.size + 1 + 1 := by omega); (try have : w1.heap.size + 1 < w2.heap.size + 1 + 1 + 1 := by omega)
  obtain ⟨a1, cap1, rfl⟩ := HO.shape
  rw [List.length_map] at HO ⊢
  go_wp2_with fail
  have HN := Lib.hid (⟨rfl, rfl⟩ : presN q = presN q ∧ presK q = presK q)
  have hvq := pres_vp q
  generalize presN q = N at *
  generalize presK q = K at *
  have F0 : (w2.alloc (Obj.cells #[.bool false, .int .u64 (hiOf false N), .int .u64 (loOf N), .int .i64 K] 40)).cell? ⟨w2.heap.size, 0, none⟩ = some (.bool false) := by simp
  have F1 : (w2.alloc (Obj.cells #[.bool false, .int .u64 (hiOf false N), .int .u64 (loOf N), .int .i64 K] 40)).cell? ⟨w2.heap.size, 1, none⟩ = some (.int .u64 (hiOf false N)) := by simp
  have F2 : (w2.alloc (Obj.cells #[.bool false, .int .u64 (hiOf false N), .int .u64 (loOf N), .int .i64 K] 40)).cell? ⟨w2.heap.size, 2, none⟩ = some (.int .u64 (loOf N)) := by simp
  have F3 : (w2.alloc (Obj.cells #[.bool false, .int .u64 (hiOf false N), .int .u64 (loOf N), .int .i64 K] 40)).cell? ⟨w2.heap.size, 3, none⟩ = some (.int .i64 K) := by simp
  have FS : w2.heap.size < (w2.alloc (Obj.cells #[.bool false, .int .u64 (hiOf false N), .int .u64 (loOf N), .int .i64 K] 40)).heap.size := by simp
  have FB : Below w.heap.size w (w2.alloc (Obj.cells #[.bool false, .int .u64 (hiOf false N), .int .u64 (loOf N), .int .i64 K] 40)) := by (repeat' (first | (with_reducible exact Below.refl _ _) | (with_reducible assumption) | (with_reducible refine Below.al ?_ _) | (with_reducible refine Below.dr ?_) | (with_reducible refine Below.step ?_ (by assumption)) | (with_reducible refine Below.set ?_ ?_ _) | omega | (dsimp only; omega) | (simp; done) | (simp; omega)))
  have FO := HO.sl.below (w' := w2.alloc (Obj.cells #[.bool false, .int .u64 (hiOf false N), .int .u64 (loOf N), .int .i64 K] 40)) (by (repeat' (first | (with_reducible exact Below.refl _ _) | (with_reducible assumption) | (with_reducible refine Below.al ?_ _) | (with_reducible refine Below.dr ?_) | (with_reducible refine Below.step ?_ (by assumption)) | (with_reducible refine Below.set ?_ ?_ _) | omega | (dsimp only; omega) | (simp; done) | (simp; omega))))
  generalize w2.alloc (Obj.cells #[.bool false, .int .u64 (hiOf false N), .int .u64 (loOf N), .int .i64 K] 40) = W at *
  generalize w2.heap.size = B at *
  clear hb2 hc2 hf2 hz2 e0 e1 e2 e3 hl2 hg2 hb1 hc1 hf1 hz1 HO
  go_loopw [7, 8] (fun v i wr => ∃ j : Nat, j ≤ rs.length ∧ i = .int .i64 j ∧ Own wr W.heap.size 46 7 v (((rs.take j).map RuleD.turned).map ruleCells) ∧ Below W.heap.size W wr) (fun _ i _ => rs.length - (intOf i).toNat)
  case atStart => exact ⟨0, Nat.zero_le _, rfl, Own.nil _ _ _ _, Below.refl _ _⟩
  case round =>
    obtain ⟨j, hj, rfl, hown, hbr⟩ := hrel
    have hzr := hbr.size
    by_cases hlt : j < rs.length
    · obtain ⟨r, hr⟩ : ∃ r, rs[j]? = some r := ⟨_, List.getElem?_eq_getElem hlt⟩
      obtain ⟨b, off, rfl, hb, d0, d1, d2, d3, d4, d5, d6⟩ := Sl.rule FO hbr hr
      have HR := Lib.hid hr
      clear hr
      generalize hts : (rs.take j).map RuleD.turned = ts at hown
      have htl : ts.length = j := by rw [← hts]; simp; omega
      have HT := Lib.hid hts
      have HL := Lib.hid htl
      have HW := Lib.hid hown
      clear hts htl hown
      go_wp2_with (at_builtin; refine wpList_append_rows rfl _ _ 34 46 7 56 _ rfl eiRule W.heap.size _ (ts.map ruleCells) rfl (by ((repeat (first | (with_reducible refine Own.alloc ?_ _) | (with_reducible refine Own.dr ?_))); exact HW.out)) _ _ rfl (sl_new (c := ruleCells r.turned) (by simp) rfl) (by intro c hc; simp at hc; subst hc; exact ruleCells_one _) (by have := HL.out; simp; omega) (by decide) (by simp; omega) (by simp) ?_; intro v' w5 hown' hgr hb5)
      have hown2 : Own w5 W.heap.size 46 7 v' (((rs.take (j + 1)).map RuleD.turned).map ruleCells) := by
        rw [List.take_add_one, HR.out, List.map_append, HT.out]
        simpa using hown'
      have hb6 : Below W.heap.size W w5 := by
        refine Below.trans ?_ hb5
        (repeat' (first | (with_reducible exact Below.refl _ _) | (with_reducible assumption) | (with_reducible refine Below.al ?_ _) | (with_reducible refine Below.dr ?_) | (with_reducible refine Below.step ?_ (by assumption)) | (with_reducible refine Below.set ?_ ?_ _) | omega | (dsimp only; omega) | (simp; done) | (simp; omega)))
      clear hown' hgr hb5
      go_roundw
      case rel => exact ⟨j + 1, by omega, by go_num, hown2, hb6⟩
      case measure => simp [intOf]; omega
    · obtain rfl : j = rs.length := by omega
      obtain ⟨hcr, hfr⟩ := bcell hbr
      go_wp2_with fail
      rw [List.take_length] at hown
      obtain ⟨a2, cap2, rfl⟩ := hown.shape
      rw [List.length_map] at hown ⊢
      have L1 : (rs.map RuleD.turned).length = rs.length := by simp
      have hokt : ∀ q ∈ rs.map RuleD.turned, RuleD.ok q := by
        intro q hq
        obtain ⟨r, hr, rfl⟩ := List.mem_map.1 hq
        exact RuleD.turned_ok (hok r hr)
      have C1 := passed_any a1 cap1 rs N K wr (FO.below (w' := wr) hbr) (by omega) hok hvq
      have C2 := fun w' hb' => passed_any a2 cap2 (rs.map RuleD.turned) N K w' (hown.sl.below hb') (by omega) hokt hvq
      have hb0 : Below w.heap.size w wr := FB.trans (hbr.mono FB.size)
      have hpt := pass_turned rs N K
      rw [hpt.1] at C2
      simp only [List.length_map] at C2
      generalize passY rs N K = y at *
      generalize passY (rs.map RuleD.turned) N K = y' at *
      generalize passI rs N K = i at *
      have K1 := Lib.hid C1
      have K2 := Lib.hid C2
      have hsz0 := hb0.size
      have hBr : B < wr.heap.size := by omega
      have G0 := (hcr B 0 FS).trans F0
      have G1 := (hcr B 1 FS).trans F1
      have G2 := (hcr B 2 FS).trans F2
      have G3 := (hcr B 3 FS).trans F3
      clear F0 F1 F2 F3 hcr hfr
      clear C1 C2 hokt FO FB hown hok L1
      rcases hpt.2 with ⟨rfl, rfl, rfl⟩ | ⟨m, rfl, rfl⟩
      · clear hpt
        refine (K1.out).mono ?_; rintro e w3 ⟨rfl, hb3⟩; (repeat (with_reducible (replace hb3 := Below.undrew hb3))); obtain ⟨hc3, hf3⟩ := bcell hb3; have hz3 := hb3.size; (repeat (first | rw [World.size_alloc] at hz3 | rw [World.size_drew] at hz3 | rw [World.size_setCell] at hz3)); (try have : w.heap.size < w3.heap.size := by omega); (try have : w.heap.size < w3.heap.size + 1 := by omega); (try have : w.heap.size < w3.heap.size + 1 + 1 := by omega); (try have : w.heap.size < w3.heap.size + 1 + 1 + 1 := by omega); (try have : w1.heap.size < w3.heap.size := by omega); (try have : w1.heap.size < w3.heap.size + 1 := by omega); (try have : w1.heap.size < w3.heap.size + 1 + 1 := by omega); (try have : w1.heap.size < w3.heap.size + 1 + 1 + 1 := by omega); (try have : w1.heap.size + 1 < w3.heap.size := by omega); (try have : w1.heap.size + 1 < w3.heap.size + 1 := by omega); (try have : w1.heap.size + 1 < w3.heap.size + 1 + 1 := by omega); (try have : w1.heap.size + 1 < w3.heap.size + 1 + 1 + 1 := by omega); (try have : w2.heap.size < w3.heap.size := by omega); (try have : w2.heap.size < w3.heap.size + 1 := by omega); (try have : w2.heap.size < w3.heap.size + 1 + 1 := by omega); (try have : w2.heap.size < w3.heap.size + 1 + 1 + 1 := by omega); (try have : w2.heap.size + 1 < w3.heap.size := by omega); (try have : w2.heap.size + 1 < w3.heap.size + 1 := by omega); (try have : w2.heap.size + 1 < w3.heap.size + 1 + 1 := by omega); (try have : w2.heap.size + 1 < w3.heap.size + 1 + 1 + 1 := by omega); (try have : wr.heap.size < w3.heap.size := by omega); (try have : wr.heap.size < w3.heap.size + 1 := by omega); (try have : wr.heap.size < w3.heap.size + 1 + 1 := by omega); (try have : wr.heap.size < w3.heap.size + 1 + 1 + 1 := by omega)
        go_wp2_with fail
        refine (K2.out _ (by (repeat' (first | (with_reducible exact Below.refl _ _) | (with_reducible assumption) | (with_reducible refine Below.al ?_ _) | (with_reducible refine Below.dr ?_) | (with_reducible refine Below.step ?_ (by assumption)) | (with_reducible refine Below.set ?_ ?_ _) | omega | (dsimp only; omega) | (simp; done) | (simp; omega))))).mono ?_; rintro e w4 ⟨rfl, hb4⟩; (repeat (with_reducible (replace hb4 := Below.undrew hb4))); obtain ⟨hc4, hf4⟩ := bcell hb4; have hz4 := hb4.size; (repeat (first | rw [World.size_alloc] at hz4 | rw [World.size_drew] at hz4 | rw [World.size_setCell] at hz4)); (try have : w.heap.size < w4.heap.size := by omega); (try have : w.heap.size < w4.heap.size + 1 := by omega); (try have : w.heap.size < w4.heap.size + 1 + 1 := by omega); (try have : w.heap.size < w4.heap.size + 1 + 1 + 1 := by omega); (try have : w1.heap.size < w4.heap.size := by omega); (try have : w1.heap.size < w4.heap.size + 1 := by omega); (try have : w1.heap.size < w4.heap.size + 1 + 1 := by omega); (try have : w1.heap.size < w4.heap.size + 1 + 1 + 1 := by omega); (try have : w1.heap.size + 1 < w4.heap.size := by omega); (try have : w1.heap.size + 1 < w4.heap.size + 1 := by omega); (try have : w1.heap.size + 1 < w4.heap.size + 1 + 1 := by omega); (try have : w1.heap.size + 1 < w4.heap.size + 1 + 1 + 1 := by omega); (try have : w2.heap.size < w4.heap.size := by omega); (try have : w2.heap.size < w4.heap.size + 1 := by omega); (try have : w2.heap.size < w4.heap.size + 1 + 1 := by omega); (try have : w2.heap.size < w4.heap.size + 1 + 1 + 1 := by omega); (try have : w2.heap.size + 1 < w4.heap.size := by omega); (try have : w2.heap.size + 1 < w4.heap.size + 1 := by omega); (try have : w2.heap.size + 1 < w4.heap.size + 1 + 1 := by omega); (try have : w2.heap.size + 1 < w4.heap.size + 1 + 1 + 1 := by omega); (try have : wr.heap.size < w4.heap.size := by omega); (try have : wr.heap.size < w4.heap.size + 1 := by omega); (try have : wr.heap.size < w4.heap.size + 1 + 1 := by omega); (try have : wr.heap.size < w4.heap.size + 1 + 1 + 1 := by omega); (try have : w3.heap.size < w4.heap.size := by omega); (try have : w3.heap.size < w4.heap.size + 1 := by omega); (try have : w3.heap.size < w4.heap.size + 1 + 1 := by omega); (try have : w3.heap.size < w4.heap.size + 1 + 1 + 1 := by omega)
        go_wp2
        all_goals go_returns
        all_goals exact ⟨rfl, by (repeat' (first | (with_reducible exact Below.refl _ _) | (with_reducible assumption) | (with_reducible refine Below.al ?_ _) | (with_reducible refine Below.dr ?_) | (with_reducible refine Below.step ?_ (by assumption)) | (with_reducible refine Below.set ?_ ?_ _) | omega | (dsimp only; omega) | (simp; done) | (simp; omega)))⟩
      · clear hpt
        cases y
        all_goals refine (K1.out).mono ?_; rintro e w3 ⟨rfl, hb3⟩; (repeat (with_reducible (replace hb3 := Below.undrew hb3))); obtain ⟨hc3, hf3⟩ := bcell hb3; have hz3 := hb3.size; (repeat (first | rw [World.size_alloc] at hz3 | rw [World.size_drew] at hz3 | rw [World.size_setCell] at hz3)); (try have : w.heap.size < w3.heap.size := by omega); (try have : w.heap.size < w3.heap.size + 1 := by omega); (try have : w.heap.size < w3.heap.size + 1 + 1 := by omega); (try have : w.heap.size < w3.heap.size + 1 + 1 + 1 := by omega); (try have : w1.heap.size < w3.heap.size := by omega); (try have : w1.heap.size < w3.heap.size + 1 := by omega); (try have : w1.heap.size < w3.heap.size + 1 + 1 := by omega); (try have : w1.heap.size < w3.heap.size + 1 + 1 + 1 := by omega); (try have : w1.heap.size + 1 < w3.heap.size := by omega); (try have : w1.heap.size + 1 < w3.heap.size + 1 := by omega); (try have : w1.heap.size + 1 < w3.heap.size + 1 + 1 := by omega); (try have : w1.heap.size + 1 < w3.heap.size + 1 + 1 + 1 := by omega); (try have : w2.heap.size < w3.heap.size := by omega); (try have : w2.heap.size < w3.heap.size + 1 := by omega); (try have : w2.heap.size < w3.heap.size + 1 + 1 := by omega); (try have : w2.heap.size < w3.heap.size + 1 + 1 + 1 := by omega); (try have : w2.heap.size + 1 < w3.heap.size := by omega); (try have : w2.heap.size + 1 < w3.heap.size + 1 := by omega); (try have : w2.heap.size + 1 < w3.heap.size + 1 + 1 := by omega); (try have : w2.heap.size + 1 < w3.heap.size + 1 + 1 + 1 := by omega); (try have : wr.heap.size < w3.heap.size := by omega); (try have : wr.heap.size < w3.heap.size + 1 := by omega); (try have : wr.heap.size < w3.heap.size + 1 + 1 := by omega); (try have : wr.heap.size < w3.heap.size + 1 + 1 + 1 := by omega)
        all_goals go_wp2_with fail
        all_goals refine (K2.out _ (by (repeat' (first | (with_reducible exact Below.refl _ _) | (with_reducible assumption) | (with_reducible refine Below.al ?_ _) | (with_reducible refine Below.dr ?_) | (with_reducible refine Below.step ?_ (by assumption)) | (with_reducible refine Below.set ?_ ?_ _) | omega | (dsimp only; omega) | (simp; done) | (simp; omega))))).mono ?_; rintro e w4 ⟨rfl, hb4⟩; (repeat (with_reducible (replace hb4 := Below.undrew hb4))); obtain ⟨hc4, hf4⟩ := bcell hb4; have hz4 := hb4.size; (repeat (first | rw [World.size_alloc] at hz4 | rw [World.size_drew] at hz4 | rw [World.size_setCell] at hz4)); (try have : w.heap.size < w4.heap.size := by omega); (try have : w.heap.size < w4.heap.size + 1 := by omega); (try have : w.heap.size < w4.heap.size + 1 + 1 := by omega); (try have : w.heap.size < w4.heap.size + 1 + 1 + 1 := by omega); (try have : w1.heap.size < w4.heap.size := by omega); (try have : w1.heap.size < w4.heap.size + 1 := by omega); (try have : w1.heap.size < w4.heap.size + 1 + 1 := by omega); (try have : w1.heap.size < w4.heap.size + 1 + 1 + 1 := by omega); (try have : w1.heap.size + 1 < w4.heap.size := by omega); (try have : w1.heap.size + 1 < w4.heap.size + 1 := by omega); (try have : w1.heap.size + 1 < w4.heap.size + 1 + 1 := by omega); (try have : w1.heap.size + 1 < w4.heap.size + 1 + 1 + 1 := by omega); (try have : w2.heap.size < w4.heap.size := by omega); (try have : w2.heap.size < w4.heap.size + 1 := by omega); (try have : w2.heap.size < w4.heap.size + 1 + 1 := by omega); (try have : w2.heap.size < w4.heap.size + 1 + 1 + 1 := by omega); (try have : w2.heap.size + 1 < w4.heap.size := by omega); (try have : w2.heap.size + 1 < w4.heap.size + 1 := by omega); (try have : w2.heap.size + 1 < w4.heap.size + 1 + 1 := by omega); (try have : w2.heap.size + 1 < w4.heap.size + 1 + 1 + 1 := by omega); (try have : wr.heap.size < w4.heap.size := by omega); (try have : wr.heap.size < w4.heap.size + 1 := by omega); (try have : wr.heap.size < w4.heap.size + 1 + 1 := by omega); (try have : wr.heap.size < w4.heap.size + 1 + 1 + 1 := by omega); (try have : w3.heap.size < w4.heap.size := by omega); (try have : w3.heap.size < w4.heap.size + 1 := by omega); (try have : w3.heap.size < w4.heap.size + 1 + 1 := by omega); (try have : w3.heap.size < w4.heap.size + 1 + 1 + 1 := by omega)
        all_goals go_wp2
        all_goals go_returns
        all_goals exact ⟨rfl, by (repeat' (first | (with_reducible exact Below.refl _ _) | (with_reducible assumption) | (with_reducible refine Below.al ?_ _) | (with_reducible refine Below.dr ?_) | (with_reducible refine Below.step ?_ (by assumption)) | (with_reducible refine Below.set ?_ ?_ _) | omega | (dsimp only; omega) | (simp; done) | (simp; omega)))⟩
end Go.Proofs.Ytlcacocecdnpnaa
