
/- RulesTwice: the walk. -/
import Derived.Test.YtlcacocecdnpnaaRIdle
import Derived.Deep.DeepCutAuto
set_option linter.unusedVariables false
namespace Go.Proofs.Ytlcacocecdnpnaa
open Go.RowKit Go.Sort Wc Wk

def allR : RuleD := ⟨true, 0, 0, 0, 32⟩
theorem allR_ok : allR.ok := ⟨vp_zero, by decide, by decide, by decide⟩
theorem allR_fits {m wide : Nat} (h : VP false m wide) : allR.fits m wide := by
  refine ⟨Nat.zero_le _, h.2.1, ?_⟩
  show cov false 0 0 m wide
  rw [cov_iff vp_zero]
  refine ⟨Nat.zero_le _, ?_⟩
  have h1 : m < 2 ^ 32 := h.1
  show m / 2 ^ (32 - 0) = 0 / 2 ^ (32 - 0)
  rw [Nat.div_eq_of_lt (by simpa using h1)]
theorem sl_allR {W : World} {b : Nat} (hb : b = W.heap.size) : Sl (W.alloc (.cells #[.bool true, .bool false, .int .u64 0, .int .u64 0, .int .i64 0, .int .i64 0, .int .i64 32] 46)) 7 (.slice (some ⟨b, 0, none⟩) 1 1) ([allR].map ruleCells) :=
  sl_new (c := ruleCells allR) hb rfl
theorem pass_all {l : List RuleD} {m wide : Nat} (h : VP false m wide) :
    (∃ i : Nat, passI l m wide = i ∧ passI (l ++ [allR]) m wide = i ∧ passY (l ++ [allR]) m wide = passY l m wide) ∨ (passI l m wide = -1 ∧ passI (l ++ [allR]) m wide = l.length ∧ passY (l ++ [allR]) m wide = true) := by
  rcases pass_cases l m wide with ⟨h1, h2, h3⟩ | ⟨i, r, hr, h1, h2, h3, h4⟩
  · refine .inr ⟨h1, ?_, ?_⟩
    · refine passI_at (r := allR) (by simp) (allR_fits h) (fun j hj q hq => ?_)
      rw [List.getElem?_append_left hj] at hq
      exact h3 q (List.mem_of_getElem? hq)
    · rw [passY_snoc, if_neg]
      · rw [decide_eq_true (allR_fits h)]; rfl
      · intro ha
        obtain ⟨q, hq, hf⟩ := any_fit.1 ha
        exact h3 q hq hf
  · have hi := (List.getElem?_eq_some_iff.1 hr).1
    refine .inl ⟨i, h1, ?_, ?_⟩
    · refine passI_at (r := r) (by rw [List.getElem?_append_left hi]; exact hr) h3 (fun j hj q hq => ?_)
      rw [List.getElem?_append_left (by omega)] at hq
      exact h4 j hj q hq
    · rw [passY_snoc, if_pos (any_fit.2 ⟨r, List.mem_of_getElem? hr, h3⟩)]
theorem twice_idle {l : List RuleD} (hl : ∀ q ∈ l, RuleD.ok q) {r : RuleD} (hr : r ∈ l) : idles (l ++ [r]) (l ++ [r]).length = idles (l ++ [r]) l.length ++ [l.length] := by
  have hok : ∀ q ∈ l ++ [r], RuleD.ok q := by
    intro q hq
    rcases List.mem_append.1 hq with h | h
    · exact hl q h
    · simp at h; subst h; exact hl q hr
  have hat : (l ++ [r])[l.length]? = some r := by simp
  have : isIdle (l ++ [r]) l.length = true := (isIdle_iff hok hat).2 (fun m wide hm hf => ⟨r, by simpa using hr, hf⟩)
  rw [List.length_append, List.length_singleton, idles_succ, if_pos this]


set_option maxRecDepth 100000 in
set_option maxHeartbeats 4000000 in
theorem rulesTwice_walk (a : Option Addr) (len cap : Nat) (zs : List Int) (at_ p : Int) (w : World) (h : IsRow .i64 w a len cap zs) (ha : -9223372036854775808 ≤ at_ ∧ at_ ≤ 9223372036854775807) (hp : -9223372036854775808 ≤ p ∧ p ≤ 9223372036854775807) :
    Calls Try.prog 14 #[.slice a len cap, .int .i64 at_, .int .i64 p] w fun e w' => e = .returned (.bool true) ∧ Below w.heap.size w w' := by
  go_enter Try.func14, Try.ntmps14
  go_wp2_with fail
  refine (rules_any a len cap zs 20 _ h (by omega)).mono ?_
  rintro e w1 ⟨v, rs, rfl, HO, hok, hlen, hb1⟩; (repeat (with_reducible (replace hb1 := Below.undrew hb1))); obtain ⟨hc1, hf1⟩ := bcell hb1; have hz1 := hb1.size; (repeat (first | rw [World.size_alloc] at hz1 | rw [World.size_drew] at hz1 | rw [World.size_setCell] at hz1)); (try have : w.heap.size < w1.heap.size := by omega); (try have : w.heap.size < w1.heap.size + 1 := by omega); (try have : w.heap.size < w1.heap.size + 1 + 1 := by omega); (try have : w.heap.size < w1.heap.size + 1 + 1 + 1 := by omega)
  obtain ⟨a1, cap1, rfl, hcap1, hcap2⟩ := HO.sl.shape
  rw [List.length_map] at HO hcap1 ⊢
  have HOK := Lib.hid hok
  have HS := Lib.hid HO.sl
  clear hok h HO
  go_wp2_with fail
  refine (pres_one _ p _ (by simp) hp).mono ?_
  rintro e w2 ⟨g2, c2, rfl, hg2, hl2, e0, e1, e2, e3, hb2⟩; (repeat (with_reducible (replace hb2 := Below.undrew hb2))); obtain ⟨hc2, hf2⟩ := bcell hb2; have hz2 := hb2.size; (repeat (first | rw [World.size_alloc] at hz2 | rw [World.size_drew] at hz2 | rw [World.size_setCell] at hz2)); (try have : w.heap.size < w2.heap.size := by omega); (try have : w.heap.size < w2.heap.size + 1 := by omega); (try have : w.heap.size < w2.heap.size + 1 + 1 := by omega); (try have : w.heap.size < w2.heap.size + 1 + 1 + 1 := by omega); (try have : w1.heap.size < w2.heap.size := by omega); (try have : w1.heap.size < w2.heap.size + 1 := by omega); (try have : w1.heap.size < w2.heap.size + 1 + 1 := by omega); (try have : w1.heap.size < w2.heap.size + 1 + 1 + 1 := by omega); (try have : w1.heap.size + 1 < w2.heap.size := by omega); (try have : w1.heap.size + 1 < w2.heap.size + 1 := by omega); (try have : w1.heap.size + 1 < w2.heap.size + 1 + 1 := by omega); (try have : w1.heap.size + 1 < w2.heap.size + 1 + 1 + 1 := by omega)
  have hvq := pres_vp p
  generalize presN p = N at *
  generalize presK p = K at *
  have HPA := pass_all (l := rs) hvq
  have C1 := Lib.hid (fun a cap w hs => passed_any a cap rs N K w hs (by omega) HOK.out hvq)
  obtain ⟨y2, hy2⟩ : ∃ y, y = passY (rs ++ [allR]) N K := ⟨_, rfl⟩
  obtain ⟨i2, hi2⟩ : ∃ i, i = passI (rs ++ [allR]) N K := ⟨_, rfl⟩
  have C2 : Hid (∀ (xs : List RuleD) (hx : xs = rs ++ [allR]) (a : Option Addr) (cap : Nat) (w : World) (hs : Sl w 7 (.slice a xs.length cap) (xs.map ruleCells)), Calls Try.prog 23 #[.slice a xs.length cap, Value.agg #[.bool false, .int .u64 (hiOf false N), .int .u64 (loOf N), .int .i64 K]] w fun e w' => e = .returned (.tuple #[.bool y2, .int .i64 i2, .bool true]) ∧ Below w.heap.size w w') := by
    intro xs hx a cap w hs
    have := passed_any a cap xs N K w hs (by rw [hx]; simp; omega) (by
      rw [hx]
      intro q hq
      rcases List.mem_append.1 hq with h | h
      · exact HOK.out q h
      · simp at h; subst h; exact allR_ok) hvq
    subst hx
    rw [← hy2, ← hi2] at this
    exact this
  rw [← hy2, ← hi2] at HPA
  have HPA := Lib.hid HPA
  clear hy2 hi2
  go_wp2_with fail
  generalize passY rs N K = y1 at *
  generalize hi1 : passI rs N K = i1 at *
  clear hi1
  refine (C1.out _ _ _ (HS.out.below (by (repeat' (first | (with_reducible exact Below.refl _ _) | (with_reducible assumption) | (with_reducible refine Below.alloc ?_ ?_ _) | (with_reducible refine Below.drew ?_) | (with_reducible refine Below.stepG ?_ (by assumption) ?_) | (with_reducible refine Below.setCell ?_ ?_ _) | omega | (dsimp only; omega) | (simp; done) | (simp; omega)))))).mono ?_; rintro e w3 ⟨rfl, hb3⟩; (repeat (with_reducible (replace hb3 := Below.undrew hb3))); obtain ⟨hc3, hf3⟩ := bcell hb3; have hz3 := hb3.size; (repeat (first | rw [World.size_alloc] at hz3 | rw [World.size_drew] at hz3 | rw [World.size_setCell] at hz3)); (try have : w.heap.size < w3.heap.size := by omega); (try have : w.heap.size < w3.heap.size + 1 := by omega); (try have : w.heap.size < w3.heap.size + 1 + 1 := by omega); (try have : w.heap.size < w3.heap.size + 1 + 1 + 1 := by omega); (try have : w1.heap.size < w3.heap.size := by omega); (try have : w1.heap.size < w3.heap.size + 1 := by omega); (try have : w1.heap.size < w3.heap.size + 1 + 1 := by omega); (try have : w1.heap.size < w3.heap.size + 1 + 1 + 1 := by omega); (try have : w1.heap.size + 1 < w3.heap.size := by omega); (try have : w1.heap.size + 1 < w3.heap.size + 1 := by omega); (try have : w1.heap.size + 1 < w3.heap.size + 1 + 1 := by omega); (try have : w1.heap.size + 1 < w3.heap.size + 1 + 1 + 1 := by omega); (try have : w2.heap.size < w3.heap.size := by omega); (try have : w2.heap.size < w3.heap.size + 1 := by omega); (try have : w2.heap.size < w3.heap.size + 1 + 1 := by omega); (try have : w2.heap.size < w3.heap.size + 1 + 1 + 1 := by omega)
  go_upto_region 4 with fail
  have F0 := hc3 w2.heap.size 0 (by simp)
  have F1 := hc3 w2.heap.size 1 (by simp)
  have F2 := hc3 w2.heap.size 2 (by simp)
  have F3 := hc3 w2.heap.size 3 (by simp)
  simp at F0 F1 F2 F3
  have HS3 := Lib.hid (HS.out.below (w' := w3) (by (repeat' (first | (with_reducible exact Below.refl _ _) | (with_reducible assumption) | (with_reducible refine Below.alloc ?_ ?_ _) | (with_reducible refine Below.drew ?_) | (with_reducible refine Below.stepG ?_ (by assumption) ?_) | (with_reducible refine Below.setCell ?_ ?_ _) | omega | (dsimp only; omega) | (simp; done) | (simp; omega)))))
  have hb0 : Below w.heap.size w w3 := by (repeat' (first | (with_reducible exact Below.refl _ _) | (with_reducible assumption) | (with_reducible refine Below.alloc ?_ ?_ _) | (with_reducible refine Below.drew ?_) | (with_reducible refine Below.stepG ?_ (by assumption) ?_) | (with_reducible refine Below.setCell ?_ ?_ _) | omega | (dsimp only; omega) | (simp; done) | (simp; omega)))
  clear hb1 hb2 hb3 hc1 hc2 hc3 hf1 hf2 hf3 HS e0 e1 e2 e3
  have hz23 : w2.heap.size < w3.heap.size := by omega
  go_cut [12, 13, 14] (fun s12 s13 s14 wx => s12 = .bool y2 ∧ s13 = .int .i64 i2 ∧ s14 = .bool true ∧ Below w3.heap.size w3 wx)
  case first =>
    go_region_law (first
      | (refine step_copy rfl (.tmp 33) 34 46 7 56 _ rfl eiRule _ _ rfl (HS3.out.below (by (repeat' (first | (with_reducible exact Below.refl _ _) | (with_reducible assumption) | (with_reducible refine Below.alloc ?_ ?_ _) | (with_reducible refine Below.drew ?_) | (with_reducible refine Below.stepG ?_ (by assumption) ?_) | (with_reducible refine Below.setCell ?_ ?_ _) | omega | (dsimp only; omega) | (simp; done) | (simp; omega))))) (by intro c hc; obtain ⟨r, _, rfl⟩ := List.mem_map.1 hc; exact ruleCells_one r) (by simp; omega) (by decide) ?_
         intro v4 w4 hown4 hb4
         have HO4 := Lib.hid hown4
         clear hown4
         (repeat (with_reducible (replace hb4 := Below.undrew hb4))); obtain ⟨hc4, hf4⟩ := bcell hb4; have hz4 := hb4.size; (repeat (first | rw [World.size_alloc] at hz4 | rw [World.size_drew] at hz4))
         have hz24 : w2.heap.size < w4.heap.size := by omega
         have G40 : w4.cell? ⟨w2.heap.size, 0, none⟩ = some (.bool false) := by rw [hc4 _ _ (by (first | omega | (simp; done) | (simp; omega)))]; first | exact F0 | (first | (go_simp; done) | (simp [*, go_sem, World.cell?_alloc_past]; done) | (simp [*, go_sem, World.cell?_alloc_past, World.cell?_setCell_far]; done))
         have G41 : w4.cell? ⟨w2.heap.size, 1, none⟩ = some (.int .u64 (hiOf false N)) := by rw [hc4 _ _ (by (first | omega | (simp; done) | (simp; omega)))]; first | exact F1 | (first | (go_simp; done) | (simp [*, go_sem, World.cell?_alloc_past]; done) | (simp [*, go_sem, World.cell?_alloc_past, World.cell?_setCell_far]; done))
         have G42 : w4.cell? ⟨w2.heap.size, 2, none⟩ = some (.int .u64 (loOf N)) := by rw [hc4 _ _ (by (first | omega | (simp; done) | (simp; omega)))]; first | exact F2 | (first | (go_simp; done) | (simp [*, go_sem, World.cell?_alloc_past]; done) | (simp [*, go_sem, World.cell?_alloc_past, World.cell?_setCell_far]; done))
         have G43 : w4.cell? ⟨w2.heap.size, 3, none⟩ = some (.int .i64 K) := by rw [hc4 _ _ (by (first | omega | (simp; done) | (simp; omega)))]; first | exact F3 | (first | (go_simp; done) | (simp [*, go_sem, World.cell?_alloc_past]; done) | (simp [*, go_sem, World.cell?_alloc_past, World.cell?_setCell_far]; done)))
      | (refine step_append_rows rfl (.tmp 34) (.tmp 36) 34 46 7 56 _ rfl eiRule _ v4 (rs.map ruleCells) rfl (by first | exact HO4.out | exact HO4.out.alloc _) _ ([allR].map ruleCells) rfl (by first | exact sl_allR (by simp) | exact (sl_allR (by simp)).below hb4) (by intro c hc; obtain ⟨r, _, rfl⟩ := List.mem_map.1 hc; exact ruleCells_one r) (by simp; omega) (by decide) (by first | omega | (simp; omega)) ?_
         intro v5 w5 hown5 hb5
         rw [← List.map_append] at hown5
         obtain ⟨xs5, hxs5⟩ : ∃ x : List RuleD, x = rs ++ [allR] := ⟨_, rfl⟩
         rw [← hxs5] at hown5
         have HX5 := Lib.hid hxs5
         clear hxs5
         obtain ⟨a5, cap5, rfl⟩ := hown5.shape
         rw [List.length_map] at hown5 ⊢
         have HO5 := Lib.hid hown5
         clear hown5
         obtain ⟨hc5, hf5⟩ := bcellB hb5; have hz5 := hb5.size; (repeat (first | rw [World.size_alloc] at hz5 | rw [World.size_drew] at hz5))
         have hz25 : w2.heap.size < w5.heap.size := by omega
         have G50 : w5.cell? ⟨w2.heap.size, 0, none⟩ = some (.bool false) := by rw [hc5 _ _ (by (first | omega | (simp; done) | (simp; omega)))]; first | exact G40 | (first | (go_simp; done) | (simp [*, go_sem, World.cell?_alloc_past]; done) | (simp [*, go_sem, World.cell?_alloc_past, World.cell?_setCell_far]; done))
         have G51 : w5.cell? ⟨w2.heap.size, 1, none⟩ = some (.int .u64 (hiOf false N)) := by rw [hc5 _ _ (by (first | omega | (simp; done) | (simp; omega)))]; first | exact G41 | (first | (go_simp; done) | (simp [*, go_sem, World.cell?_alloc_past]; done) | (simp [*, go_sem, World.cell?_alloc_past, World.cell?_setCell_far]; done))
         have G52 : w5.cell? ⟨w2.heap.size, 2, none⟩ = some (.int .u64 (loOf N)) := by rw [hc5 _ _ (by (first | omega | (simp; done) | (simp; omega)))]; first | exact G42 | (first | (go_simp; done) | (simp [*, go_sem, World.cell?_alloc_past]; done) | (simp [*, go_sem, World.cell?_alloc_past, World.cell?_setCell_far]; done))
         have G53 : w5.cell? ⟨w2.heap.size, 3, none⟩ = some (.int .i64 K) := by rw [hc5 _ _ (by (first | omega | (simp; done) | (simp; omega)))]; first | exact G43 | (first | (go_simp; done) | (simp [*, go_sem, World.cell?_alloc_past]; done) | (simp [*, go_sem, World.cell?_alloc_past, World.cell?_setCell_far]; done)))
      | (go_simp; refine (C2.out _ HX5.out _ _ _ (HO5.out.sl.below (by (repeat' (first | (with_reducible exact Below.refl _ _) | (with_reducible assumption) | (with_reducible refine Below.alloc ?_ ?_ _) | (with_reducible refine Below.drew ?_) | (with_reducible refine Below.stepG ?_ (by assumption) ?_) | (with_reducible refine Below.setCell ?_ ?_ _) | omega | (dsimp only; omega) | (simp; done) | (simp; omega)))))).mono ?_; rintro e w6 ⟨rfl, hb6⟩; (repeat (with_reducible (replace hb6 := Below.undrew hb6))); obtain ⟨hc6, hf6⟩ := bcell hb6; have hz6 := hb6.size; (repeat (first | rw [World.size_alloc] at hz6 | rw [World.size_drew] at hz6 | rw [World.size_setCell] at hz6)); (try have : w.heap.size < w6.heap.size := by omega); (try have : w.heap.size < w6.heap.size + 1 := by omega); (try have : w.heap.size < w6.heap.size + 1 + 1 := by omega); (try have : w.heap.size < w6.heap.size + 1 + 1 + 1 := by omega); (try have : w1.heap.size < w6.heap.size := by omega); (try have : w1.heap.size < w6.heap.size + 1 := by omega); (try have : w1.heap.size < w6.heap.size + 1 + 1 := by omega); (try have : w1.heap.size < w6.heap.size + 1 + 1 + 1 := by omega); (try have : w1.heap.size + 1 < w6.heap.size := by omega); (try have : w1.heap.size + 1 < w6.heap.size + 1 := by omega); (try have : w1.heap.size + 1 < w6.heap.size + 1 + 1 := by omega); (try have : w1.heap.size + 1 < w6.heap.size + 1 + 1 + 1 := by omega); (try have : w2.heap.size < w6.heap.size := by omega); (try have : w2.heap.size < w6.heap.size + 1 := by omega); (try have : w2.heap.size < w6.heap.size + 1 + 1 := by omega); (try have : w2.heap.size < w6.heap.size + 1 + 1 + 1 := by omega); (try have : w3.heap.size < w6.heap.size := by omega); (try have : w3.heap.size < w6.heap.size + 1 := by omega); (try have : w3.heap.size < w6.heap.size + 1 + 1 := by omega); (try have : w3.heap.size < w6.heap.size + 1 + 1 + 1 := by omega); (try have : w4.heap.size < w6.heap.size := by omega); (try have : w4.heap.size < w6.heap.size + 1 := by omega); (try have : w4.heap.size < w6.heap.size + 1 + 1 := by omega); (try have : w4.heap.size < w6.heap.size + 1 + 1 + 1 := by omega); (try have : w5.heap.size < w6.heap.size := by omega); (try have : w5.heap.size < w6.heap.size + 1 := by omega); (try have : w5.heap.size < w6.heap.size + 1 + 1 := by omega); (try have : w5.heap.size < w6.heap.size + 1 + 1 + 1 := by omega)))
    all_goals (go_wp2_with fail; go_simp; go_meet; exact ⟨rfl, rfl, rfl, by (repeat' (first | (with_reducible exact Below.refl _ _) | (with_reducible assumption) | (with_reducible refine Below.alloc ?_ ?_ _) | (with_reducible refine Below.drew ?_) | (with_reducible refine Below.stepG ?_ (by assumption) ?_) | (with_reducible refine Below.setCell ?_ ?_ _) | omega | (dsimp only; omega) | (simp; done) | (simp; omega)))⟩)
  case rest =>
    obtain ⟨rfl, rfl, rfl, hb6⟩ := hcut
    have hz6 := hb6.size
    have hbw : Below w.heap.size w wc := by (repeat' (first | (with_reducible exact Below.refl _ _) | (with_reducible assumption) | (with_reducible refine Below.alloc ?_ ?_ _) | (with_reducible refine Below.drew ?_) | (with_reducible refine Below.stepG ?_ (by assumption) ?_) | (with_reducible refine Below.setCell ?_ ?_ _) | omega | (dsimp only; omega) | (simp; done) | (simp; omega)))
    have HSc := Lib.hid (HS3.out.below (w' := wc) hb6)
    clear hb6 hb0 HS3 C1 C2 F0 F1 F2 F3
    by_cases h0 : rs = []
    · subst h0
      rcases HPA.out with ⟨i, rfl, rfl, rfl⟩ | ⟨rfl, rfl, rfl⟩
      all_goals go_wp2_with fail
      all_goals go_returns
      all_goals exact ⟨rfl, by (repeat' (first | (with_reducible exact Below.refl _ _) | (with_reducible assumption) | (with_reducible refine Below.alloc ?_ ?_ _) | (with_reducible refine Below.drew ?_) | (with_reducible refine Below.stepG ?_ (by assumption) ?_) | (with_reducible refine Below.setCell ?_ ?_ _) | omega | (dsimp only; omega) | (simp; done) | (simp; omega)))⟩
    · have h1 : 0 < rs.length := List.length_pos_iff.2 h0
      have hd : ((rs.length : Int) == 0) = false := by rw [beq_eq_false_iff_ne]; omega
      have p0 := Int.emod_nonneg at_ (show (rs.length : Int) ≠ 0 by omega)
      have p1 := Int.emod_lt_of_pos at_ (show (0 : Int) < rs.length by omega)
      have Q1 := Lib.hid (fun w => picked_any at_ rs.length w (by omega) (by omega))
      obtain ⟨k, hk⟩ := Int.eq_ofNat_of_zero_le p0
      rw [hk] at p1 Q1
      clear hk p0 h0
      have hkl : k < rs.length := by omega
      obtain ⟨r, hr⟩ : ∃ r, rs[k]? = some r := ⟨_, List.getElem?_eq_getElem hkl⟩
      have hmem := List.mem_of_getElem? hr
      have HR := Lib.hid hr
      have TI := Lib.hid (twice_idle HOK.out hmem)
      have TOK : Hid (∀ q ∈ rs ++ [r], RuleD.ok q) := by
        intro q hq
        rcases List.mem_append.1 hq with h | h
        · exact HOK.out q h
        · simp at h; subst h; exact HOK.out q hmem
      clear hr hmem
      obtain ⟨b, off, hab, hb, d0, d1, d2, d3, d4, d5, d6⟩ := Sl.rule HSc.out (Below.refl _ _) HR.out
      subst hab
      rcases HPA.out with ⟨i, rfl, rfl, rfl⟩ | ⟨rfl, rfl, rfl⟩
      · clear HPA
        go_wp2_with (at_builtin; refine stop_at ?_; intro G hG)
        rw [← hG.out]; clear hG G
        refine wpList_append_any rfl _ _ 34 46 7 56 _ rfl eiRule wc.heap.size _ ((([] : List RuleD)).map ruleCells) rfl (Own.nil _ _ _ _) _ ((rs).map ruleCells) rfl (HSc.out.below (by (repeat' (first | (with_reducible exact Below.refl _ _) | (with_reducible assumption) | (with_reducible refine Below.alloc ?_ ?_ _) | (with_reducible refine Below.drew ?_) | (with_reducible refine Below.stepG ?_ (by assumption) ?_) | (with_reducible refine Below.setCell ?_ ?_ _) | omega | (dsimp only; omega) | (simp; done) | (simp; omega))))) (by intro c hc; obtain ⟨r, _, rfl⟩ := List.mem_map.1 hc; exact ruleCells_one r) (by skip; first | omega | (simp; omega)) (by decide) (by first | omega | (simp; done) | (simp; omega)) ?_
        intro v7 w7 hown7 hb7
        rw [← List.map_append] at hown7
        obtain ⟨xs7, hxs7⟩ : ∃ x : List RuleD, x = (([] : List RuleD)) ++ (rs) := ⟨_, rfl⟩
        rw [← hxs7] at hown7
        have hl7 : xs7.length = (([] : List RuleD)).length + (rs).length := by rw [hxs7, List.length_append]
        have HX7 := Lib.hid hxs7
        clear hxs7
        have HL7 := Lib.hid hl7
        clear hl7
        obtain ⟨a7, cap7, rfl⟩ := hown7.shape
        rw [List.length_map] at hown7 ⊢
        have HO7 := Lib.hid hown7
        clear hown7
        obtain ⟨hc7, hf7⟩ := bcellB hb7; have hz7 := hb7.size; (repeat (first | rw [World.size_alloc] at hz7 | rw [World.size_drew] at hz7 | rw [World.size_setCell] at hz7)); (try have : w.heap.size < w7.heap.size := by omega); (try have : w.heap.size < w7.heap.size + 1 := by omega); (try have : w.heap.size < w7.heap.size + 1 + 1 := by omega); (try have : w.heap.size < w7.heap.size + 1 + 1 + 1 := by omega); (try have : w1.heap.size < w7.heap.size := by omega); (try have : w1.heap.size < w7.heap.size + 1 := by omega); (try have : w1.heap.size < w7.heap.size + 1 + 1 := by omega); (try have : w1.heap.size < w7.heap.size + 1 + 1 + 1 := by omega); (try have : w1.heap.size + 1 < w7.heap.size := by omega); (try have : w1.heap.size + 1 < w7.heap.size + 1 := by omega); (try have : w1.heap.size + 1 < w7.heap.size + 1 + 1 := by omega); (try have : w1.heap.size + 1 < w7.heap.size + 1 + 1 + 1 := by omega); (try have : w2.heap.size < w7.heap.size := by omega); (try have : w2.heap.size < w7.heap.size + 1 := by omega); (try have : w2.heap.size < w7.heap.size + 1 + 1 := by omega); (try have : w2.heap.size < w7.heap.size + 1 + 1 + 1 := by omega); (try have : w3.heap.size < w7.heap.size := by omega); (try have : w3.heap.size < w7.heap.size + 1 := by omega); (try have : w3.heap.size < w7.heap.size + 1 + 1 := by omega); (try have : w3.heap.size < w7.heap.size + 1 + 1 + 1 := by omega); (try have : w4.heap.size < w7.heap.size := by omega); (try have : w4.heap.size < w7.heap.size + 1 := by omega); (try have : w4.heap.size < w7.heap.size + 1 + 1 := by omega); (try have : w4.heap.size < w7.heap.size + 1 + 1 + 1 := by omega); (try have : w5.heap.size < w7.heap.size := by omega); (try have : w5.heap.size < w7.heap.size + 1 := by omega); (try have : w5.heap.size < w7.heap.size + 1 + 1 := by omega); (try have : w5.heap.size < w7.heap.size + 1 + 1 + 1 := by omega)
        obtain rfl : xs7 = rs := by rw [HX7.out]; rfl
        go_wp2_with (first | ((with_reducible refine (Q1.out _).mono ?_); rintro e w' ⟨rfl, rfl⟩) | (at_builtin; refine stop_at ?_; intro G hG))
        rw [← hG.out]; clear hG G
        refine wpList_append_any rfl _ _ 34 46 7 56 _ rfl eiRule wc.heap.size _ ((xs7).map ruleCells) rfl (by ((repeat (first | (with_reducible refine Own.alloc ?_ _) | (with_reducible refine Own.dr ?_))); exact HO7.out)) _ (([r]).map ruleCells) rfl (sl_rule r (by simp)) (by intro c hc; obtain ⟨r, _, rfl⟩ := List.mem_map.1 hc; exact ruleCells_one r) (by skip; first | omega | (simp; omega)) (by decide) (by first | omega | (simp; done) | (simp; omega)) ?_
        intro v8 w8 hown8 hb8
        rw [← List.map_append] at hown8
        obtain ⟨xs8, hxs8⟩ : ∃ x : List RuleD, x = (xs7) ++ ([r]) := ⟨_, rfl⟩
        rw [← hxs8] at hown8
        have hl8 : xs8.length = (xs7).length + ([r]).length := by rw [hxs8, List.length_append]
        have HX8 := Lib.hid hxs8
        clear hxs8
        have HL8 := Lib.hid hl8
        clear hl8
        obtain ⟨a8, cap8, rfl⟩ := hown8.shape
        rw [List.length_map] at hown8 ⊢
        have HO8 := Lib.hid hown8
        clear hown8
        obtain ⟨hc8, hf8⟩ := bcellB hb8; have hz8 := hb8.size; (repeat (first | rw [World.size_alloc] at hz8 | rw [World.size_drew] at hz8 | rw [World.size_setCell] at hz8)); (try have : w.heap.size < w8.heap.size := by omega); (try have : w.heap.size < w8.heap.size + 1 := by omega); (try have : w.heap.size < w8.heap.size + 1 + 1 := by omega); (try have : w.heap.size < w8.heap.size + 1 + 1 + 1 := by omega); (try have : w1.heap.size < w8.heap.size := by omega); (try have : w1.heap.size < w8.heap.size + 1 := by omega); (try have : w1.heap.size < w8.heap.size + 1 + 1 := by omega); (try have : w1.heap.size < w8.heap.size + 1 + 1 + 1 := by omega); (try have : w1.heap.size + 1 < w8.heap.size := by omega); (try have : w1.heap.size + 1 < w8.heap.size + 1 := by omega); (try have : w1.heap.size + 1 < w8.heap.size + 1 + 1 := by omega); (try have : w1.heap.size + 1 < w8.heap.size + 1 + 1 + 1 := by omega); (try have : w2.heap.size < w8.heap.size := by omega); (try have : w2.heap.size < w8.heap.size + 1 := by omega); (try have : w2.heap.size < w8.heap.size + 1 + 1 := by omega); (try have : w2.heap.size < w8.heap.size + 1 + 1 + 1 := by omega); (try have : w3.heap.size < w8.heap.size := by omega); (try have : w3.heap.size < w8.heap.size + 1 := by omega); (try have : w3.heap.size < w8.heap.size + 1 + 1 := by omega); (try have : w3.heap.size < w8.heap.size + 1 + 1 + 1 := by omega); (try have : w4.heap.size < w8.heap.size := by omega); (try have : w4.heap.size < w8.heap.size + 1 := by omega); (try have : w4.heap.size < w8.heap.size + 1 + 1 := by omega); (try have : w4.heap.size < w8.heap.size + 1 + 1 + 1 := by omega); (try have : w5.heap.size < w8.heap.size := by omega); (try have : w5.heap.size < w8.heap.size + 1 := by omega); (try have : w5.heap.size < w8.heap.size + 1 + 1 := by omega); (try have : w5.heap.size < w8.heap.size + 1 + 1 + 1 := by omega)
        have hl8 : xs8.length = xs7.length + 1 := by have := HL8.out; simpa using this
        have ID := Lib.hid (fun w hs => idle_any a8 cap8 xs8 w hs (by omega) (by rw [HX8.out]; exact TOK.out))
        rw [show idles xs8 xs8.length = idles (xs7 ++ [r]) xs7.length ++ [xs7.length] by rw [HX8.out]; exact TI.out] at ID
        have hIl := idles_len (xs7 ++ [r]) xs7.length
        generalize idles (xs7 ++ [r]) xs7.length = IL at *
        clear hl8
        go_wp2_with fail
        refine (ID.out _ (HO8.out.sl.below (by (repeat' (first | (with_reducible exact Below.refl _ _) | (with_reducible assumption) | (with_reducible refine Below.alloc ?_ ?_ _) | (with_reducible refine Below.drew ?_) | (with_reducible refine Below.stepG ?_ (by assumption) ?_) | (with_reducible refine Below.setCell ?_ ?_ _) | omega | (dsimp only; omega) | (simp; done) | (simp; omega)))))).mono ?_
        rintro e w9 ⟨v9, rfl, hown9, hb9⟩; (repeat (with_reducible (replace hb9 := Below.undrew hb9))); obtain ⟨hc9, hf9⟩ := bcell hb9; have hz9 := hb9.size; (repeat (first | rw [World.size_alloc] at hz9 | rw [World.size_drew] at hz9 | rw [World.size_setCell] at hz9)); (try have : w.heap.size < w9.heap.size := by omega); (try have : w.heap.size < w9.heap.size + 1 := by omega); (try have : w.heap.size < w9.heap.size + 1 + 1 := by omega); (try have : w.heap.size < w9.heap.size + 1 + 1 + 1 := by omega); (try have : w1.heap.size < w9.heap.size := by omega); (try have : w1.heap.size < w9.heap.size + 1 := by omega); (try have : w1.heap.size < w9.heap.size + 1 + 1 := by omega); (try have : w1.heap.size < w9.heap.size + 1 + 1 + 1 := by omega); (try have : w1.heap.size + 1 < w9.heap.size := by omega); (try have : w1.heap.size + 1 < w9.heap.size + 1 := by omega); (try have : w1.heap.size + 1 < w9.heap.size + 1 + 1 := by omega); (try have : w1.heap.size + 1 < w9.heap.size + 1 + 1 + 1 := by omega); (try have : w2.heap.size < w9.heap.size := by omega); (try have : w2.heap.size < w9.heap.size + 1 := by omega); (try have : w2.heap.size < w9.heap.size + 1 + 1 := by omega); (try have : w2.heap.size < w9.heap.size + 1 + 1 + 1 := by omega); (try have : w3.heap.size < w9.heap.size := by omega); (try have : w3.heap.size < w9.heap.size + 1 := by omega); (try have : w3.heap.size < w9.heap.size + 1 + 1 := by omega); (try have : w3.heap.size < w9.heap.size + 1 + 1 + 1 := by omega); (try have : w4.heap.size < w9.heap.size := by omega); (try have : w4.heap.size < w9.heap.size + 1 := by omega); (try have : w4.heap.size < w9.heap.size + 1 + 1 := by omega); (try have : w4.heap.size < w9.heap.size + 1 + 1 + 1 := by omega); (try have : w5.heap.size < w9.heap.size := by omega); (try have : w5.heap.size < w9.heap.size + 1 := by omega); (try have : w5.heap.size < w9.heap.size + 1 + 1 := by omega); (try have : w5.heap.size < w9.heap.size + 1 + 1 + 1 := by omega)
        obtain ⟨a9, cap9, rfl, hcap9, _⟩ := hown9.sl.shape
        rw [List.length_map] at hown9 hcap9 ⊢
        obtain ⟨bi, offi, hai, hbi, c0⟩ := Sl.nat hown9.sl (Below.refl _ _) (i := IL.length) (x := xs7.length) (by simp)
        subst hai
        have hil : (IL ++ [xs7.length]).length = IL.length + 1 := by simp
        rw [hil]
        clear hown9 hil TI TOK HX7 HX8 HL7 HL8 HO7 HO8
        go_wp2
        all_goals go_returns
        all_goals exact ⟨rfl, by (repeat' (first | (with_reducible exact Below.refl _ _) | (with_reducible assumption) | (with_reducible refine Below.alloc ?_ ?_ _) | (with_reducible refine Below.drew ?_) | (with_reducible refine Below.stepG ?_ (by assumption) ?_) | (with_reducible refine Below.setCell ?_ ?_ _) | omega | (dsimp only; omega) | (simp; done) | (simp; omega)))⟩
      · clear HPA
        go_wp2_with (at_builtin; refine stop_at ?_; intro G hG)
        rw [← hG.out]; clear hG G
        refine wpList_append_any rfl _ _ 34 46 7 56 _ rfl eiRule wc.heap.size _ ((([] : List RuleD)).map ruleCells) rfl (Own.nil _ _ _ _) _ ((rs).map ruleCells) rfl (HSc.out.below (by (repeat' (first | (with_reducible exact Below.refl _ _) | (with_reducible assumption) | (with_reducible refine Below.alloc ?_ ?_ _) | (with_reducible refine Below.drew ?_) | (with_reducible refine Below.stepG ?_ (by assumption) ?_) | (with_reducible refine Below.setCell ?_ ?_ _) | omega | (dsimp only; omega) | (simp; done) | (simp; omega))))) (by intro c hc; obtain ⟨r, _, rfl⟩ := List.mem_map.1 hc; exact ruleCells_one r) (by skip; first | omega | (simp; omega)) (by decide) (by first | omega | (simp; done) | (simp; omega)) ?_
        intro v7 w7 hown7 hb7
        rw [← List.map_append] at hown7
        obtain ⟨xs7, hxs7⟩ : ∃ x : List RuleD, x = (([] : List RuleD)) ++ (rs) := ⟨_, rfl⟩
        rw [← hxs7] at hown7
        have hl7 : xs7.length = (([] : List RuleD)).length + (rs).length := by rw [hxs7, List.length_append]
        have HX7 := Lib.hid hxs7
        clear hxs7
        have HL7 := Lib.hid hl7
        clear hl7
        obtain ⟨a7, cap7, rfl⟩ := hown7.shape
        rw [List.length_map] at hown7 ⊢
        have HO7 := Lib.hid hown7
        clear hown7
        obtain ⟨hc7, hf7⟩ := bcellB hb7; have hz7 := hb7.size; (repeat (first | rw [World.size_alloc] at hz7 | rw [World.size_drew] at hz7 | rw [World.size_setCell] at hz7)); (try have : w.heap.size < w7.heap.size := by omega); (try have : w.heap.size < w7.heap.size + 1 := by omega); (try have : w.heap.size < w7.heap.size + 1 + 1 := by omega); (try have : w.heap.size < w7.heap.size + 1 + 1 + 1 := by omega); (try have : w1.heap.size < w7.heap.size := by omega); (try have : w1.heap.size < w7.heap.size + 1 := by omega); (try have : w1.heap.size < w7.heap.size + 1 + 1 := by omega); (try have : w1.heap.size < w7.heap.size + 1 + 1 + 1 := by omega); (try have : w1.heap.size + 1 < w7.heap.size := by omega); (try have : w1.heap.size + 1 < w7.heap.size + 1 := by omega); (try have : w1.heap.size + 1 < w7.heap.size + 1 + 1 := by omega); (try have : w1.heap.size + 1 < w7.heap.size + 1 + 1 + 1 := by omega); (try have : w2.heap.size < w7.heap.size := by omega); (try have : w2.heap.size < w7.heap.size + 1 := by omega); (try have : w2.heap.size < w7.heap.size + 1 + 1 := by omega); (try have : w2.heap.size < w7.heap.size + 1 + 1 + 1 := by omega); (try have : w3.heap.size < w7.heap.size := by omega); (try have : w3.heap.size < w7.heap.size + 1 := by omega); (try have : w3.heap.size < w7.heap.size + 1 + 1 := by omega); (try have : w3.heap.size < w7.heap.size + 1 + 1 + 1 := by omega); (try have : w4.heap.size < w7.heap.size := by omega); (try have : w4.heap.size < w7.heap.size + 1 := by omega); (try have : w4.heap.size < w7.heap.size + 1 + 1 := by omega); (try have : w4.heap.size < w7.heap.size + 1 + 1 + 1 := by omega); (try have : w5.heap.size < w7.heap.size := by omega); (try have : w5.heap.size < w7.heap.size + 1 := by omega); (try have : w5.heap.size < w7.heap.size + 1 + 1 := by omega); (try have : w5.heap.size < w7.heap.size + 1 + 1 + 1 := by omega)
        obtain rfl : xs7 = rs := by rw [HX7.out]; rfl
        go_wp2_with (first | ((with_reducible refine (Q1.out _).mono ?_); rintro e w' ⟨rfl, rfl⟩) | (at_builtin; refine stop_at ?_; intro G hG))
        rw [← hG.out]; clear hG G
        refine wpList_append_any rfl _ _ 34 46 7 56 _ rfl eiRule wc.heap.size _ ((xs7).map ruleCells) rfl (by ((repeat (first | (with_reducible refine Own.alloc ?_ _) | (with_reducible refine Own.dr ?_))); exact HO7.out)) _ (([r]).map ruleCells) rfl (sl_rule r (by simp)) (by intro c hc; obtain ⟨r, _, rfl⟩ := List.mem_map.1 hc; exact ruleCells_one r) (by skip; first | omega | (simp; omega)) (by decide) (by first | omega | (simp; done) | (simp; omega)) ?_
        intro v8 w8 hown8 hb8
        rw [← List.map_append] at hown8
        obtain ⟨xs8, hxs8⟩ : ∃ x : List RuleD, x = (xs7) ++ ([r]) := ⟨_, rfl⟩
        rw [← hxs8] at hown8
        have hl8 : xs8.length = (xs7).length + ([r]).length := by rw [hxs8, List.length_append]
        have HX8 := Lib.hid hxs8
        clear hxs8
        have HL8 := Lib.hid hl8
        clear hl8
        obtain ⟨a8, cap8, rfl⟩ := hown8.shape
        rw [List.length_map] at hown8 ⊢
        have HO8 := Lib.hid hown8
        clear hown8
        obtain ⟨hc8, hf8⟩ := bcellB hb8; have hz8 := hb8.size; (repeat (first | rw [World.size_alloc] at hz8 | rw [World.size_drew] at hz8 | rw [World.size_setCell] at hz8)); (try have : w.heap.size < w8.heap.size := by omega); (try have : w.heap.size < w8.heap.size + 1 := by omega); (try have : w.heap.size < w8.heap.size + 1 + 1 := by omega); (try have : w.heap.size < w8.heap.size + 1 + 1 + 1 := by omega); (try have : w1.heap.size < w8.heap.size := by omega); (try have : w1.heap.size < w8.heap.size + 1 := by omega); (try have : w1.heap.size < w8.heap.size + 1 + 1 := by omega); (try have : w1.heap.size < w8.heap.size + 1 + 1 + 1 := by omega); (try have : w1.heap.size + 1 < w8.heap.size := by omega); (try have : w1.heap.size + 1 < w8.heap.size + 1 := by omega); (try have : w1.heap.size + 1 < w8.heap.size + 1 + 1 := by omega); (try have : w1.heap.size + 1 < w8.heap.size + 1 + 1 + 1 := by omega); (try have : w2.heap.size < w8.heap.size := by omega); (try have : w2.heap.size < w8.heap.size + 1 := by omega); (try have : w2.heap.size < w8.heap.size + 1 + 1 := by omega); (try have : w2.heap.size < w8.heap.size + 1 + 1 + 1 := by omega); (try have : w3.heap.size < w8.heap.size := by omega); (try have : w3.heap.size < w8.heap.size + 1 := by omega); (try have : w3.heap.size < w8.heap.size + 1 + 1 := by omega); (try have : w3.heap.size < w8.heap.size + 1 + 1 + 1 := by omega); (try have : w4.heap.size < w8.heap.size := by omega); (try have : w4.heap.size < w8.heap.size + 1 := by omega); (try have : w4.heap.size < w8.heap.size + 1 + 1 := by omega); (try have : w4.heap.size < w8.heap.size + 1 + 1 + 1 := by omega); (try have : w5.heap.size < w8.heap.size := by omega); (try have : w5.heap.size < w8.heap.size + 1 := by omega); (try have : w5.heap.size < w8.heap.size + 1 + 1 := by omega); (try have : w5.heap.size < w8.heap.size + 1 + 1 + 1 := by omega)
        have hl8 : xs8.length = xs7.length + 1 := by have := HL8.out; simpa using this
        have ID := Lib.hid (fun w hs => idle_any a8 cap8 xs8 w hs (by omega) (by rw [HX8.out]; exact TOK.out))
        rw [show idles xs8 xs8.length = idles (xs7 ++ [r]) xs7.length ++ [xs7.length] by rw [HX8.out]; exact TI.out] at ID
        have hIl := idles_len (xs7 ++ [r]) xs7.length
        generalize idles (xs7 ++ [r]) xs7.length = IL at *
        clear hl8
        go_wp2_with fail
        refine (ID.out _ (HO8.out.sl.below (by (repeat' (first | (with_reducible exact Below.refl _ _) | (with_reducible assumption) | (with_reducible refine Below.alloc ?_ ?_ _) | (with_reducible refine Below.drew ?_) | (with_reducible refine Below.stepG ?_ (by assumption) ?_) | (with_reducible refine Below.setCell ?_ ?_ _) | omega | (dsimp only; omega) | (simp; done) | (simp; omega)))))).mono ?_
        rintro e w9 ⟨v9, rfl, hown9, hb9⟩; (repeat (with_reducible (replace hb9 := Below.undrew hb9))); obtain ⟨hc9, hf9⟩ := bcell hb9; have hz9 := hb9.size; (repeat (first | rw [World.size_alloc] at hz9 | rw [World.size_drew] at hz9 | rw [World.size_setCell] at hz9)); (try have : w.heap.size < w9.heap.size := by omega); (try have : w.heap.size < w9.heap.size + 1 := by omega); (try have : w.heap.size < w9.heap.size + 1 + 1 := by omega); (try have : w.heap.size < w9.heap.size + 1 + 1 + 1 := by omega); (try have : w1.heap.size < w9.heap.size := by omega); (try have : w1.heap.size < w9.heap.size + 1 := by omega); (try have : w1.heap.size < w9.heap.size + 1 + 1 := by omega); (try have : w1.heap.size < w9.heap.size + 1 + 1 + 1 := by omega); (try have : w1.heap.size + 1 < w9.heap.size := by omega); (try have : w1.heap.size + 1 < w9.heap.size + 1 := by omega); (try have : w1.heap.size + 1 < w9.heap.size + 1 + 1 := by omega); (try have : w1.heap.size + 1 < w9.heap.size + 1 + 1 + 1 := by omega); (try have : w2.heap.size < w9.heap.size := by omega); (try have : w2.heap.size < w9.heap.size + 1 := by omega); (try have : w2.heap.size < w9.heap.size + 1 + 1 := by omega); (try have : w2.heap.size < w9.heap.size + 1 + 1 + 1 := by omega); (try have : w3.heap.size < w9.heap.size := by omega); (try have : w3.heap.size < w9.heap.size + 1 := by omega); (try have : w3.heap.size < w9.heap.size + 1 + 1 := by omega); (try have : w3.heap.size < w9.heap.size + 1 + 1 + 1 := by omega); (try have : w4.heap.size < w9.heap.size := by omega); (try have : w4.heap.size < w9.heap.size + 1 := by omega); (try have : w4.heap.size < w9.heap.size + 1 + 1 := by omega); (try have : w4.heap.size < w9.heap.size + 1 + 1 + 1 := by omega); (try have : w5.heap.size < w9.heap.size := by omega); (try have : w5.heap.size < w9.heap.size + 1 := by omega); (try have : w5.heap.size < w9.heap.size + 1 + 1 := by omega); (try have : w5.heap.size < w9.heap.size + 1 + 1 + 1 := by omega)
        obtain ⟨a9, cap9, rfl, hcap9, _⟩ := hown9.sl.shape
        rw [List.length_map] at hown9 hcap9 ⊢
        obtain ⟨bi, offi, hai, hbi, c0⟩ := Sl.nat hown9.sl (Below.refl _ _) (i := IL.length) (x := xs7.length) (by simp)
        subst hai
        have hil : (IL ++ [xs7.length]).length = IL.length + 1 := by simp
        rw [hil]
        clear hown9 hil TI TOK HX7 HX8 HL7 HL8 HO7 HO8
        go_wp2
        all_goals go_returns
        all_goals exact ⟨rfl, by (repeat' (first | (with_reducible exact Below.refl _ _) | (with_reducible assumption) | (with_reducible refine Below.alloc ?_ ?_ _) | (with_reducible refine Below.drew ?_) | (with_reducible refine Below.stepG ?_ (by assumption) ?_) | (with_reducible refine Below.setCell ?_ ?_ _) | omega | (dsimp only; omega) | (simp; done) | (simp; omega)))⟩
end Go.Proofs.Ytlcacocecdnpnaa
