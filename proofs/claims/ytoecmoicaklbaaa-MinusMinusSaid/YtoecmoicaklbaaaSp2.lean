
/- Contract: cidr.spans. -/
import Derived.Test.YtoecmoicaklbaaaSp1
import Derived.Test.YtoecmoicaklbaaaAp
import Derived.Deep.DeepCutAuto
import Derived.Deep.RegionLawGrows
set_option linter.unusedVariables false
set_option linter.unusedSimpArgs false
namespace Go.Proofs.Ytoecmoicaklbaaa
open Go.RowKit Go.Sort Wc Wk

/-- What the making of a span leaves: the span in a block of its own. -/
def MadeSp (six : Bool) (X : World) (s : Nat × Nat) (v : Value) (wx : World) : Prop := ∃ A, v = .pointer (some ⟨A, 0, none⟩) ∧ RX wx A (spC six s) ∧ Below X.heap.size X wx ∧ X.heap.size ≤ A
theorem MadeSp.new6 {six : Bool} {X w : World} {A : Nat} (s : Nat × Nat) (E : TypeId) (hA : A = w.heap.size) (hb : Below X.heap.size X w) :
    MadeSp six X s (.pointer (some ⟨A, 0, none⟩)) (w.alloc (.cells #[.bool six, .int .u64 (hiOf six s.1), .int .u64 (loOf s.1), .bool six, .int .u64 (hiOf six s.2), .int .u64 (loOf s.2)] E)) := by
  subst hA
  exact ⟨_, rfl, rx_new (spC six s) E, hb.alloc (by have := hb.size; omega) _, hb.size⟩
theorem MadeSp.put6 {six : Bool} {X w : World} {A : Nat} {c : List Value} (s : Nat × Nat) (hr : RX w A c) (hc : c.length = 6) (hb : Below X.heap.size X w) (hA : X.heap.size ≤ A) :
    MadeSp six X s (.pointer (some ⟨A, 0, none⟩)) ((((((w.setCell ⟨A, 0, none⟩ (.bool six)).setCell ⟨A, 1, none⟩ (.int .u64 (hiOf six s.1))).setCell ⟨A, 2, none⟩ (.int .u64 (loOf s.1))).setCell ⟨A, 3, none⟩ (.bool six)).setCell ⟨A, 4, none⟩ (.int .u64 (hiOf six s.2))).setCell ⟨A, 5, none⟩ (.int .u64 (loOf s.2))) := by
  obtain ⟨h1, h2⟩ := rx_set (c' := spC six s) hr (by rw [hc]; rfl)
  exact ⟨_, rfl, h1, hb.trans (h2.below hb.size (fun b x hb' e => by omega)), hA⟩
theorem rx_mk {w w1 : World} {c : List Value} {E : TypeId} {A : Nat} (hA : A = w.heap.size) (hb : Below (w.alloc (.cells c.toArray E)).heap.size (w.alloc (.cells c.toArray E)) w1) : RX w1 A c := by
  subst hA
  exact (rx_new c E).below hb

/-- Two spans: t at row u of block g, s in block A. -/
structure TwoSp (six : Bool) (w : World) (g u A : Nat) (t s : Nat × Nat) : Prop where
  lg : g < w.heap.size
  lA : A < w.heap.size
  t0 : w.cell? ⟨g, u * 6, none⟩ = some (.bool six)
  t3 : w.cell? ⟨g, u * 6 + 3, none⟩ = some (.bool six)
  t4 : w.cell? ⟨g, u * 6 + 3 + 1, none⟩ = some (.int .u64 (hiOf six t.2))
  t5 : w.cell? ⟨g, u * 6 + 3 + 2, none⟩ = some (.int .u64 (loOf t.2))
  s0 : w.cell? ⟨A, 0, none⟩ = some (.bool six)
  s1 : w.cell? ⟨A, 1, none⟩ = some (.int .u64 (hiOf six s.1))
  s2 : w.cell? ⟨A, 2, none⟩ = some (.int .u64 (loOf s.1))
  s3 : w.cell? ⟨A, 3, none⟩ = some (.bool six)
  s4 : w.cell? ⟨A, 4, none⟩ = some (.int .u64 (hiOf six s.2))
  s5 : w.cell? ⟨A, 5, none⟩ = some (.int .u64 (loOf s.2))
  fz : ∀ o, w.frozen? ⟨g, o, none⟩ = false
theorem TwoSp.below {six : Bool} {w w' : World} {g u A : Nat} {t s : Nat × Nat} (h : TwoSp six w g u A t s) (hb : Below w.heap.size w w') : TwoSp six w' g u A t s :=
  have cg := fun o => hb.cell (p := ⟨g, o, none⟩) h.lg
  have cA := fun o => hb.cell (p := ⟨A, o, none⟩) h.lA
  ⟨Nat.lt_of_lt_of_le h.lg hb.size, Nat.lt_of_lt_of_le h.lA hb.size, (cg _).trans h.t0, (cg _).trans h.t3, (cg _).trans h.t4, (cg _).trans h.t5, (cA _).trans h.s0, (cA _).trans h.s1, (cA _).trans h.s2, (cA _).trans h.s3, (cA _).trans h.s4, (cA _).trans h.s5, fun o => (hb.frozen (p := ⟨g, o, none⟩) h.lg).trans (h.fz o)⟩
theorem sl_sp1 (six : Bool) (n L : Nat) {W : World} {b : Nat} (hb : b = W.heap.size) : Sl (W.alloc (.cells #[.bool six, .int .u64 (hiOf six n), .int .u64 (loOf n), .bool six, .int .u64 (hiOf six L), .int .u64 (loOf L)] 141)) 6 (.slice (some ⟨b, 0, none⟩) 1 1) ([(n, L)].map (spC six)) := sl_new (c := spC six (n, L)) hb rfl
theorem own_base {w : World} {B C : Nat} {e : TypeId} {sz : Nat} {v : Value} {xs : List (List Value)} (h : Wk.Own w C e sz v xs) (hB : B ≤ C) : Wk.Own w B e sz v xs := by
  obtain ⟨h1, h2, h3⟩ := h
  refine ⟨h1, h2, ?_⟩
  rcases h3 with h3 | ⟨g, cap, cur, e1, hb, rest⟩
  · exact .inl h3
  · exact .inr ⟨g, cap, cur, e1, Nat.le_trans hB hb, rest⟩
/-- The end of the last span is moved. -/
theorem own_last {six : Bool} {w : World} {B g N cap u L : Nat} {U : List (Nat × Nat)} {t : Nat × Nat} (hu : U.length = u) (h : Wk.Own w B 141 6 (.slice (some ⟨g, 0, none⟩) N cap) ((U ++ [t]).map (spC six))) :
    Wk.Own (((w.setCell ⟨g, u * 6 + 3, none⟩ (.bool six)).setCell ⟨g, u * 6 + 3 + 1, none⟩ (.int .u64 (hiOf six L))).setCell ⟨g, u * 6 + 3 + 2, none⟩ (.int .u64 (loOf L))) B 141 6 (.slice (some ⟨g, 0, none⟩) N cap) ((U ++ [(t.1, L)]).map (spC six)) := by
  have e : ∀ c d : List Value, (U.map (spC six) ++ [c]).set u d = U.map (spC six) ++ [d] := fun c d => by
    rw [List.set_append_right _ _ (by rw [List.length_map]; omega), List.length_map, hu, Nat.sub_self]; rfl
  have g0 : ∀ c : List Value, (U.map (spC six) ++ [c])[u]? = some c := fun c => by
    rw [List.getElem?_append_right (by rw [List.length_map]; omega), List.length_map, hu, Nat.sub_self]; rfl
  rw [List.map_append, List.map_singleton] at h ⊢
  have h1 := h.set (g0 _) (j := 3) (by decide) (.bool six)
  rw [e] at h1
  have h2 := h1.set (g0 _) (j := 4) (by decide) (.int .u64 (hiOf six L))
  rw [e] at h2
  have h3 := h2.set (g0 _) (j := 5) (by decide) (.int .u64 (loOf L))
  rw [e] at h3
  exact h3

set_option maxRecDepth 100000 in
set_option maxHeartbeats 4000000 in
theorem spans_any (six : Bool) (a : Option Addr) (cap : Nat) (l : List (Nat × Nat)) (w : World) (hs : Sl w 4 (.slice a l.length cap) (l.map (pfC six))) (hlen : l.length ≤ 1000) (hok : ∀ x ∈ l, VP six x.1 x.2) (ha : ∀ x, a = some x → x.block < w.heap.size) :
    Calls Try.prog 44 #[.slice a l.length cap] w fun e w' => ∃ v ys, e = .returned v ∧ SortR l ys ∧ Wk.Own w' w.heap.size 141 6 v ((spansL six ys).map (spC six)) ∧ Below w.heap.size w w' := by
  have HV := Lib.hid (valuesFn_any a l.length cap w)
  have hb0 : Below w.heap.size w (w.alloc (.cells #[.slice a l.length cap] 47)) := (Below.refl _ _).alloc (Nat.le_refl _) _
  have SF := Lib.hid (sortedPf_any six w.heap.size a l.length cap l (w.alloc (.cells #[.slice a l.length cap] 47)) (hs.below hb0) rfl hlen hok (by simp) (by simp) (fun x hx => by have := ha x hx; simp; omega))
  have HOK := Lib.hid hok
  clear hs hok ha
  go_enter Try.func44, Try.ntmps44
  go_wp2_with fail
  refine HV.out.mono ?_
  rintro e w' ⟨rfl, rfl⟩
  go_wp2_with fail
  refine SF.out.mono ?_
  rintro e w1 ⟨v1, ys, rfl, HO1, HSR, hb1⟩; (repeat (with_reducible (replace hb1 := Below.undrew hb1))); obtain ⟨hc1, hf1⟩ := bcell hb1; have hz1 := hb1.size; (repeat (first | rw [World.size_alloc] at hz1 | rw [World.size_drew] at hz1 | rw [World.size_setCell] at hz1)); (try have : w.heap.size < w1.heap.size := by omega); (try have : w.heap.size < w1.heap.size + 1 := by omega); (try have : w.heap.size < w1.heap.size + 1 + 1 := by omega); (try have : w.heap.size < w1.heap.size + 1 + 1 + 1 := by omega)
  obtain ⟨a1, c1, rfl⟩ := HO1.shape
  rw [List.length_map] at HO1 ⊢
  have hly : ys.length ≤ 1000 := by rw [HSR.1.length_eq]; exact hlen
  have HY := Lib.hid HO1
  have HR := Lib.hid HSR
  have HYK := Lib.hid (fun x (hx : x ∈ ys) => HOK.out x (HSR.1.mem_iff.1 hx))
  have HB1 := Lib.hid (hb0.trans (hb1.mono (by simp)))
  clear HO1 HSR hb1 hc1 hf1 hb0 SF HV
  go_wp2_with fail
  go_loopw [3, 15] (fun v i wr => ∃ j : Nat, j ≤ ys.length ∧ i = .int .i64 j ∧ Hid (Wk.Own wr w1.heap.size 141 6 v ((spansL six (ys.take j)).map (spC six))) ∧ Hid ((spansL six (ys.take j)).length ≤ j ∧ ∀ s ∈ spansL six (ys.take j), Fits six s.1 ∧ Fits six s.2) ∧ Hid (Below w1.heap.size w1 wr)) (fun _ i _ => ys.length - (intOf i).toNat)
  case atStart => exact ⟨0, Nat.zero_le _, rfl, Wk.Own.nil _ _ _ _, ⟨Nat.le_refl _, fun s hs => by simp [spansL] at hs⟩, Below.refl _ _⟩
  case round =>
    obtain ⟨j, hj, rfl, HO, HI, HB⟩ := hrel
    have hzr := HB.out.size
    by_cases hlt : j < ys.length
    · obtain ⟨px, hx⟩ : ∃ x, ys[j]? = some x := ⟨_, List.getElem?_eq_getElem hlt⟩
      obtain ⟨b, off, rfl, hb, hbw, d0, d1, d2, d3⟩ := Sl.pf HY.out.sl HB.out (fun x hx => (HY.out.lt x.block (by rw [hx]; rfl)).2) hx
      have hvp := HYK.out px (List.mem_of_getElem? hx)
      have HVP := Lib.hid hvp
      have HTK := Lib.hid (show spansL six (ys.take (j + 1)) = spStep six (spansL six (ys.take j)) px by rw [List.take_add_one, hx]; exact spansL_snoc six _ _)
      have LA := Lib.hid (fun w => last_any six px.1 px.2 w hvp)
      clear hvp hx
      go_upto_region 5 with fail
      obtain ⟨Z, hZ⟩ : ∃ Z, Z = wr.alloc (.cells #[.bool six, .int .u64 (hiOf six px.1), .int .u64 (loOf px.1), .int .i64 px.2] 30) := ⟨_, rfl⟩
      have z0 : Z.cell? ⟨wr.heap.size, 0, none⟩ = some (.bool six) := by rw [hZ]; simp
      have z1 : Z.cell? ⟨wr.heap.size, 1, none⟩ = some (.int .u64 (hiOf six px.1)) := by rw [hZ]; simp
      have z2 : Z.cell? ⟨wr.heap.size, 2, none⟩ = some (.int .u64 (loOf px.1)) := by rw [hZ]; simp
      have z3 : Z.cell? ⟨wr.heap.size, 3, none⟩ = some (.int .i64 px.2) := by rw [hZ]; simp
      have hZs : wr.heap.size < Z.heap.size := by rw [hZ]; simp
      have HZB := Lib.hid (show Below wr.heap.size wr Z by rw [hZ]; exact (Below.refl _ _).alloc (Nat.le_refl _) _)
      rw [← hZ]
      clear hZ d0 d1 d2 d3
      go_cut [6] (fun v wx => Hid (MadeSp six Z (spOf six px) v wx))
      case first =>
        have HSO := Lib.hid (show spOf six px = (px.1, lastN (wd six) px.1 px.2) from rfl)
        have hzw : Z.heap.size ≤ Z.heap.size := Nat.le_refl _
        generalize lastN (wd six) px.1 px.2 = L at *
        refine wp_region_held_drew (S := (fun w' => Below Z.heap.size Z w')) (by kernel_rfl) ?_ (fun hHeld => ?_)
        · ((try dsimp only); (repeat' (first | (with_reducible exact Below.refl _ _) | (with_reducible assumption) | (with_reducible refine Below.alloc ?_ ?_ _) | (with_reducible refine Below.drew ?_) | (with_reducible refine Below.stepG ?_ (by assumption) ?_) | (with_reducible refine Below.setCell ?_ ?_ _) | omega | (dsimp only; omega) | (simp; done) | (simp; omega))))
        (refine wpAnyH_take (i := 0) (oi := _) (v := ?_) (by simp only [List.getElem?_toArray, List.getElem?_cons_zero, List.getElem?_cons_succ]; rfl) (by kernel_rfl) (by decide +kernel) (by decide +kernel) (by exact fun _ _ _ h => h) (Or.inl ⟨by rfl, ?_⟩) (by assumption) ?_; rotate_left; (· ((intro w hSw); (have hSc := Below.cellAt hSw); clear hSw; go_simp; (try with_reducible rfl))); (try simp only [Act.put, List.setIfInBounds_toArray, List.set_cons_zero, List.set_cons_succ]))
        (refine wpAnyH_take (i := 1) (oi := _) (v := ?_) (by simp only [List.getElem?_toArray, List.getElem?_cons_zero, List.getElem?_cons_succ]; rfl) (by kernel_rfl) (by decide +kernel) (by decide +kernel) (by exact fun _ _ _ h => h) (Or.inl ⟨by rfl, ?_⟩) (by assumption) ?_; rotate_left; (· ((intro w hSw); (have hSc := Below.cellAt hSw); clear hSw; go_simp; (try with_reducible rfl))); (try simp only [Act.put, List.setIfInBounds_toArray, List.set_cons_zero, List.set_cons_succ]))
        (refine wpAnyH_take (i := 2) (oi := _) (v := ?_) (by simp only [List.getElem?_toArray, List.getElem?_cons_zero, List.getElem?_cons_succ]; rfl) (by kernel_rfl) (by decide +kernel) (by decide +kernel) (by exact fun _ _ _ h => h) (Or.inl ⟨by rfl, ?_⟩) (by assumption) ?_; rotate_left; (· ((intro w hSw); (have hSc := Below.cellAt hSw); clear hSw; go_simp; (try with_reducible rfl))); (try simp only [Act.put, List.setIfInBounds_toArray, List.set_cons_zero, List.set_cons_succ]))
        repeat' (first
          | (refine wpAnyH_take (i := 4) (oi := _) (v := ?_) (by simp only [List.getElem?_toArray, List.getElem?_cons_zero, List.getElem?_cons_succ]; rfl) (by kernel_rfl) (by decide +kernel) (by decide +kernel) (by exact fun _ _ _ h => h) (Or.inl ⟨by rfl, ?_⟩) (by assumption) ?_; rotate_left; (· ((intro w hSw); (have hSc := Below.cellAt hSw); clear hSw; go_simp; (try with_reducible rfl))); (try simp only [Act.put, List.setIfInBounds_toArray, List.set_cons_zero, List.set_cons_succ]))
          | (refine wpAnyH_ready (rs := [3, 5]) (by decide +kernel) (by simp) (AllReadyH.cons (by simp only [List.getElem?_toArray, List.getElem?_cons_zero, List.getElem?_cons_succ]; rfl) (fun K hK => ?_) (AllReadyH.cons (by simp only [List.getElem?_toArray, List.getElem?_cons_zero, List.getElem?_cons_succ]; rfl) (fun K hK => ?_) AllReadyH.nil)); all_goals ((first | fail | (go_simp; (first | ((with_reducible refine (LA.out _).mono ?_); rintro e w2 ⟨rfl, hb2⟩; (repeat (with_reducible (replace hb2 := Below.undrew hb2))); obtain ⟨hc2, hf2⟩ := bcell hb2; have hz2 := hb2.size; (repeat (first | rw [World.size_alloc] at hz2 | rw [World.size_drew] at hz2 | rw [World.size_setCell] at hz2)); (try have : w.heap.size < w2.heap.size := by omega); (try have : w.heap.size < w2.heap.size + 1 := by omega); (try have : w.heap.size < w2.heap.size + 1 + 1 := by omega); (try have : w.heap.size < w2.heap.size + 1 + 1 + 1 := by omega); (try have : w1.heap.size < w2.heap.size := by omega); (try have : w1.heap.size < w2.heap.size + 1 := by omega); (try have : w1.heap.size < w2.heap.size + 1 + 1 := by omega); (try have : w1.heap.size < w2.heap.size + 1 + 1 + 1 := by omega); (try have : wr.heap.size < w2.heap.size := by omega); (try have : wr.heap.size < w2.heap.size + 1 := by omega); (try have : wr.heap.size < w2.heap.size + 1 + 1 := by omega); (try have : wr.heap.size < w2.heap.size + 1 + 1 + 1 := by omega)) | skip))); (refine hK.out _ _ ?_ (fun hHeld => ?_)); (· ((try dsimp only); (repeat' (first | (with_reducible exact Below.refl _ _) | (with_reducible assumption) | (with_reducible refine Below.alloc ?_ ?_ _) | (with_reducible refine Below.drew ?_) | (with_reducible refine Below.stepG ?_ (by assumption) ?_) | (with_reducible refine Below.setCell ?_ ?_ _) | omega | (dsimp only; omega) | (simp; done) | (simp; omega))))); (clear hK K; (try simp only [Act.put, List.setIfInBounds_toArray, List.set_cons_zero, List.set_cons_succ]))))
          | (refine wpAnyH_ready (rs := [3]) (by decide +kernel) (by simp) (AllReadyH.cons (by simp only [List.getElem?_toArray, List.getElem?_cons_zero, List.getElem?_cons_succ]; rfl) (fun K hK => ?_) AllReadyH.nil); all_goals ((first | fail | (go_simp; (first | ((with_reducible refine (LA.out _).mono ?_); rintro e w2 ⟨rfl, hb2⟩; (repeat (with_reducible (replace hb2 := Below.undrew hb2))); obtain ⟨hc2, hf2⟩ := bcell hb2; have hz2 := hb2.size; (repeat (first | rw [World.size_alloc] at hz2 | rw [World.size_drew] at hz2 | rw [World.size_setCell] at hz2)); (try have : w.heap.size < w2.heap.size := by omega); (try have : w.heap.size < w2.heap.size + 1 := by omega); (try have : w.heap.size < w2.heap.size + 1 + 1 := by omega); (try have : w.heap.size < w2.heap.size + 1 + 1 + 1 := by omega); (try have : w1.heap.size < w2.heap.size := by omega); (try have : w1.heap.size < w2.heap.size + 1 := by omega); (try have : w1.heap.size < w2.heap.size + 1 + 1 := by omega); (try have : w1.heap.size < w2.heap.size + 1 + 1 + 1 := by omega); (try have : wr.heap.size < w2.heap.size := by omega); (try have : wr.heap.size < w2.heap.size + 1 := by omega); (try have : wr.heap.size < w2.heap.size + 1 + 1 := by omega); (try have : wr.heap.size < w2.heap.size + 1 + 1 + 1 := by omega)) | skip))); (refine hK.out _ _ ?_ (fun hHeld => ?_)); (· ((try dsimp only); (repeat' (first | (with_reducible exact Below.refl _ _) | (with_reducible assumption) | (with_reducible refine Below.alloc ?_ ?_ _) | (with_reducible refine Below.drew ?_) | (with_reducible refine Below.stepG ?_ (by assumption) ?_) | (with_reducible refine Below.setCell ?_ ?_ _) | omega | (dsimp only; omega) | (simp; done) | (simp; omega))))); (clear hK K; (try simp only [Act.put, List.setIfInBounds_toArray, List.set_cons_zero, List.set_cons_succ]))))
          | (refine wpAnyH_ready (rs := [5]) (by decide +kernel) (by simp) (AllReadyH.cons (by simp only [List.getElem?_toArray, List.getElem?_cons_zero, List.getElem?_cons_succ]; rfl) (fun K hK => ?_) AllReadyH.nil); all_goals ((first | fail | (go_simp; (first | ((with_reducible refine (LA.out _).mono ?_); rintro e w2 ⟨rfl, hb2⟩; (repeat (with_reducible (replace hb2 := Below.undrew hb2))); obtain ⟨hc2, hf2⟩ := bcell hb2; have hz2 := hb2.size; (repeat (first | rw [World.size_alloc] at hz2 | rw [World.size_drew] at hz2 | rw [World.size_setCell] at hz2)); (try have : w.heap.size < w2.heap.size := by omega); (try have : w.heap.size < w2.heap.size + 1 := by omega); (try have : w.heap.size < w2.heap.size + 1 + 1 := by omega); (try have : w.heap.size < w2.heap.size + 1 + 1 + 1 := by omega); (try have : w1.heap.size < w2.heap.size := by omega); (try have : w1.heap.size < w2.heap.size + 1 := by omega); (try have : w1.heap.size < w2.heap.size + 1 + 1 := by omega); (try have : w1.heap.size < w2.heap.size + 1 + 1 + 1 := by omega); (try have : wr.heap.size < w2.heap.size := by omega); (try have : wr.heap.size < w2.heap.size + 1 := by omega); (try have : wr.heap.size < w2.heap.size + 1 + 1 := by omega); (try have : wr.heap.size < w2.heap.size + 1 + 1 + 1 := by omega)) | skip))); (refine hK.out _ _ ?_ (fun hHeld => ?_)); (· ((try dsimp only); (repeat' (first | (with_reducible exact Below.refl _ _) | (with_reducible assumption) | (with_reducible refine Below.alloc ?_ ?_ _) | (with_reducible refine Below.drew ?_) | (with_reducible refine Below.stepG ?_ (by assumption) ?_) | (with_reducible refine Below.setCell ?_ ?_ _) | omega | (dsimp only; omega) | (simp; done) | (simp; omega))))); (clear hK K; (try simp only [Act.put, List.setIfInBounds_toArray, List.set_cons_zero, List.set_cons_succ]))))
          | (refine wpAnyH_ready (rs := [6]) (by decide +kernel) (by simp) (AllReadyH.cons (by simp only [List.getElem?_toArray, List.getElem?_cons_zero, List.getElem?_cons_succ]; rfl) (fun K hK => ?_) AllReadyH.nil); all_goals ((first | fail | (go_simp; (first | ((with_reducible refine (LA.out _).mono ?_); rintro e w2 ⟨rfl, hb2⟩; (repeat (with_reducible (replace hb2 := Below.undrew hb2))); obtain ⟨hc2, hf2⟩ := bcell hb2; have hz2 := hb2.size; (repeat (first | rw [World.size_alloc] at hz2 | rw [World.size_drew] at hz2 | rw [World.size_setCell] at hz2)); (try have : w.heap.size < w2.heap.size := by omega); (try have : w.heap.size < w2.heap.size + 1 := by omega); (try have : w.heap.size < w2.heap.size + 1 + 1 := by omega); (try have : w.heap.size < w2.heap.size + 1 + 1 + 1 := by omega); (try have : w1.heap.size < w2.heap.size := by omega); (try have : w1.heap.size < w2.heap.size + 1 := by omega); (try have : w1.heap.size < w2.heap.size + 1 + 1 := by omega); (try have : w1.heap.size < w2.heap.size + 1 + 1 + 1 := by omega); (try have : wr.heap.size < w2.heap.size := by omega); (try have : wr.heap.size < w2.heap.size + 1 := by omega); (try have : wr.heap.size < w2.heap.size + 1 + 1 := by omega); (try have : wr.heap.size < w2.heap.size + 1 + 1 + 1 := by omega)) | skip))); (refine hK.out _ _ ?_ (fun hHeld => ?_)); (· ((try dsimp only); (repeat' (first | (with_reducible exact Below.refl _ _) | (with_reducible assumption) | (with_reducible refine Below.alloc ?_ ?_ _) | (with_reducible refine Below.drew ?_) | (with_reducible refine Below.stepG ?_ (by assumption) ?_) | (with_reducible refine Below.setCell ?_ ?_ _) | omega | (dsimp only; omega) | (simp; done) | (simp; omega))))); (clear hK K; (try simp only [Act.put, List.setIfInBounds_toArray, List.set_cons_zero, List.set_cons_succ]))))
          | (refine wpAnyH_done (by decide +kernel) ?_ _)
          | fail)
        go_goals
        all_goals go_wp2_with fail
        all_goals go_meet
        all_goals rw [HSO.out]
        all_goals refine Lib.hid ?_
        all_goals first
          | ((with_reducible refine MadeSp.new6 (px.1, L) _ ?_ ?_); (· simp); (· (repeat' (first | (with_reducible exact Below.refl _ _) | (with_reducible assumption) | (with_reducible refine Below.alloc ?_ ?_ _) | (with_reducible refine Below.drew ?_) | (with_reducible refine Below.stepG ?_ (by assumption) ?_) | (with_reducible refine Below.setCell ?_ ?_ _) | omega | (dsimp only; omega) | (simp; done) | (simp; omega)))))
          | ((with_reducible refine MadeSp.put6 (px.1, L) (rx_mk ?_ hb2) ?_ ?_ ?_); (· simp); (· rfl); (· (repeat' (first | (with_reducible exact Below.refl _ _) | (with_reducible assumption) | (with_reducible refine Below.alloc ?_ ?_ _) | (with_reducible refine Below.drew ?_) | (with_reducible refine Below.stepG ?_ (by assumption) ?_) | (with_reducible refine Below.setCell ?_ ?_ _) | omega | (dsimp only; omega) | (simp; done) | (simp; omega)))); (· (first | omega | (simp; done) | (simp; omega))))
      case rest =>
        obtain ⟨A, hA0, HA0, HAB0, hXA⟩ := hcut.out
        subst hA0
        have HWB := Lib.hid (HZB.out.trans (HAB0.mono (by omega)))
        have HSO := Lib.hid (show spOf six px = (px.1, lastN (wd six) px.1 px.2) from rfl)
        have hfl := Lib.hid (last_fits HVP.out)
        have hfn := Lib.hid HVP.out.1
        rw [HSO.out] at HA0
        have HST := Lib.hid (show ∀ U t, spStep six (U ++ [t]) px = if t.2 + 1 = 2 ^ wd six ∨ px.1 ≤ t.2 + 1 then (if t.2 < lastN (wd six) px.1 px.2 then U ++ [(t.1, lastN (wd six) px.1 px.2)] else U ++ [t]) else (U ++ [t]) ++ [spOf six px] from fun U t => spStep_some)
        rw [HSO.out] at HST
        clear hcut z0 z1 z2 z3 HZB LA HVP
        generalize lastN (wd six) px.1 px.2 = L at *
        generalize hSS : spansL six (ys.take j) = S at *
        clear hSS
        have hSl := HI.out.1
        have HO1 := Lib.hid (HO.out.below HWB.out)
        have hlA := HA0.lt
        have hB2 := Lib.hid (HB.out.trans (HWB.out.mono hzr))
        have hzc := HWB.out.size
        rcases List.eq_nil_or_concat S with rfl | ⟨U, t, rfl⟩
        · obtain ⟨a3, c3, hv3⟩ := HO1.out.shape
          simp only [List.map_nil, List.length_nil] at hv3
          subst hv3
          have b0 : wc.cell? ⟨A, 0, none⟩ = some (.bool six) := HA0.cell 0 _ rfl
          have b1 : wc.cell? ⟨A, 1, none⟩ = some (.int .u64 (hiOf six px.1)) := HA0.cell 1 _ rfl
          have b2 : wc.cell? ⟨A, 2, none⟩ = some (.int .u64 (loOf px.1)) := HA0.cell 2 _ rfl
          have b3 : wc.cell? ⟨A, 3, none⟩ = some (.bool six) := HA0.cell 3 _ rfl
          have b4 : wc.cell? ⟨A, 4, none⟩ = some (.int .u64 (hiOf six L)) := HA0.cell 4 _ rfl
          have b5 : wc.cell? ⟨A, 5, none⟩ = some (.int .u64 (loOf L)) := HA0.cell 5 _ rfl
          clear HA0 HAB0 HST
          go_wp2_with fail
          go_quiet (fail)
          have HOq := Lib.hid (HO1.out.below (below_drewN (Below.refl _ _) nq))
          go_wp2_with (at_builtin; refine stop_at ?_; intro G hG)
          rw [← hG.out]; clear hG G
          refine wpList_append_any rfl _ _ 93 141 6 48 _ rfl eiSp w1.heap.size _ ((([] : List (Nat × Nat))).map (spC six)) rfl ((HOq.out.alloc _)) _ (([(px.1, L)]).map (spC six)) rfl (sl_sp1 six px.1 L (by (first | omega | (simp; done) | (simp; omega)))) (by intro c hc; obtain ⟨r, _, rfl⟩ := List.mem_map.1 hc; exact spC_one six r) (by have e1 : (([] : List (Nat × Nat)).map (spC six)).length = 0 := rfl; have e2 : ([(px.1, L)].map (spC six)).length = 1 := rfl; first | omega | (simp; omega)) (by decide) (by first | omega | (simp; done) | (simp; omega)) ?_
          intro v4 w4 hown4 hb4
          rw [← List.map_append] at hown4
          obtain ⟨xs4, hxs4⟩ : ∃ x : List (Nat × Nat), x = (([] : List (Nat × Nat))) ++ ([(px.1, L)]) := ⟨_, rfl⟩
          rw [← hxs4] at hown4
          have hl4 : xs4.length = (([] : List (Nat × Nat))).length + ([(px.1, L)]).length := by rw [hxs4, List.length_append]
          have HX4 := Lib.hid hxs4
          clear hxs4
          have HL4 := Lib.hid hl4
          clear hl4
          obtain ⟨a4, cap4, rfl⟩ := hown4.shape
          rw [List.length_map] at hown4 ⊢
          have HO4 := Lib.hid hown4
          clear hown4
          obtain ⟨hc4, hf4⟩ := bcellB hb4; have hz4 := hb4.size; (repeat (first | rw [World.size_alloc] at hz4 | rw [World.size_drew] at hz4 | rw [World.size_setCell] at hz4)); (try have : w.heap.size < w4.heap.size := by omega); (try have : w.heap.size < w4.heap.size + 1 := by omega); (try have : w.heap.size < w4.heap.size + 1 + 1 := by omega); (try have : w.heap.size < w4.heap.size + 1 + 1 + 1 := by omega); (try have : w1.heap.size < w4.heap.size := by omega); (try have : w1.heap.size < w4.heap.size + 1 := by omega); (try have : w1.heap.size < w4.heap.size + 1 + 1 := by omega); (try have : w1.heap.size < w4.heap.size + 1 + 1 + 1 := by omega); (try have : wr.heap.size < w4.heap.size := by omega); (try have : wr.heap.size < w4.heap.size + 1 := by omega); (try have : wr.heap.size < w4.heap.size + 1 + 1 := by omega); (try have : wr.heap.size < w4.heap.size + 1 + 1 + 1 := by omega)
          have HS4 := Lib.hid (show spansL six (ys.take (j + 1)) = xs4 by rw [HTK.out, spStep_none, HSO.out, HX4.out]; rfl)
          have HI4 : Hid ((spansL six (ys.take (j + 1))).length ≤ j + 1 ∧ ∀ s ∈ spansL six (ys.take (j + 1)), Fits six s.1 ∧ Fits six s.2) := by
            show _ ∧ _
            rw [HS4.out, HX4.out]
            exact ⟨by simp, fun s hs => by simp at hs; rw [hs]; exact ⟨hfn.out, hfl.out⟩⟩
          have HO4' : Hid (Wk.Own w4 w1.heap.size 141 6 (.slice a4 xs4.length cap4) ((spansL six (ys.take (j + 1))).map (spC six))) := by
            show Wk.Own _ _ _ _ _ _
            rw [HS4.out]; exact HO4.out
          have HB4 := Lib.hid (hB2.out.trans (((below_drewN (Below.refl w1.heap.size wc) nq).alloc (by simp; omega) _).trans hb4))
          clear HO4 HX4 HL4 hb4 hc4 hf4 HTK HI HOq
          go_wp2
          go_roundw
          case rel => exact ⟨j + 1, by omega, by go_num, HO4', HI4, HB4⟩
          case measure => simp [intOf]; omega
        · rw [List.concat_eq_append] at *
          obtain ⟨N, hN⟩ : ∃ N, N = (U ++ [t]).length := ⟨_, rfl⟩
          obtain ⟨u, hu⟩ : ∃ u, u = U.length := ⟨_, rfl⟩
          have hNu : N = u + 1 := by rw [hN, hu]; simp
          obtain ⟨g, c3, hv3, hg1, hg2, hg3, hg4, hg5, hg6⟩ := HO1.out.at (by rw [List.length_map, ← hN]; omega)
          rw [List.length_map, ← hN] at hv3 hg3
          subst hv3
          have hrow := hg6 u (spC six t) (by rw [List.map_append, List.getElem?_append_right (by rw [List.length_map]; omega), List.length_map, hu, Nat.sub_self]; rfl)
          have F : Hid (TwoSp six wc g u A t (px.1, L)) := ⟨hg2, hlA, hrow 0 _ rfl, hrow 3 _ rfl, hrow 4 _ rfl, hrow 5 _ rfl, HA0.cell 0 _ rfl, HA0.cell 1 _ rfl, HA0.cell 2 _ rfl, HA0.cell 3 _ rfl, HA0.cell 4 _ rfl, HA0.cell 5 _ rfl, hg5⟩
          have hfit := HI.out.2 t (by simp)
          have HF1 := Lib.hid hfit.1
          have HF2 := Lib.hid hfit.2
          have HUl := Lib.hid hu.symm
          have HNe := Lib.hid hNu
          have ew : IntKind.i64.wrap ((N : Int) - 1) = (u : Int) := by rw [IntKind.wrap_i64]; omega
          have hN0 : 0 < N := by omega
          have huN : u < N := by omega
          have hNk : N ≤ 1000 := by omega
          clear hN hu hNu hg5 hg6 hrow hfit HA0 HAB0
          obtain ⟨c0, c1', c2', c3', c4', c5', c6', c7', c8', c9', c10, c11, _⟩ := F.out
          go_wp2_with fail
          go_quiet (fail)
          obtain ⟨V, hV⟩ : ∃ V, V = wc.drewN nq := ⟨_, rfl⟩
          have hVB : Below wc.heap.size wc V := by rw [hV]; exact below_drewN (Below.refl _ _) nq
          rw [← hV]
          have FV := Lib.hid (F.out.below hVB)
          have HOV := Lib.hid (HO1.out.below hVB)
          have HBV := Lib.hid (hB2.out.trans (hVB.mono hB2.out.size))
          clear hV hVB c0 c1' c2' c3' c4' c5' c6' c7' c8' c9' c10 c11 F HO1 HO HB HWB hB2
          obtain ⟨lg, lA, c0, c1', c2', c3', c4', c5', c6', c7', c8', c9', fz⟩ := FV.out
          obtain ⟨H, Lo, P1, HPL⟩ := plus1_any six t.2 HF2.out
          have EN := Lib.hid (fun w => end_any six t.2 w HF2.out)
          have L2 := Lib.hid (fun w => less_any six t.2 L w HF2.out hfl.out)
          have HPL := Lib.hid HPL
          go_wp2_with fail
          refine (P1.out _).mono ?_
          rintro e w2 ⟨rfl, hb2⟩
          have F2 := Lib.hid (FV.out.below hb2)
          have HO2 := Lib.hid (HOV.out.below hb2)
          have HB2 := Lib.hid (HBV.out.trans (hb2.mono HBV.out.size))
          clear hb2 lg lA c0 c1' c2' c3' c4' c5' c6' c7' c8' c9' fz FV HOV HBV
          obtain ⟨lg, lA, c0, c1', c2', c3', c4', c5', c6', c7', c8', c9', fz⟩ := F2.out
          go_wp2_with fail
          refine (EN.out _).mono ?_
          rintro e w3 ⟨rfl, hb3⟩
          have hb23 : Below w2.heap.size w2 w3 := ((Below.refl w2.heap.size w2).alloc (Nat.le_refl _) (.cells #[.bool six, .int .u64 H, .int .u64 Lo] 28)).trans (hb3.mono (by simp))
          have nb := fun o => hb3.cell (p := ⟨w2.heap.size, o, none⟩) (by simp)
          have n0 : w3.cell? ⟨w2.heap.size, 0, none⟩ = some (.bool six) := (nb 0).trans (by simp)
          have n1 : w3.cell? ⟨w2.heap.size, 1, none⟩ = some (.int .u64 H) := (nb 1).trans (by simp)
          have n2 : w3.cell? ⟨w2.heap.size, 2, none⟩ = some (.int .u64 Lo) := (nb 2).trans (by simp)
          have F3 := Lib.hid (F2.out.below hb23)
          have HO3 := Lib.hid (HO2.out.below hb23)
          have HB3 := Lib.hid (HB2.out.trans (hb23.mono HB2.out.size))
          have hnw : w2.heap.size < w3.heap.size := by have := hb3.size; simp at this; omega
          clear hb3 hb23 nb lg lA c0 c1' c2' c3' c4' c5' c6' c7' c8' c9' fz F2 HO2 HB2 P1 EN
          obtain ⟨lg, lA, c0, c1', c2', c3', c4', c5', c6', c7', c8', c9', fz⟩ := F3.out
          by_cases he : t.2 + 1 < 2 ^ wd six
          · rw [decide_eq_true he]
            obtain ⟨rfl, rfl⟩ := HPL.out he
            have L1 := Lib.hid (fun w => less_any six (t.2 + 1) px.1 w he hfn.out)
            go_wp2_with fail
            ((with_reducible refine (L1.out _).mono ?_); rintro e w4 ⟨rfl, hb4⟩; (repeat (with_reducible (replace hb4 := Below.undrew hb4))); obtain ⟨hc4, hf4⟩ := bcell hb4; have hz4 := hb4.size; (repeat (first | rw [World.size_alloc] at hz4 | rw [World.size_drew] at hz4 | rw [World.size_setCell] at hz4)); (try have : w.heap.size < w4.heap.size := by omega); (try have : w.heap.size < w4.heap.size + 1 := by omega); (try have : w.heap.size < w4.heap.size + 1 + 1 := by omega); (try have : w.heap.size < w4.heap.size + 1 + 1 + 1 := by omega); (try have : w1.heap.size < w4.heap.size := by omega); (try have : w1.heap.size < w4.heap.size + 1 := by omega); (try have : w1.heap.size < w4.heap.size + 1 + 1 := by omega); (try have : w1.heap.size < w4.heap.size + 1 + 1 + 1 := by omega); (try have : wr.heap.size < w4.heap.size := by omega); (try have : wr.heap.size < w4.heap.size + 1 := by omega); (try have : wr.heap.size < w4.heap.size + 1 + 1 := by omega); (try have : wr.heap.size < w4.heap.size + 1 + 1 + 1 := by omega))
            by_cases hg : t.2 + 1 < px.1
            · rw [decide_eq_true hg]
              clear n0 n1 n2 L2
              have HO4s := Lib.hid (HO3.out.below hb4)
              have HB4s := Lib.hid (HB3.out.trans (hb4.mono HB3.out.size))
              go_wp2_with (at_builtin; refine stop_at ?_; intro G hG)
              rw [← hG.out]; clear hG G
              refine wpList_append_any rfl _ _ 93 141 6 48 _ rfl eiSp w1.heap.size _ (((U ++ [t])).map (spC six)) rfl ((HO4s.out.alloc _)) _ (([(px.1, L)]).map (spC six)) rfl (sl_sp1 six px.1 L (by (first | omega | (simp; done) | (simp; omega)))) (by intro c hc; obtain ⟨r, _, rfl⟩ := List.mem_map.1 hc; exact spC_one six r) (by simp only [List.length_map, List.length_append, List.length_cons, List.length_nil]; have h9 : U.length + 1 ≤ j := (by simpa using HI.out.1); first | omega | (simp; omega)) (by decide) (by first | omega | (simp; done) | (simp; omega)) ?_
              intro v5 w5 hown5 hb5
              rw [← List.map_append] at hown5
              obtain ⟨xs5, hxs5⟩ : ∃ x : List (Nat × Nat), x = ((U ++ [t])) ++ ([(px.1, L)]) := ⟨_, rfl⟩
              rw [← hxs5] at hown5
              have hl5 : xs5.length = ((U ++ [t])).length + ([(px.1, L)]).length := by rw [hxs5, List.length_append]
              have HX5 := Lib.hid hxs5
              clear hxs5
              have HL5 := Lib.hid hl5
              clear hl5
              obtain ⟨a5, cap5, rfl⟩ := hown5.shape
              rw [List.length_map] at hown5 ⊢
              have HO5 := Lib.hid hown5
              clear hown5
              obtain ⟨hc5, hf5⟩ := bcellB hb5; have hz5 := hb5.size; (repeat (first | rw [World.size_alloc] at hz5 | rw [World.size_drew] at hz5 | rw [World.size_setCell] at hz5)); (try have : w.heap.size < w5.heap.size := by omega); (try have : w.heap.size < w5.heap.size + 1 := by omega); (try have : w.heap.size < w5.heap.size + 1 + 1 := by omega); (try have : w.heap.size < w5.heap.size + 1 + 1 + 1 := by omega); (try have : w1.heap.size < w5.heap.size := by omega); (try have : w1.heap.size < w5.heap.size + 1 := by omega); (try have : w1.heap.size < w5.heap.size + 1 + 1 := by omega); (try have : w1.heap.size < w5.heap.size + 1 + 1 + 1 := by omega); (try have : wr.heap.size < w5.heap.size := by omega); (try have : wr.heap.size < w5.heap.size + 1 := by omega); (try have : wr.heap.size < w5.heap.size + 1 + 1 := by omega); (try have : wr.heap.size < w5.heap.size + 1 + 1 + 1 := by omega)
              have HS5 := Lib.hid (show spansL six (ys.take (j + 1)) = xs5 by rw [HTK.out, HST.out, if_neg (by have := he; omega), HX5.out])
              have HI5 : Hid ((spansL six (ys.take (j + 1))).length ≤ j + 1 ∧ ∀ s ∈ spansL six (ys.take (j + 1)), Fits six s.1 ∧ Fits six s.2) := by
                show _ ∧ _
                rw [HS5.out, HX5.out]
                exact ⟨by rw [List.length_append]; have := HI.out.1; simp at this ⊢; omega, fun s hs => (List.mem_append.1 hs).elim (HI.out.2 s) (fun hs => by simp at hs; rw [hs]; exact ⟨hfn.out, hfl.out⟩)⟩
              have HO5' : Hid (Wk.Own w5 w1.heap.size 141 6 (.slice a5 xs5.length cap5) ((spansL six (ys.take (j + 1))).map (spC six))) := by
                show Wk.Own _ _ _ _ _ _
                rw [HS5.out]; exact HO5.out
              have HB5 := Lib.hid ((HB4s.out.alloc (by have := HB4s.out.size; omega) _).trans hb5)
              clear HO5 HX5 HL5 hb5 hc5 hf5 HTK HI HO4s HB4s HST
              go_wp2
              go_roundw
              case rel => exact ⟨j + 1, by omega, by go_num, HO5', HI5, HB5⟩
              case measure => simp [intOf]; omega
            · rw [decide_eq_false hg]
              have F4 := Lib.hid (F3.out.below hb4)
              have HO4 := Lib.hid (HO3.out.below hb4)
              have HB4 := Lib.hid (HB3.out.trans (hb4.mono HB3.out.size))
              have hC := Lib.hid (show t.2 + 1 = 2 ^ wd six ∨ px.1 ≤ t.2 + 1 from .inr (by omega))
              clear n0 n1 n2 L1 hb4 hc4 hf4 F3 HO3 HB3 lg lA c0 c1' c2' c3' c4' c5' c6' c7' c8' c9' fz
              obtain ⟨lg, lA, c0, c1', c2', c3', c4', c5', c6', c7', c8', c9', fz⟩ := F4.out
              go_wp2_with fail
              refine wp_region_qb (by kernel_rfl) (by kernel_rfl) (fun kq => ?_)
              repeat (first | go_big_quiet_step ((with_reducible exact Calls.regrown_of (L2.out _))) | quiet_step ((with_reducible exact Calls.regrown_of (L2.out _))))
              clear kq
              refine wpQuiet_nil ?_; intro w6 hb6; (repeat (with_reducible (replace hb6 := Below.undrew hb6))); obtain ⟨hc6, hf6⟩ := bcell hb6; have hz6 := hb6.size; (repeat (first | rw [World.size_alloc] at hz6 | rw [World.size_drew] at hz6 | rw [World.size_setCell] at hz6)); (try have : w.heap.size < w6.heap.size := by omega); (try have : w.heap.size < w6.heap.size + 1 := by omega); (try have : w.heap.size < w6.heap.size + 1 + 1 := by omega); (try have : w.heap.size < w6.heap.size + 1 + 1 + 1 := by omega); (try have : w1.heap.size < w6.heap.size := by omega); (try have : w1.heap.size < w6.heap.size + 1 := by omega); (try have : w1.heap.size < w6.heap.size + 1 + 1 := by omega); (try have : w1.heap.size < w6.heap.size + 1 + 1 + 1 := by omega); (try have : wr.heap.size < w6.heap.size := by omega); (try have : wr.heap.size < w6.heap.size + 1 := by omega); (try have : wr.heap.size < w6.heap.size + 1 + 1 := by omega); (try have : wr.heap.size < w6.heap.size + 1 + 1 + 1 := by omega)
              have F6 := Lib.hid (F4.out.below hb6)
              have HO6 := Lib.hid (HO4.out.below hb6)
              have HB6 := Lib.hid (HB4.out.trans (hb6.mono HB4.out.size))
              clear hb6 hc6 hf6 lg lA c0 c1' c2' c3' c4' c5' c6' c7' c8' c9' fz F4 HO4 HB4 L2
              obtain ⟨lg, lA, c0, c1', c2', c3', c4', c5', c6', c7', c8', c9', fz⟩ := F6.out
              by_cases hm : t.2 < L
              · rw [decide_eq_true hm]
                have HS6 := Lib.hid (show spansL six (ys.take (j + 1)) = U ++ [(t.1, L)] by rw [HTK.out, HST.out, if_pos hC.out, if_pos hm])
                have HI6 : Hid ((spansL six (ys.take (j + 1))).length ≤ j + 1 ∧ ∀ s ∈ spansL six (ys.take (j + 1)), Fits six s.1 ∧ Fits six s.2) := by
                  show _ ∧ _
                  rw [HS6.out]
                  exact ⟨by have := HI.out.1; simp at this ⊢; omega, fun s hs => (List.mem_append.1 hs).elim (fun hs => HI.out.2 s (List.mem_append_left _ hs)) (fun hs => by simp at hs; rw [hs]; exact ⟨HF1.out, hfl.out⟩)⟩
                go_wp2
                have HO6' : Hid (Wk.Own (((w6.setCell ⟨g, u * 6 + 3, none⟩ (.bool six)).setCell ⟨g, u * 6 + 3 + 1, none⟩ (.int .u64 (hiOf six L))).setCell ⟨g, u * 6 + 3 + 2, none⟩ (.int .u64 (loOf L))) w1.heap.size 141 6 (.slice (some ⟨g, 0, none⟩) N c3) ((spansL six (ys.take (j + 1))).map (spC six))) := by
                  show Wk.Own _ _ _ _ _ _
                  rw [HS6.out]; exact own_last HUl.out HO6.out
                go_roundw
                case rel => exact ⟨j + 1, by omega, by go_num, HO6', HI6, ((HB6.out.setCell hg1 _).setCell hg1 _).setCell hg1 _⟩
                case measure => simp [intOf]; omega
              · rw [decide_eq_false hm]
                have HS6 := Lib.hid (show spansL six (ys.take (j + 1)) = U ++ [t] by rw [HTK.out, HST.out, if_pos hC.out, if_neg hm])
                have HI6 : Hid ((spansL six (ys.take (j + 1))).length ≤ j + 1 ∧ ∀ s ∈ spansL six (ys.take (j + 1)), Fits six s.1 ∧ Fits six s.2) := by
                  show _ ∧ _
                  rw [HS6.out]
                  exact ⟨by have := HI.out.1; omega, HI.out.2⟩
                have HO6' : Hid (Wk.Own w6 w1.heap.size 141 6 (.slice (some ⟨g, 0, none⟩) N c3) ((spansL six (ys.take (j + 1))).map (spC six))) := by
                  show Wk.Own _ _ _ _ _ _
                  rw [HS6.out]; exact HO6.out
                go_wp2
                go_roundw
                case rel => exact ⟨j + 1, by omega, by go_num, HO6', HI6, HB6⟩
                case measure => simp [intOf]; omega
          · rw [decide_eq_false he]
            have hC := Lib.hid (show t.2 + 1 = 2 ^ wd six ∨ px.1 ≤ t.2 + 1 from .inl (by have : t.2 < 2 ^ wd six := HF2.out; omega))
            go_wp2_with fail
            refine wp_region_qb (by kernel_rfl) (by kernel_rfl) (fun kq => ?_)
            repeat (first | go_big_quiet_step ((with_reducible exact Calls.regrown_of (L2.out _))) | quiet_step ((with_reducible exact Calls.regrown_of (L2.out _))))
            clear kq
            refine wpQuiet_nil ?_; intro w6 hb6; (repeat (with_reducible (replace hb6 := Below.undrew hb6))); obtain ⟨hc6, hf6⟩ := bcell hb6; have hz6 := hb6.size; (repeat (first | rw [World.size_alloc] at hz6 | rw [World.size_drew] at hz6 | rw [World.size_setCell] at hz6)); (try have : w.heap.size < w6.heap.size := by omega); (try have : w.heap.size < w6.heap.size + 1 := by omega); (try have : w.heap.size < w6.heap.size + 1 + 1 := by omega); (try have : w.heap.size < w6.heap.size + 1 + 1 + 1 := by omega); (try have : w1.heap.size < w6.heap.size := by omega); (try have : w1.heap.size < w6.heap.size + 1 := by omega); (try have : w1.heap.size < w6.heap.size + 1 + 1 := by omega); (try have : w1.heap.size < w6.heap.size + 1 + 1 + 1 := by omega); (try have : wr.heap.size < w6.heap.size := by omega); (try have : wr.heap.size < w6.heap.size + 1 := by omega); (try have : wr.heap.size < w6.heap.size + 1 + 1 := by omega); (try have : wr.heap.size < w6.heap.size + 1 + 1 + 1 := by omega)
            have F6 := Lib.hid (F3.out.below hb6)
            have HO6 := Lib.hid (HO3.out.below hb6)
            have HB6 := Lib.hid (HB3.out.trans (hb6.mono HB3.out.size))
            clear hb6 hc6 hf6 lg lA c0 c1' c2' c3' c4' c5' c6' c7' c8' c9' fz F3 HO3 HB3 L2
            obtain ⟨lg, lA, c0, c1', c2', c3', c4', c5', c6', c7', c8', c9', fz⟩ := F6.out
            by_cases hm : t.2 < L
            · rw [decide_eq_true hm]
              have HS6 := Lib.hid (show spansL six (ys.take (j + 1)) = U ++ [(t.1, L)] by rw [HTK.out, HST.out, if_pos hC.out, if_pos hm])
              have HI6 : Hid ((spansL six (ys.take (j + 1))).length ≤ j + 1 ∧ ∀ s ∈ spansL six (ys.take (j + 1)), Fits six s.1 ∧ Fits six s.2) := by
                show _ ∧ _
                rw [HS6.out]
                exact ⟨by have := HI.out.1; simp at this ⊢; omega, fun s hs => (List.mem_append.1 hs).elim (fun hs => HI.out.2 s (List.mem_append_left _ hs)) (fun hs => by simp at hs; rw [hs]; exact ⟨HF1.out, hfl.out⟩)⟩
              go_wp2
              have HO6' : Hid (Wk.Own (((w6.setCell ⟨g, u * 6 + 3, none⟩ (.bool six)).setCell ⟨g, u * 6 + 3 + 1, none⟩ (.int .u64 (hiOf six L))).setCell ⟨g, u * 6 + 3 + 2, none⟩ (.int .u64 (loOf L))) w1.heap.size 141 6 (.slice (some ⟨g, 0, none⟩) N c3) ((spansL six (ys.take (j + 1))).map (spC six))) := by
                show Wk.Own _ _ _ _ _ _
                rw [HS6.out]; exact own_last HUl.out HO6.out
              go_roundw
              case rel => exact ⟨j + 1, by omega, by go_num, HO6', HI6, ((HB6.out.setCell hg1 _).setCell hg1 _).setCell hg1 _⟩
              case measure => simp [intOf]; omega
            · rw [decide_eq_false hm]
              have HS6 := Lib.hid (show spansL six (ys.take (j + 1)) = U ++ [t] by rw [HTK.out, HST.out, if_pos hC.out, if_neg hm])
              have HI6 : Hid ((spansL six (ys.take (j + 1))).length ≤ j + 1 ∧ ∀ s ∈ spansL six (ys.take (j + 1)), Fits six s.1 ∧ Fits six s.2) := by
                show _ ∧ _
                rw [HS6.out]
                exact ⟨by have := HI.out.1; omega, HI.out.2⟩
              have HO6' : Hid (Wk.Own w6 w1.heap.size 141 6 (.slice (some ⟨g, 0, none⟩) N c3) ((spansL six (ys.take (j + 1))).map (spC six))) := by
                show Wk.Own _ _ _ _ _ _
                rw [HS6.out]; exact HO6.out
              go_wp2
              go_roundw
              case rel => exact ⟨j + 1, by omega, by go_num, HO6', HI6, HB6⟩
              case measure => simp [intOf]; omega
    · obtain rfl : j = ys.length := by omega
      rw [List.take_length] at HO
      clear HI
      go_wp2_with fail
      exact bodyPost_ret (v := _) (by simp [results, Try.results44, go_sem]) rfl ⟨_, ys, rfl, HR.out, own_base HO.out HB1.out.size, HB1.out.trans (HB.out.mono HB1.out.size)⟩
end Go.Proofs.Ytoecmoicaklbaaa
