
/- Contracts of package class: put into a tree. -/
import Derived.Test.YtlcacocecdnpnaaCls1
set_option linter.unusedVariables false
namespace Go.Proofs.Ytlcacocecdnpnaa
open Go.RowKit Go.Sort Wc Wk

structure Ext (w : World) (D D' : Nat → Nat → Option (Nat × Nat)) : Prop where
  old : ∀ i v a, D i v = some a → D' i v = some a
  new : ∀ i v b o, D' i v = some (b, o) → D i v = some (b, o) ∨ w.heap.size ≤ b
theorem Ext.refl (w : World) (D : Nat → Nat → Option (Nat × Nat)) : Ext w D D := ⟨fun _ _ _ h => h, fun _ _ _ _ h => .inl h⟩
theorem Ext.add {w : World} {D D' : Nat → Nat → Option (Nat × Nat)} (h : Ext w D D') {i v nb : Nat} (hn : D' i v = none) (hb : w.heap.size ≤ nb) : Ext w D (addD D' i v nb) := by
  refine ⟨fun j u a ha => ?_, fun j u b o hj => ?_⟩
  · rw [addD_other]
    · exact h.old j u a ha
    · rintro ⟨rfl, rfl⟩
      rw [h.old _ _ _ ha] at hn; cases hn
  · by_cases hx : j = i ∧ u = v
    · obtain ⟨rfl, rfl⟩ := hx
      rw [addD_same] at hj; cases hj
      exact .inr hb
    · rw [addD_other hx] at hj; exact h.new j u b o hj
theorem Ext.foot {w : World} {D D' : Nat → Nat → Option (Nat × Nat)} (h : Ext w D D') {b x : Nat} (hb : b < w.heap.size) (hf : Foot D' b x) : Foot D b x := by
  obtain ⟨i, v, o, hd, h1, h2⟩ := hf
  rcases h.new i v b o hd with h3 | h3
  · exact ⟨i, v, o, h3, h1, h2⟩
  · omega
def putH (H : Nat → Nat → Nat) (n k place : Nat) : Nat → Nat → Nat := fun i v => if i = k ∧ v = hd n k then H i v ||| 2 ^ place else H i v
theorem putH_eq (H : Nat → Nat → Nat) (n k place : Nat) : (fun j u => if j = k ∧ u = hd n k then H k (hd n k) ||| 2 ^ place else H j u) = putH H n k place := by
  funext j u
  unfold putH
  by_cases h : j = k ∧ u = hd n k
  · obtain ⟨rfl, rfl⟩ := h; rfl
  · rw [if_neg h, if_neg h]
theorem Ext.mono {w W : World} {D D' : Nat → Nat → Option (Nat × Nat)} (h : Ext W D D') (hs : w.heap.size ≤ W.heap.size) : Ext w D D' := ⟨h.old, fun i v b o hd => (h.new i v b o hd).imp id (fun k => Nat.le_trans hs k)⟩
theorem set_alloc (w : World) (b x : Nat) (u : Value) (o : Obj) (hb : b < w.heap.size) : (w.alloc o).setCell ⟨b, x, none⟩ u = (w.setCell ⟨b, x, none⟩ u).alloc o := by
  unfold World.alloc World.setCell
  simp only [World.mk.injEq, and_true]
  apply Array.ext
  · simp
  · intro i h1 h2
    simp only [Array.getElem_modify, Array.getElem_push]
    by_cases hi : i < w.heap.size
    · simp [hi]
    · have : i ≠ b := by omega
      simp [hi, this.symm]
def PutSays (w : World) (rb ro : Nat) (D : Nat → Nat → Option (Nat × Nat)) (H : Nat → Nat → Nat) (w' : World) : Prop := ∃ D', Tr w' rb ro D' H ∧ Chg w w' (Foot D) ∧ Ext w D D'


set_option maxRecDepth 100000 in
set_option maxHeartbeats 4000000 in
theorem put_any (rb ro n k place : Nat) (D : Nat → Nat → Option (Nat × Nat)) (H : Nat → Nat → Nat) (w : World) (t : Tr w rb ro D H) (hH : ∀ i v, H i v < 2 ^ 30) (hp : VP false n k) (hpl : place < 30) :
    Calls Try.prog 67 #[.pointer (some ⟨rb, ro, none⟩), Value.agg #[.bool false, .int .u64 (hiOf false n), .int .u64 (loOf n), .int .i64 k], .int .i64 place] w fun e w' => e = .returned (.tuple #[]) ∧ PutSays w rb ro D (putH H n k place) w' := by
  have HT := Lib.hid t
  have HN := Lib.hid hp.1
  have hk : k ≤ 32 := hp.2.1
  have A := Lib.hid (fun i w h0 h1 => at_any false n i w hp.1 h0 h1)
  rw [show wdI false = 32 from rfl] at A
  clear t hp
  go_enter Try.func67, Try.ntmps67
  go_wp2_with fail
  have F0 : (w.alloc (.cells #[.bool false, .int .u64 (hiOf false n), .int .u64 (loOf n), .int .i64 k] 40)).cell? ⟨w.heap.size, 0, none⟩ = some (.bool false) := by simp
  have F1 : (w.alloc (.cells #[.bool false, .int .u64 (hiOf false n), .int .u64 (loOf n), .int .i64 k] 40)).cell? ⟨w.heap.size, 1, none⟩ = some (.int .u64 (hiOf false n)) := by simp
  have F2 : (w.alloc (.cells #[.bool false, .int .u64 (hiOf false n), .int .u64 (loOf n), .int .i64 k] 40)).cell? ⟨w.heap.size, 2, none⟩ = some (.int .u64 (loOf n)) := by simp
  have F3 : (w.alloc (.cells #[.bool false, .int .u64 (hiOf false n), .int .u64 (loOf n), .int .i64 k] 40)).cell? ⟨w.heap.size, 3, none⟩ = some (.int .i64 k) := by simp
  have FS : w.heap.size < (w.alloc (.cells #[.bool false, .int .u64 (hiOf false n), .int .u64 (loOf n), .int .i64 k] 40)).heap.size := by simp
  have FB : Below w.heap.size w (w.alloc (.cells #[.bool false, .int .u64 (hiOf false n), .int .u64 (loOf n), .int .i64 k] 40)) := by (repeat' (first | (with_reducible exact Below.refl _ _) | (with_reducible assumption) | (with_reducible refine Below.alloc ?_ ?_ _) | (with_reducible refine Below.drew ?_) | (with_reducible refine Below.stepG ?_ (by assumption) ?_) | (with_reducible refine Below.setCell ?_ ?_ _) | omega | (dsimp only; omega) | (simp; done) | (simp; omega)))
  have FT := Lib.hid (HT.out.below (w' := w.alloc (.cells #[.bool false, .int .u64 (hiOf false n), .int .u64 (loOf n), .int .i64 k] 40)) FB)
  have NF : Hid (∀ x, ¬ Foot D w.heap.size x) := by
    rintro x ⟨i, v, o, hd, _, _⟩
    have := (HT.out.node i v _ o hd).lt
    omega
  generalize w.alloc (.cells #[.bool false, .int .u64 (hiOf false n), .int .u64 (loOf n), .int .i64 k] 40) = W at *
  obtain ⟨B, hB⟩ : ∃ B, B = w.heap.size := ⟨_, rfl⟩
  rw [← hB] at F0 F1 F2 F3 FS NF ⊢
  have hBe : w.heap.size ≤ B := by omega
  clear hB HT
  go_loopw [0, 10] (fun pv iv wr => ∃ (i b o : Nat) (D' : Nat → Nat → Option (Nat × Nat)), i ≤ k ∧ iv = .int .i64 i ∧ pv = .pointer (some ⟨b, o, none⟩) ∧ Hid (D' i (hd n i) = some (b, o)) ∧ Hid (Tr wr rb ro D' H) ∧ Hid (Chg W wr (Foot D)) ∧ Hid (Ext W D D') ∧ W.heap.size ≤ wr.heap.size) (fun _ iv _ => k - (intOf iv).toNat)
  case atStart => exact ⟨0, rb, ro, D, by omega, rfl, rfl, by show D 0 (hd n 0) = _; rw [hd_zero HN.out]; exact FT.out.root, FT, Chg.refl _ _, Ext.refl _ _, Nat.le_refl _⟩
  case round =>
    obtain ⟨i, b, o, D', hi, rfl, rfl, HD, HTr, HC, HE, hzr⟩ := hrel
    have q0 := (HC.out.cell B 0 FS (NF.out 0)).trans F0
    have q1 := (HC.out.cell B 1 FS (NF.out 1)).trans F1
    have q2 := (HC.out.cell B 2 FS (NF.out 2)).trans F2
    have q3 := (HC.out.cell B 3 FS (NF.out 3)).trans F3
    have qs : B < wr.heap.size := by omega
    obtain ⟨ltb, g0, g1, g2, f0, f1, f2⟩ := HTr.out.node _ _ _ _ HD.out
    clear F0 F1 F2 F3
    by_cases hlt : i < k
    · have HS := Lib.hid (hd_succ n i (by omega))
      have hbit := bitAt_le false n i
      have Ai := Lib.hid (fun w => A.out i w (by omega) (by omega))
      rw [show ((i : Int)).toNat = i from rfl] at Ai
      clear g0 f0
      generalize hc : bitAt false n i = c at *
      clear hc
      have hc2 : c = 0 ∨ c = 1 := by omega
      rcases hc2 with rfl | rfl
      · have HS2 := Lib.hid (show hd n (i + 1) = 2 * hd n i by have := HS.out; omega)
        rcases hx : D' (i + 1) (2 * hd n i) with _ | ⟨b2, o2⟩
        · rw [hx, ptrV_none] at g1
          have HX := Lib.hid hx
          clear hx HS
          go_wp2_with fail
          refine wp_region_qb (by kernel_rfl) (by kernel_rfl) (fun kq => ?_)
          repeat (quiet_step (first | (with_reducible exact Calls.regrown_of (Ai.out _))))
          clear kq
          refine wpQuiet_nil ?_; intro w1 hb1; (repeat (with_reducible (replace hb1 := Below.undrew hb1))); obtain ⟨hc1, hf1⟩ := bcell hb1; have hz1 := hb1.size; (repeat (first | rw [World.size_alloc] at hz1 | rw [World.size_drew] at hz1 | rw [World.size_setCell] at hz1)); (try have : b < w1.heap.size := by omega); (try have : b < w1.heap.size + 1 := by omega); (try have : b < w1.heap.size + 1 + 1 := by omega); (try have : b < w1.heap.size + 1 + 1 + 1 := by omega); (try have : B < w1.heap.size := by omega); (try have : B < w1.heap.size + 1 := by omega); (try have : B < w1.heap.size + 1 + 1 := by omega); (try have : B < w1.heap.size + 1 + 1 + 1 := by omega); (try have : w.heap.size < w1.heap.size := by omega); (try have : w.heap.size < w1.heap.size + 1 := by omega); (try have : w.heap.size < w1.heap.size + 1 + 1 := by omega); (try have : w.heap.size < w1.heap.size + 1 + 1 + 1 := by omega); (try have : wr.heap.size < w1.heap.size := by omega); (try have : wr.heap.size < w1.heap.size + 1 := by omega); (try have : wr.heap.size < w1.heap.size + 1 + 1 := by omega); (try have : wr.heap.size < w1.heap.size + 1 + 1 + 1 := by omega)
          go_wp2_with fail
          obtain ⟨G1, G2⟩ := (HTr.out.below hb1).grow HD.out (c := 0) (by decide) HX.out 115
          have HC1 : Hid (Chg W w1 (Foot D)) := HC.out.trans (Chg.of_below hb1 (Foot D)) (fun _ _ _ h => h)
          have HC2 : Hid (Chg W ((w1.alloc (.cells #[.int .u64 0, .pointer none, .pointer none] 115)).setCell ⟨b, o + 1 + 0, none⟩ (.pointer (some ⟨w1.heap.size, 0, none⟩))) (Foot D)) := HC1.out.trans G2 (fun b x hb h => HE.out.foot hb h)
          have HE2 : Hid (Ext W D (addD D' (i + 1) (2 * hd n i + 0) w1.heap.size)) := HE.out.add HX.out (by omega)
          have HD2 : Hid (addD D' (i + 1) (2 * hd n i + 0) w1.heap.size (i + 1) (hd n (i + 1)) = some (w1.heap.size, 0)) := by
            show addD D' (i + 1) (2 * hd n i + 0) w1.heap.size (i + 1) (hd n (i + 1)) = some (w1.heap.size, 0)
            rw [HS2.out]; exact addD_same _ _ _ _
          have hsz := HC2.out.size
          rw [set_alloc _ _ _ _ _ (by omega)] at G1 HC2 hsz
          go_roundw
          case rel => exact ⟨i + 1, w1.heap.size, 0, _, by omega, by go_num, rfl, HD2, Lib.hid G1, HC2, HE2, hsz⟩
          case measure => simp [intOf]; omega
        · rw [hx, ptrV_some] at g1
          have HD2 := Lib.hid (show D' (i + 1) (hd n (i + 1)) = some (b2, o2) by rw [HS2.out]; exact hx)
          clear hx HS HS2
          go_wp2_with fail
          refine wp_region_qb (by kernel_rfl) (by kernel_rfl) (fun kq => ?_)
          repeat (quiet_step (first | (with_reducible exact Calls.regrown_of (Ai.out _))))
          clear kq
          refine wpQuiet_nil ?_; intro w1 hb1; (repeat (with_reducible (replace hb1 := Below.undrew hb1))); obtain ⟨hc1, hf1⟩ := bcell hb1; have hz1 := hb1.size; (repeat (first | rw [World.size_alloc] at hz1 | rw [World.size_drew] at hz1 | rw [World.size_setCell] at hz1)); (try have : b < w1.heap.size := by omega); (try have : b < w1.heap.size + 1 := by omega); (try have : b < w1.heap.size + 1 + 1 := by omega); (try have : b < w1.heap.size + 1 + 1 + 1 := by omega); (try have : B < w1.heap.size := by omega); (try have : B < w1.heap.size + 1 := by omega); (try have : B < w1.heap.size + 1 + 1 := by omega); (try have : B < w1.heap.size + 1 + 1 + 1 := by omega); (try have : w.heap.size < w1.heap.size := by omega); (try have : w.heap.size < w1.heap.size + 1 := by omega); (try have : w.heap.size < w1.heap.size + 1 + 1 := by omega); (try have : w.heap.size < w1.heap.size + 1 + 1 + 1 := by omega); (try have : wr.heap.size < w1.heap.size := by omega); (try have : wr.heap.size < w1.heap.size + 1 := by omega); (try have : wr.heap.size < w1.heap.size + 1 + 1 := by omega); (try have : wr.heap.size < w1.heap.size + 1 + 1 + 1 := by omega)
          go_wp2_with fail
          have HC1 : Hid (Chg W w1 (Foot D)) := HC.out.trans (Chg.of_below hb1 (Foot D)) (fun _ _ _ h => h)
          have hsz := HC1.out.size
          go_roundw
          case rel => exact ⟨i + 1, b2, o2, D', by omega, by go_num, rfl, HD2, Lib.hid (HTr.out.below hb1), HC1, HE, hsz⟩
          case measure => simp [intOf]; omega
      · have HS2 := Lib.hid (show hd n (i + 1) = 2 * hd n i + 1 by have := HS.out; omega)
        rcases hx : D' (i + 1) (2 * hd n i + 1) with _ | ⟨b2, o2⟩
        · rw [hx, ptrV_none] at g2
          have HX := Lib.hid hx
          clear hx HS
          go_wp2_with fail
          refine wp_region_qb (by kernel_rfl) (by kernel_rfl) (fun kq => ?_)
          repeat (quiet_step (first | (with_reducible exact Calls.regrown_of (Ai.out _))))
          clear kq
          refine wpQuiet_nil ?_; intro w1 hb1; (repeat (with_reducible (replace hb1 := Below.undrew hb1))); obtain ⟨hc1, hf1⟩ := bcell hb1; have hz1 := hb1.size; (repeat (first | rw [World.size_alloc] at hz1 | rw [World.size_drew] at hz1 | rw [World.size_setCell] at hz1)); (try have : b < w1.heap.size := by omega); (try have : b < w1.heap.size + 1 := by omega); (try have : b < w1.heap.size + 1 + 1 := by omega); (try have : b < w1.heap.size + 1 + 1 + 1 := by omega); (try have : B < w1.heap.size := by omega); (try have : B < w1.heap.size + 1 := by omega); (try have : B < w1.heap.size + 1 + 1 := by omega); (try have : B < w1.heap.size + 1 + 1 + 1 := by omega); (try have : w.heap.size < w1.heap.size := by omega); (try have : w.heap.size < w1.heap.size + 1 := by omega); (try have : w.heap.size < w1.heap.size + 1 + 1 := by omega); (try have : w.heap.size < w1.heap.size + 1 + 1 + 1 := by omega); (try have : wr.heap.size < w1.heap.size := by omega); (try have : wr.heap.size < w1.heap.size + 1 := by omega); (try have : wr.heap.size < w1.heap.size + 1 + 1 := by omega); (try have : wr.heap.size < w1.heap.size + 1 + 1 + 1 := by omega)
          go_wp2_with fail
          obtain ⟨G1, G2⟩ := (HTr.out.below hb1).grow HD.out (c := 1) (by decide) HX.out 115
          have HC1 : Hid (Chg W w1 (Foot D)) := HC.out.trans (Chg.of_below hb1 (Foot D)) (fun _ _ _ h => h)
          have HC2 : Hid (Chg W ((w1.alloc (.cells #[.int .u64 0, .pointer none, .pointer none] 115)).setCell ⟨b, o + 1 + 1, none⟩ (.pointer (some ⟨w1.heap.size, 0, none⟩))) (Foot D)) := HC1.out.trans G2 (fun b x hb h => HE.out.foot hb h)
          have HE2 : Hid (Ext W D (addD D' (i + 1) (2 * hd n i + 1) w1.heap.size)) := HE.out.add HX.out (by omega)
          have HD2 : Hid (addD D' (i + 1) (2 * hd n i + 1) w1.heap.size (i + 1) (hd n (i + 1)) = some (w1.heap.size, 0)) := by
            show addD D' (i + 1) (2 * hd n i + 1) w1.heap.size (i + 1) (hd n (i + 1)) = some (w1.heap.size, 0)
            rw [HS2.out]; exact addD_same _ _ _ _
          have hsz := HC2.out.size
          rw [set_alloc _ _ _ _ _ (by omega)] at G1 HC2 hsz
          go_roundw
          case rel => exact ⟨i + 1, w1.heap.size, 0, _, by omega, by go_num, rfl, HD2, Lib.hid G1, HC2, HE2, hsz⟩
          case measure => simp [intOf]; omega
        · rw [hx, ptrV_some] at g2
          have HD2 := Lib.hid (show D' (i + 1) (hd n (i + 1)) = some (b2, o2) by rw [HS2.out]; exact hx)
          clear hx HS HS2
          go_wp2_with fail
          refine wp_region_qb (by kernel_rfl) (by kernel_rfl) (fun kq => ?_)
          repeat (quiet_step (first | (with_reducible exact Calls.regrown_of (Ai.out _))))
          clear kq
          refine wpQuiet_nil ?_; intro w1 hb1; (repeat (with_reducible (replace hb1 := Below.undrew hb1))); obtain ⟨hc1, hf1⟩ := bcell hb1; have hz1 := hb1.size; (repeat (first | rw [World.size_alloc] at hz1 | rw [World.size_drew] at hz1 | rw [World.size_setCell] at hz1)); (try have : b < w1.heap.size := by omega); (try have : b < w1.heap.size + 1 := by omega); (try have : b < w1.heap.size + 1 + 1 := by omega); (try have : b < w1.heap.size + 1 + 1 + 1 := by omega); (try have : B < w1.heap.size := by omega); (try have : B < w1.heap.size + 1 := by omega); (try have : B < w1.heap.size + 1 + 1 := by omega); (try have : B < w1.heap.size + 1 + 1 + 1 := by omega); (try have : w.heap.size < w1.heap.size := by omega); (try have : w.heap.size < w1.heap.size + 1 := by omega); (try have : w.heap.size < w1.heap.size + 1 + 1 := by omega); (try have : w.heap.size < w1.heap.size + 1 + 1 + 1 := by omega); (try have : wr.heap.size < w1.heap.size := by omega); (try have : wr.heap.size < w1.heap.size + 1 := by omega); (try have : wr.heap.size < w1.heap.size + 1 + 1 := by omega); (try have : wr.heap.size < w1.heap.size + 1 + 1 + 1 := by omega)
          go_wp2_with fail
          have HC1 : Hid (Chg W w1 (Foot D)) := HC.out.trans (Chg.of_below hb1 (Foot D)) (fun _ _ _ h => h)
          have hsz := HC1.out.size
          go_roundw
          case rel => exact ⟨i + 1, b2, o2, D', by omega, by go_num, rfl, HD2, Lib.hid (HTr.out.below hb1), HC1, HE, hsz⟩
          case measure => simp [intOf]; omega
    · obtain rfl : i = k := by omega
      obtain ⟨M1, M2⟩ := HTr.out.mark HD.out (H i (hd n i) ||| 2 ^ place)
      have hor : bits .or .u64 (H i (hd n i) : Int) (IntKind.u64.wrap (2 ^ place)) = ((H i (hd n i) ||| 2 ^ place : Nat) : Int) := by
        rw [wrap_pow place (by omega)]
        exact or_u64 (Nat.lt_trans (hH _ _) (by decide)) (Nat.pow_lt_pow_right (by decide) (by omega))
      have HC2 : Hid (Chg W (wr.setCell ⟨b, o, none⟩ (.int .u64 ((H i (hd n i) ||| 2 ^ place : Nat) : Int))) (Foot D)) := HC.out.trans M2 (fun b x hb h => HE.out.foot hb h)
      have HOR := Lib.hid hor
      clear hor
      go_wp2_with fail
      go_region
      all_goals go_wp2_with fail
      all_goals rw [HOR.out]
      all_goals go_end0
      all_goals refine ⟨rfl, D', ?_, ?_, HE.out.mono FB.size⟩
      · rw [← putH_eq]
        exact M1.below (Below.drew (Below.refl _ _))
      · exact ((Chg.of_below FB (Foot D)).trans HC2.out (fun _ _ _ h => h)).trans (Chg.of_below (Below.drew (Below.refl _ _)) (Foot D)) (fun _ _ _ h => h)
end Go.Proofs.Ytlcacocecdnpnaa
