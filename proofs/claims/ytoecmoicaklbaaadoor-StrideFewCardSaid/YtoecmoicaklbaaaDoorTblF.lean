
/- Contracts of package table: the place of a prefix. -/
import Derived.Test.YtoecmoicaklbaaaDoorTblW
import Derived.Test.YtoecmoicaklbaaaDoorPre
import Derived.Test.YtoecmoicaklbaaaDoorKit
import Derived.Deep.LoopGhost
import Derived.Deep.DeepCutAuto
import Derived.Test.YtoecmoicaklbaaaDoorTbl0
import Derived.Test.YtoecmoicaklbaaaDoorPre4
set_option linter.unusedVariables false
namespace Go.Proofs.YtoecmoicaklbaaaDoor
open Go Go.RowKit Go.Sort Wc Wk


theorem root_any (tb : Nat) (n k : Nat) (w : World) : Calls Tryd.prog 82 #[.pointer (some ⟨tb, 0, none⟩), Value.agg #[.bool false, .int .u64 (hiOf false n), .int .u64 (loOf n), .int .i64 k]] w fun e w' => e = .returned (.pointer (some ⟨tb, 0, none⟩)) ∧ Below w.heap.size w w' := by
  go_enter Tryd.func82, Tryd.ntmps82
  go_wp2
  go_returns
  exact ⟨rfl, by (repeat' (first | (with_reducible exact Below.refl _ _) | (with_reducible assumption) | (with_reducible refine Below.al ?_ _) | (with_reducible refine Below.dr ?_) | (with_reducible refine Below.step ?_ (by assumption)) | (with_reducible refine Below.set ?_ ?_ _) | omega | (dsimp only; omega) | (simp; done) | (simp; omega)))⟩

/-- A way down, its end, and what the place holds. -/
def PlaceSays (w : World) (tb n k : Nat) (T : BT) (e : Ending) (w' : World) : Prop := ∃ c t, T = plug c t ∧ onPath c n k ∧ Stop t n k ∧ e = .returned (.pointer (some ⟨slotB tb c, slotO c, none⟩)) ∧ Below w.heap.size w w'


set_option maxRecDepth 100000 in
set_option maxHeartbeats 4000000 in
theorem place_nil (tb cnt n k : Nat) (T : BT) (w : World) (ht : TabR w tb T cnt) (hw : T.wf) (hp : VP false n k) :
    Calls Tryd.prog 68 #[.pointer (some ⟨tb, 0, none⟩), Value.agg #[.bool false, .int .u64 (hiOf false n), .int .u64 (loOf n), .int .i64 k], .nilFunc] w (PlaceSays w tb n k T) := by
  have HT := Lib.hid ht
  have HW := Lib.hid hw
  have HP := Lib.hid hp
  have R := Lib.hid (fun w => root_any tb n k w)
  have A := Lib.hid (fun i w h0 h1 => at_any false n i w hp.1 h0 h1)
  rw [show wdI false = 32 from rfl] at A
  have hnf : ∀ w, (binOp BinOp.neq 127 .nilFunc .nilFunc).run Tryd.prog w = .ok (.bool false) w := fun _ => by kernel_rfl
  clear ht hw hp
  go_enter Tryd.func68, Tryd.ntmps68
  go_wp2_with (first | ((with_reducible refine (R.out _).mono ?_); rintro e w1 ⟨rfl, hb1⟩; (repeat (with_reducible (replace hb1 := Below.undrew hb1))); obtain ⟨hc1, hf1⟩ := bcell hb1; have hz1 := hb1.size; (repeat (first | rw [World.size_alloc] at hz1 | rw [World.size_drew] at hz1 | rw [World.size_setCell] at hz1)); (try have : B < w1.heap.size := by omega); (try have : B < w1.heap.size + 1 := by omega); (try have : B < w1.heap.size + 1 + 1 := by omega); (try have : B < w1.heap.size + 1 + 1 + 1 := by omega)))
  have F0 : w1.cell? ⟨w.heap.size, 0, none⟩ = some (.bool false) := by rw [hc1 _ _ (by simp)]; simp
  have F1 : w1.cell? ⟨w.heap.size, 1, none⟩ = some (.int .u64 (hiOf false n)) := by rw [hc1 _ _ (by simp)]; simp
  have F2 : w1.cell? ⟨w.heap.size, 2, none⟩ = some (.int .u64 (loOf n)) := by rw [hc1 _ _ (by simp)]; simp
  have F3 : w1.cell? ⟨w.heap.size, 3, none⟩ = some (.int .i64 k) := by rw [hc1 _ _ (by simp)]; simp
  have FS : w.heap.size < w1.heap.size := by omega
  have FT := Lib.hid (HT.out.below (w' := w1) (by (repeat' (first | (with_reducible exact Below.refl _ _) | (with_reducible assumption) | (with_reducible refine Below.alloc ?_ ?_ _) | (with_reducible refine Below.drew ?_) | (with_reducible refine Below.stepG ?_ (by assumption) ?_) | (with_reducible refine Below.setCell ?_ ?_ _) | omega | (dsimp only; omega) | (simp; done) | (simp; omega)))))
  have FB : Below w.heap.size w w1 := by (repeat' (first | (with_reducible exact Below.refl _ _) | (with_reducible assumption) | (with_reducible refine Below.alloc ?_ ?_ _) | (with_reducible refine Below.drew ?_) | (with_reducible refine Below.stepG ?_ (by assumption) ?_) | (with_reducible refine Below.setCell ?_ ?_ _) | omega | (dsimp only; omega) | (simp; done) | (simp; omega)))
  clear hb1 hc1 hf1 hz1 HT
  obtain ⟨B, hB⟩ : ∃ B, B = w.heap.size := ⟨_, rfl⟩
  rw [← hB] at F0 F1 F2 F3 FS ⊢
  clear hB
  go_loopg [7] (T.nodes.length + 1) (fun g av wr => ∃ (c : List Fr) (t : BT), Hid (T = plug c t) ∧ Hid (onPath c n k) ∧ t.nodes.length < g ∧ av = .pointer (some ⟨slotB tb c, slotO c, none⟩) ∧ Below w1.heap.size w1 wr)
  case atStart => exact ⟨[], T, Lib.hid rfl, Lib.hid (fun f hf => absurd hf List.not_mem_nil), Nat.lt_succ_self _, rfl, Below.refl _ _⟩
  case round =>
    obtain ⟨c, t, HC, HO, hg, rfl, hbr⟩ := hrel
    have hzr := hbr.size
    have q0 := (hbr.cell (p := ⟨B, 0, none⟩) FS).trans F0
    have q1 := (hbr.cell (p := ⟨B, 1, none⟩) FS).trans F1
    have q2 := (hbr.cell (p := ⟨B, 2, none⟩) FS).trans F2
    have q3 := (hbr.cell (p := ⟨B, 3, none⟩) FS).trans F3
    have qs : B < wr.heap.size := by omega
    have TT := FT.out.below hbr
    rw [HC.out] at TT
    obtain ⟨t1, t2, t3⟩ := tab_plug.1 TT
    obtain ⟨sl, sc, _⟩ := t1.at_slot
    have hwt := (plug_wf (show (plug c t).wf by rw [← HC.out]; exact HW.out)).1
    clear TT t1 t3 F0 F1 F2 F3
    generalize hsb : slotB tb c = sb at *
    generalize hso : slotO c = so at *
    have HSB := Lib.hid hsb
    have HSO := Lib.hid hso
    clear hsb hso
    cases t with
    | nil =>
      have sc' : wr.cell? ⟨sb, so, none⟩ = some (.pointer none) := sc
      clear sc
      go_wp2
      go_returns
      exact ⟨c, .nil, HC.out, HO.out, trivial, by rw [HSB.out, HSO.out]; rfl, FB.trans (hbr.mono (by have := FB.size; omega))⟩
    | node b n' k' h l r =>
      have sc' : wr.cell? ⟨sb, so, none⟩ = some (.pointer (some ⟨b, 0, none⟩)) := sc
      clear sc
      obtain ⟨⟨ltb, d0, d1, d2, d3, d4, d5, d6, _⟩, rl, rr⟩ := t2
      obtain ⟨hv, ul, ur, wl, wr'⟩ := hwt
      have OV := Lib.hid (fun w => over_any false n' k' n k w hv HP.out)
      go_wp2_with fail
      by_cases hex : n' = n ∧ k' = k
      · obtain ⟨rfl, rfl⟩ := hex
        refine wp_region_qb (by kernel_rfl) (by kernel_rfl) (fun kq => ?_)
        repeat (quiet_step (first | (with_reducible exact Calls.regrown_of (OV.out _))))
        clear kq
        refine wpQuiet_nil ?_; intro w2 hb2; (repeat (with_reducible (replace hb2 := Below.undrew hb2))); obtain ⟨hc2, hf2⟩ := bcell hb2; have hz2 := hb2.size; (repeat (first | rw [World.size_alloc] at hz2 | rw [World.size_drew] at hz2 | rw [World.size_setCell] at hz2)); (try have : B < w2.heap.size := by omega); (try have : B < w2.heap.size + 1 := by omega); (try have : B < w2.heap.size + 1 + 1 := by omega); (try have : B < w2.heap.size + 1 + 1 + 1 := by omega); (try have : w1.heap.size < w2.heap.size := by omega); (try have : w1.heap.size < w2.heap.size + 1 := by omega); (try have : w1.heap.size < w2.heap.size + 1 + 1 := by omega); (try have : w1.heap.size < w2.heap.size + 1 + 1 + 1 := by omega)
        go_wp2
        go_returns
        exact ⟨c, .node b n' k' h l r, HC.out, HO.out, .inl ⟨rfl, rfl⟩, by rw [HSB.out, HSO.out]; rfl, FB.trans ((hbr.mono (by have := FB.size; omega)).trans (hb2.mono (by have := FB.size; omega)))⟩
      · have hk' : k' ≤ 32 := hv.2.1
        by_cases hkk : k' = k
        · subst hkk
          have hne : ¬ n' = n := fun e => hex ⟨e, rfl⟩
          have hl : ¬ loOf n' = loOf n := fun e => hne (by
            rw [loOf_false hv.1, loOf_false HP.out.1] at e
            omega)
          have hcov : ¬ cov false n' k' n k' := fun hc => hne (by
            have e2 : cutN 32 n k' = n' := hc.2
            rw [← e2]; exact HP.out.2.2)
          rw [decide_eq_false hcov] at OV
          have HNC := Lib.hid hcov
          clear hcov hne hex
          refine wp_region_qb (by kernel_rfl) (by kernel_rfl) (fun kq => ?_)
          repeat (quiet_step (first | (with_reducible exact Calls.regrown_of (OV.out _))))
          clear kq
          refine wpQuiet_nil ?_; intro w2 hb2; (repeat (with_reducible (replace hb2 := Below.undrew hb2))); obtain ⟨hc2, hf2⟩ := bcell hb2; have hz2 := hb2.size; (repeat (first | rw [World.size_alloc] at hz2 | rw [World.size_drew] at hz2 | rw [World.size_setCell] at hz2)); (try have : B < w2.heap.size := by omega); (try have : B < w2.heap.size + 1 := by omega); (try have : B < w2.heap.size + 1 + 1 := by omega); (try have : B < w2.heap.size + 1 + 1 + 1 := by omega); (try have : w1.heap.size < w2.heap.size := by omega); (try have : w1.heap.size < w2.heap.size + 1 := by omega); (try have : w1.heap.size < w2.heap.size + 1 + 1 := by omega); (try have : w1.heap.size < w2.heap.size + 1 + 1 + 1 := by omega)
          go_wp2
          go_returns
          exact ⟨c, .node b n' k' h l r, HC.out, HO.out, .inr HNC.out, by rw [HSB.out, HSO.out]; rfl, FB.trans ((hbr.mono (by have := FB.size; omega)).trans (hb2.mono (by have := FB.size; omega)))⟩
        · have hki : ¬ ((k' : Int) = k) := by omega
          clear hex
          by_cases hcov : cov false n' k' n k
          · rw [decide_eq_true hcov] at OV
            have HCV := Lib.hid hcov
            clear hcov
            refine wp_region_qb (by kernel_rfl) (by kernel_rfl) (fun kq => ?_)
            repeat (quiet_step (first | (with_reducible exact Calls.regrown_of (OV.out _))))
            clear kq
            refine wpQuiet_nil ?_; intro w2 hb2; (repeat (with_reducible (replace hb2 := Below.undrew hb2))); obtain ⟨hc2, hf2⟩ := bcell hb2; have hz2 := hb2.size; (repeat (first | rw [World.size_alloc] at hz2 | rw [World.size_drew] at hz2 | rw [World.size_setCell] at hz2)); (try have : B < w2.heap.size := by omega); (try have : B < w2.heap.size + 1 := by omega); (try have : B < w2.heap.size + 1 + 1 := by omega); (try have : B < w2.heap.size + 1 + 1 + 1 := by omega); (try have : w1.heap.size < w2.heap.size := by omega); (try have : w1.heap.size < w2.heap.size + 1 := by omega); (try have : w1.heap.size < w2.heap.size + 1 + 1 := by omega); (try have : w1.heap.size < w2.heap.size + 1 + 1 + 1 := by omega)
            have hk'k : k' < k := by
              rcases Nat.lt_or_ge k' k with h | h
              · exact h
              · exact absurd (show k' = k by have := HCV.out.1; omega) hkk
            have HV := Lib.hid hv
            have D3 := (hb2.cell (p := ⟨b, 3, none⟩) (by omega)).trans d3
            have Q0 := (hb2.cell (p := ⟨B, 0, none⟩) qs).trans q0
            have Q1 := (hb2.cell (p := ⟨B, 1, none⟩) qs).trans q1
            have Q2 := (hb2.cell (p := ⟨B, 2, none⟩) qs).trans q2
            have hB2 : B < w2.heap.size := by omega
            have hb22 : b < w2.heap.size := by omega
            have hk32 : k ≤ 32 := HP.out.2.1
            have Ai := Lib.hid (fun w => A.out k' w (by omega) (by omega))
            rw [show ((k' : Int)).toNat = k' from rfl] at Ai
            have hbit := bitAt_le false n k'
            have HBT : Hid (bitAt false n k' = bitAt false n k') := rfl
            have hbw : Below w1.heap.size w1 w2 := hbr.trans (hb2.mono hzr)
            clear hv d0 d1 d2 d3 d4 d5 d6 q0 q1 q2 q3 hc2 hf2 OV sc'
            go_wp2_with fail
            generalize hbt : bitAt false n k' = bt at *
            have HB2 := Lib.hid hbt
            clear hbt HBT
            have hbc : bt = 0 ∨ bt = 1 := by omega
            rcases hbc with rfl | rfl
            · refine wp_region_qb (by kernel_rfl) (by kernel_rfl) (fun kq => ?_)
              repeat (quiet_step (first | (with_reducible exact Calls.regrown_of (Ai.out _))))
              clear kq
              refine wpQuiet_nil ?_; intro w3 hb3; (repeat (with_reducible (replace hb3 := Below.undrew hb3))); obtain ⟨hc3, hf3⟩ := bcell hb3; have hz3 := hb3.size; (repeat (first | rw [World.size_alloc] at hz3 | rw [World.size_drew] at hz3 | rw [World.size_setCell] at hz3)); (try have : B < w3.heap.size := by omega); (try have : B < w3.heap.size + 1 := by omega); (try have : B < w3.heap.size + 1 + 1 := by omega); (try have : B < w3.heap.size + 1 + 1 + 1 := by omega); (try have : w1.heap.size < w3.heap.size := by omega); (try have : w1.heap.size < w3.heap.size + 1 := by omega); (try have : w1.heap.size < w3.heap.size + 1 + 1 := by omega); (try have : w1.heap.size < w3.heap.size + 1 + 1 + 1 := by omega)
              go_wp2_with fail
              go_roundg (gk - 1)
              case measure => omega
              case rel =>
                refine ⟨⟨b, n', k', h, false, r⟩ :: c, l, HC.out, ?_, ?_, rfl, hbw.trans (hb3.mono (by omega))⟩
                · intro f hf
                  rcases List.mem_cons.1 hf with rfl | hf
                  · exact ⟨HV.out, HCV.out, hk'k, HB2.out⟩
                  · exact HO.out f hf
                · simp only [BT.nodes, List.length_cons, List.length_append] at hg; omega
            · refine wp_region_qb (by kernel_rfl) (by kernel_rfl) (fun kq => ?_)
              repeat (quiet_step (first | (with_reducible exact Calls.regrown_of (Ai.out _))))
              clear kq
              refine wpQuiet_nil ?_; intro w3 hb3; (repeat (with_reducible (replace hb3 := Below.undrew hb3))); obtain ⟨hc3, hf3⟩ := bcell hb3; have hz3 := hb3.size; (repeat (first | rw [World.size_alloc] at hz3 | rw [World.size_drew] at hz3 | rw [World.size_setCell] at hz3)); (try have : B < w3.heap.size := by omega); (try have : B < w3.heap.size + 1 := by omega); (try have : B < w3.heap.size + 1 + 1 := by omega); (try have : B < w3.heap.size + 1 + 1 + 1 := by omega); (try have : w1.heap.size < w3.heap.size := by omega); (try have : w1.heap.size < w3.heap.size + 1 := by omega); (try have : w1.heap.size < w3.heap.size + 1 + 1 := by omega); (try have : w1.heap.size < w3.heap.size + 1 + 1 + 1 := by omega)
              go_wp2_with fail
              go_roundg (gk - 1)
              case measure => omega
              case rel =>
                refine ⟨⟨b, n', k', h, true, l⟩ :: c, r, HC.out, ?_, ?_, rfl, hbw.trans (hb3.mono (by omega))⟩
                · intro f hf
                  rcases List.mem_cons.1 hf with rfl | hf
                  · exact ⟨HV.out, HCV.out, hk'k, HB2.out⟩
                  · exact HO.out f hf
                · simp only [BT.nodes, List.length_cons, List.length_append] at hg; omega
          · rw [decide_eq_false hcov] at OV
            have HNC := Lib.hid hcov
            clear hcov
            refine wp_region_qb (by kernel_rfl) (by kernel_rfl) (fun kq => ?_)
            repeat (quiet_step (first | (with_reducible exact Calls.regrown_of (OV.out _))))
            clear kq
            refine wpQuiet_nil ?_; intro w2 hb2; (repeat (with_reducible (replace hb2 := Below.undrew hb2))); obtain ⟨hc2, hf2⟩ := bcell hb2; have hz2 := hb2.size; (repeat (first | rw [World.size_alloc] at hz2 | rw [World.size_drew] at hz2 | rw [World.size_setCell] at hz2)); (try have : B < w2.heap.size := by omega); (try have : B < w2.heap.size + 1 := by omega); (try have : B < w2.heap.size + 1 + 1 := by omega); (try have : B < w2.heap.size + 1 + 1 + 1 := by omega); (try have : w1.heap.size < w2.heap.size := by omega); (try have : w1.heap.size < w2.heap.size + 1 := by omega); (try have : w1.heap.size < w2.heap.size + 1 + 1 := by omega); (try have : w1.heap.size < w2.heap.size + 1 + 1 + 1 := by omega)
            go_wp2
            go_returns
            exact ⟨c, .node b n' k' h l r, HC.out, HO.out, .inr HNC.out, by rw [HSB.out, HSO.out]; rfl, FB.trans ((hbr.mono (by have := FB.size; omega)).trans (hb2.mono (by have := FB.size; omega)))⟩
end Go.Proofs.YtoecmoicaklbaaaDoor

/- Contracts of package table: Get. -/
set_option linter.unusedVariables false
namespace Go.Proofs.YtoecmoicaklbaaaDoor
open Go Go.RowKit Go.Sort Wc Wk

/-- What a list has at a prefix; 0: nothing. -/
def Has (L : List (Nat × Nat × Nat)) (n k h : Nat) : Prop := ∀ h', h' ≠ 0 → ((n, k, h') ∈ L ↔ h = h')
theorem has_unique {L : List (Nat × Nat × Nat)} {n k h h' : Nat} (a : Has L n k h) (b : Has L n k h') : h = h' := by
  by_cases h0 : h = 0
  · by_cases h1 : h' = 0
    · rw [h0, h1]
    · exact (a h' h1).1 ((b h' h1).2 rfl)
  · exact ((b h h0).1 ((a h h0).2 rfl)).symm


set_option maxRecDepth 100000 in
set_option maxHeartbeats 2000000 in
theorem get_any (tb cnt n k : Nat) (T : BT) (w : World) (ht : TabR w tb T cnt) (hw : T.wf) (hp : VP false n k) :
    Calls Tryd.prog 72 #[.pointer (some ⟨tb, 0, none⟩), Value.agg #[.bool false, .int .u64 (hiOf false n), .int .u64 (loOf n), .int .i64 k]] w fun e w' => (∃ h : Nat, e = .returned (.int .i64 h) ∧ Has T.list n k h) ∧ Below w.heap.size w w' := by
  have HT := Lib.hid ht
  have PL := Lib.hid (fun w ht => place_nil tb cnt n k T w ht hw hp)
  have HW := Lib.hid hw
  have HP := Lib.hid hp
  clear ht hw hp
  go_enter Tryd.func72, Tryd.ntmps72
  go_wp2_with fail
  refine (PL.out _ (HT.out.below (by (repeat' (first | (with_reducible exact Below.refl _ _) | (with_reducible assumption) | (with_reducible refine Below.alloc ?_ ?_ _) | (with_reducible refine Below.drew ?_) | (with_reducible refine Below.stepG ?_ (by assumption) ?_) | (with_reducible refine Below.setCell ?_ ?_ _) | omega | (dsimp only; omega) | (simp; done) | (simp; omega)))))).mono ?_
  rintro e w1 ⟨c, t, hc, ho, hs, rfl, hb1⟩; (repeat (with_reducible (replace hb1 := Below.undrew hb1))); obtain ⟨hc1, hf1⟩ := bcell hb1; have hz1 := hb1.size; (repeat (first | rw [World.size_alloc] at hz1 | rw [World.size_drew] at hz1 | rw [World.size_setCell] at hz1)); (try have : w.heap.size < w1.heap.size := by omega); (try have : w.heap.size < w1.heap.size + 1 := by omega); (try have : w.heap.size < w1.heap.size + 1 + 1 := by omega); (try have : w.heap.size < w1.heap.size + 1 + 1 + 1 := by omega)
  have F0 : w1.cell? ⟨w.heap.size, 0, none⟩ = some (.bool false) := by rw [hc1 _ _ (by simp)]; simp
  have F1 : w1.cell? ⟨w.heap.size, 1, none⟩ = some (.int .u64 (hiOf false n)) := by rw [hc1 _ _ (by simp)]; simp
  have F2 : w1.cell? ⟨w.heap.size, 2, none⟩ = some (.int .u64 (loOf n)) := by rw [hc1 _ _ (by simp)]; simp
  have F3 : w1.cell? ⟨w.heap.size, 3, none⟩ = some (.int .i64 k) := by rw [hc1 _ _ (by simp)]; simp
  have TT := HT.out.below (w' := w1) (by (repeat' (first | (with_reducible exact Below.refl _ _) | (with_reducible assumption) | (with_reducible refine Below.alloc ?_ ?_ _) | (with_reducible refine Below.drew ?_) | (with_reducible refine Below.stepG ?_ (by assumption) ?_) | (with_reducible refine Below.setCell ?_ ?_ _) | omega | (dsimp only; omega) | (simp; done) | (simp; omega))))
  rw [hc] at TT
  obtain ⟨t1, t2, t3⟩ := tab_plug.1 TT
  obtain ⟨sl, sc, _⟩ := t1.at_slot
  have hwp : (plug c t).wf := by rw [← hc]; exact HW.out
  have hwt := (plug_wf hwp).1
  have GS := Lib.hid (fun h hh => get_says hwp ho HP.out hs h hh)
  rw [← hc] at GS
  have HBB : Below w.heap.size w w1 := by (repeat' (first | (with_reducible exact Below.refl _ _) | (with_reducible assumption) | (with_reducible refine Below.alloc ?_ ?_ _) | (with_reducible refine Below.drew ?_) | (with_reducible refine Below.stepG ?_ (by assumption) ?_) | (with_reducible refine Below.setCell ?_ ?_ _) | omega | (dsimp only; omega) | (simp; done) | (simp; omega)))
  clear TT t1 t3 hc1 hf1 hc hwp HT PL hb1 ho
  generalize slotB tb c = sb at *
  generalize slotO c = so at *
  cases t with
  | nil =>
    have sc' : w1.cell? ⟨sb, so, none⟩ = some (.pointer none) := sc
    clear sc
    go_wp2_with fail
    refine wp_region_qb (by kernel_rfl) (by kernel_rfl) (fun kq => ?_)
    repeat (quiet_step (fail))
    clear kq
    refine wpQuiet_nil ?_; intro w2 hb2; (repeat (with_reducible (replace hb2 := Below.undrew hb2))); obtain ⟨hc2, hf2⟩ := bcell hb2; have hz2 := hb2.size; (repeat (first | rw [World.size_alloc] at hz2 | rw [World.size_drew] at hz2 | rw [World.size_setCell] at hz2)); (try have : w.heap.size < w2.heap.size := by omega); (try have : w.heap.size < w2.heap.size + 1 := by omega); (try have : w.heap.size < w2.heap.size + 1 + 1 := by omega); (try have : w.heap.size < w2.heap.size + 1 + 1 + 1 := by omega); (try have : w1.heap.size < w2.heap.size := by omega); (try have : w1.heap.size < w2.heap.size + 1 := by omega); (try have : w1.heap.size < w2.heap.size + 1 + 1 := by omega); (try have : w1.heap.size < w2.heap.size + 1 + 1 + 1 := by omega)
    go_wp2
    go_returns
    exact ⟨⟨0, rfl, fun h hh => by rw [GS.out h hh]; rfl⟩, by (repeat' (first | (with_reducible exact Below.refl _ _) | (with_reducible assumption) | (with_reducible refine Below.alloc ?_ ?_ _) | (with_reducible refine Below.drew ?_) | (with_reducible refine Below.stepG ?_ (by assumption) ?_) | (with_reducible refine Below.setCell ?_ ?_ _) | omega | (dsimp only; omega) | (simp; done) | (simp; omega)))⟩
  | node b n' k' h l r =>
    have sc' : w1.cell? ⟨sb, so, none⟩ = some (.pointer (some ⟨b, 0, none⟩)) := sc
    clear sc
    obtain ⟨⟨ltb, d0, d1, d2, d3, d4, d5, d6, _⟩, _, _⟩ := t2
    by_cases hex : n' = n ∧ k' = k
    · obtain ⟨rfl, rfl⟩ := hex
      go_wp2_with fail
      refine wp_region_qb (by kernel_rfl) (by kernel_rfl) (fun kq => ?_)
      repeat (quiet_step (fail))
      clear kq
      refine wpQuiet_nil ?_; intro w2 hb2; (repeat (with_reducible (replace hb2 := Below.undrew hb2))); obtain ⟨hc2, hf2⟩ := bcell hb2; have hz2 := hb2.size; (repeat (first | rw [World.size_alloc] at hz2 | rw [World.size_drew] at hz2 | rw [World.size_setCell] at hz2)); (try have : w.heap.size < w2.heap.size := by omega); (try have : w.heap.size < w2.heap.size + 1 := by omega); (try have : w.heap.size < w2.heap.size + 1 + 1 := by omega); (try have : w.heap.size < w2.heap.size + 1 + 1 + 1 := by omega); (try have : w1.heap.size < w2.heap.size := by omega); (try have : w1.heap.size < w2.heap.size + 1 := by omega); (try have : w1.heap.size < w2.heap.size + 1 + 1 := by omega); (try have : w1.heap.size < w2.heap.size + 1 + 1 + 1 := by omega)
      have d4' := (hc2 b 4 ltb).trans d4
      clear hc2 hf2
      go_wp2
      go_returns
      exact ⟨⟨h, rfl, fun h' hh => by rw [GS.out h' hh]; simp [exactH]⟩, by (repeat' (first | (with_reducible exact Below.refl _ _) | (with_reducible assumption) | (with_reducible refine Below.alloc ?_ ?_ _) | (with_reducible refine Below.drew ?_) | (with_reducible refine Below.stepG ?_ (by assumption) ?_) | (with_reducible refine Below.setCell ?_ ?_ _) | omega | (dsimp only; omega) | (simp; done) | (simp; omega)))⟩
    · have hE : exactH (.node b n' k' h l r) n k = 0 := by simp [exactH, hex]
      rw [hE] at GS
      by_cases hkk : k' = k
      · have hne : ¬ n' = n := fun e => hex ⟨e, hkk⟩
        have hl : ¬ loOf n' = loOf n := fun e => hne (by
          rw [loOf_false hwt.1.1, loOf_false HP.out.1] at e
          omega)
        subst hkk
        clear hex hne
        go_wp2_with fail
        refine wp_region_qb (by kernel_rfl) (by kernel_rfl) (fun kq => ?_)
        repeat (quiet_step (fail))
        clear kq
        refine wpQuiet_nil ?_; intro w2 hb2; (repeat (with_reducible (replace hb2 := Below.undrew hb2))); obtain ⟨hc2, hf2⟩ := bcell hb2; have hz2 := hb2.size; (repeat (first | rw [World.size_alloc] at hz2 | rw [World.size_drew] at hz2 | rw [World.size_setCell] at hz2)); (try have : w.heap.size < w2.heap.size := by omega); (try have : w.heap.size < w2.heap.size + 1 := by omega); (try have : w.heap.size < w2.heap.size + 1 + 1 := by omega); (try have : w.heap.size < w2.heap.size + 1 + 1 + 1 := by omega); (try have : w1.heap.size < w2.heap.size := by omega); (try have : w1.heap.size < w2.heap.size + 1 := by omega); (try have : w1.heap.size < w2.heap.size + 1 + 1 := by omega); (try have : w1.heap.size < w2.heap.size + 1 + 1 + 1 := by omega)
        go_wp2
        go_returns
        exact ⟨⟨0, rfl, GS.out⟩, by (repeat' (first | (with_reducible exact Below.refl _ _) | (with_reducible assumption) | (with_reducible refine Below.alloc ?_ ?_ _) | (with_reducible refine Below.drew ?_) | (with_reducible refine Below.stepG ?_ (by assumption) ?_) | (with_reducible refine Below.setCell ?_ ?_ _) | omega | (dsimp only; omega) | (simp; done) | (simp; omega)))⟩
      · have hki : ¬ ((k' : Int) = k) := by omega
        clear hex
        go_wp2_with fail
        refine wp_region_qb (by kernel_rfl) (by kernel_rfl) (fun kq => ?_)
        repeat (quiet_step (fail))
        clear kq
        refine wpQuiet_nil ?_; intro w2 hb2; (repeat (with_reducible (replace hb2 := Below.undrew hb2))); obtain ⟨hc2, hf2⟩ := bcell hb2; have hz2 := hb2.size; (repeat (first | rw [World.size_alloc] at hz2 | rw [World.size_drew] at hz2 | rw [World.size_setCell] at hz2)); (try have : w.heap.size < w2.heap.size := by omega); (try have : w.heap.size < w2.heap.size + 1 := by omega); (try have : w.heap.size < w2.heap.size + 1 + 1 := by omega); (try have : w.heap.size < w2.heap.size + 1 + 1 + 1 := by omega); (try have : w1.heap.size < w2.heap.size := by omega); (try have : w1.heap.size < w2.heap.size + 1 := by omega); (try have : w1.heap.size < w2.heap.size + 1 + 1 := by omega); (try have : w1.heap.size < w2.heap.size + 1 + 1 + 1 := by omega)
        go_wp2
        go_returns
        exact ⟨⟨0, rfl, GS.out⟩, by (repeat' (first | (with_reducible exact Below.refl _ _) | (with_reducible assumption) | (with_reducible refine Below.alloc ?_ ?_ _) | (with_reducible refine Below.drew ?_) | (with_reducible refine Below.stepG ?_ (by assumption) ?_) | (with_reducible refine Below.setCell ?_ ?_ _) | omega | (dsimp only; omega) | (simp; done) | (simp; omega)))⟩
end Go.Proofs.YtoecmoicaklbaaaDoor

/- Contracts of package table: the fork of a Put. -/
set_option linter.unusedVariables false
namespace Go.Proofs.YtoecmoicaklbaaaDoor
open Go Go.RowKit Go.Sort Wc Wk

theorem tn_left {w : World} {b n k h : Nat} {pl pr : Option (Nat × Nat)} (a : TN w b n k h pl pr) (q : Option (Nat × Nat)) : TN (w.setCell ⟨b, 5, none⟩ (ptrV q)) b n k h q pr := by
  have s := chg_set w b 5 (ptrV q)
  exact ⟨Nat.lt_of_lt_of_le a.lt s.size, (s.cell _ _ a.lt (fun h => absurd h.2 (by decide))).trans a.c0, (s.cell _ _ a.lt (fun h => absurd h.2 (by decide))).trans a.c1, (s.cell _ _ a.lt (fun h => absurd h.2 (by decide))).trans a.c2, (s.cell _ _ a.lt (fun h => absurd h.2 (by decide))).trans a.c3, (s.cell _ _ a.lt (fun h => absurd h.2 (by decide))).trans a.c4, World.cell?_setCell_same _ _ _ a.c5, (s.cell _ _ a.lt (fun h => absurd h.2 (by decide))).trans a.c6, fun o ho => (s.froz _ _ a.lt).trans (a.fz o ho)⟩
theorem tn_right {w : World} {b n k h : Nat} {pl pr : Option (Nat × Nat)} (a : TN w b n k h pl pr) (q : Option (Nat × Nat)) : TN (w.setCell ⟨b, 6, none⟩ (ptrV q)) b n k h pl q := by
  have s := chg_set w b 6 (ptrV q)
  exact ⟨Nat.lt_of_lt_of_le a.lt s.size, (s.cell _ _ a.lt (fun h => absurd h.2 (by decide))).trans a.c0, (s.cell _ _ a.lt (fun h => absurd h.2 (by decide))).trans a.c1, (s.cell _ _ a.lt (fun h => absurd h.2 (by decide))).trans a.c2, (s.cell _ _ a.lt (fun h => absurd h.2 (by decide))).trans a.c3, (s.cell _ _ a.lt (fun h => absurd h.2 (by decide))).trans a.c4, (s.cell _ _ a.lt (fun h => absurd h.2 (by decide))).trans a.c5, World.cell?_setCell_same _ _ _ a.c6, fun o ho => (s.froz _ _ a.lt).trans (a.fz o ho)⟩
theorem tn_hop {w : World} {b n k h : Nat} {pl pr : Option (Nat × Nat)} (a : TN w b n k h pl pr) (h' : Nat) : TN (w.setCell ⟨b, 4, none⟩ (.int .i64 h')) b n k h' pl pr := by
  have s := chg_set w b 4 (.int .i64 h')
  exact ⟨Nat.lt_of_lt_of_le a.lt s.size, (s.cell _ _ a.lt (fun h => absurd h.2 (by decide))).trans a.c0, (s.cell _ _ a.lt (fun h => absurd h.2 (by decide))).trans a.c1, (s.cell _ _ a.lt (fun h => absurd h.2 (by decide))).trans a.c2, (s.cell _ _ a.lt (fun h => absurd h.2 (by decide))).trans a.c3, World.cell?_setCell_same _ _ _ a.c4, (s.cell _ _ a.lt (fun h => absurd h.2 (by decide))).trans a.c5, (s.cell _ _ a.lt (fun h => absurd h.2 (by decide))).trans a.c6, fun o ho => (s.froz _ _ a.lt).trans (a.fz o ho)⟩
theorem TN.below {w w' : World} {b n k h : Nat} {pl pr : Option (Nat × Nat)} (a : TN w b n k h pl pr) (hb : Below w.heap.size w w') : TN w' b n k h pl pr := a.keep (Chg.of_below hb (fun _ _ => False)) (fun _ h => h)
structure PX (w : World) (p n k : Nat) : Prop where
  lt : p < w.heap.size
  c0 : w.cell? ⟨p, 0, none⟩ = some (.bool false)
  c1 : w.cell? ⟨p, 1, none⟩ = some (.int .u64 (hiOf false n))
  c2 : w.cell? ⟨p, 2, none⟩ = some (.int .u64 (loOf n))
  c3 : w.cell? ⟨p, 3, none⟩ = some (.int .i64 k)
theorem PX.below {w w' : World} {p n k : Nat} (h : PX w p n k) (hb : Below w.heap.size w w') : PX w' p n k :=
  ⟨Nat.lt_of_lt_of_le h.lt hb.size, (hb.cell (p := ⟨p, 0, none⟩) h.lt).trans h.c0, (hb.cell (p := ⟨p, 1, none⟩) h.lt).trans h.c1, (hb.cell (p := ⟨p, 2, none⟩) h.lt).trans h.c2, (hb.cell (p := ⟨p, 3, none⟩) h.lt).trans h.c3⟩
theorem PX.keep {w w' : World} {p n k : Nat} {G : Nat → Prop} (h : PX w p n k) (hb : Chg w w' (fun b _ => G b)) (hg : ¬ G p) : PX w' p n k :=
  ⟨Nat.lt_of_lt_of_le h.lt hb.size, (hb.cell _ _ h.lt hg).trans h.c0, (hb.cell _ _ h.lt hg).trans h.c1, (hb.cell _ _ h.lt hg).trans h.c2, (hb.cell _ _ h.lt hg).trans h.c3⟩

theorem px_new (w : World) (n k : Nat) (E : TypeId) : PX (w.alloc (.cells #[.bool false, .int .u64 (hiOf false n), .int .u64 (loOf n), .int .i64 k] E)) w.heap.size n k := by constructor <;> simp
theorem px_set {w : World} {p n k : Nat} {u0 u1 u2 u3 : Value} (lt : p < w.heap.size) (c0 : w.cell? ⟨p, 0, none⟩ = some u0) (c1 : w.cell? ⟨p, 1, none⟩ = some u1) (c2 : w.cell? ⟨p, 2, none⟩ = some u2) (c3 : w.cell? ⟨p, 3, none⟩ = some u3) :
    PX ((((w.setCell ⟨p, 0, none⟩ (.bool false)).setCell ⟨p, 1, none⟩ (.int .u64 (hiOf false n))).setCell ⟨p, 2, none⟩ (.int .u64 (loOf n))).setCell ⟨p, 3, none⟩ (.int .i64 k)) p n k := by
  have s1 := chg_set w p 0 (.bool false)
  have s2 := chg_set (w.setCell ⟨p, 0, none⟩ (.bool false)) p 1 (.int .u64 (hiOf false n))
  have s3 := chg_set ((w.setCell ⟨p, 0, none⟩ (.bool false)).setCell ⟨p, 1, none⟩ (.int .u64 (hiOf false n))) p 2 (.int .u64 (loOf n))
  have s4 := chg_set (((w.setCell ⟨p, 0, none⟩ (.bool false)).setCell ⟨p, 1, none⟩ (.int .u64 (hiOf false n))).setCell ⟨p, 2, none⟩ (.int .u64 (loOf n))) p 3 (.int .i64 k)
  have l1 : p < (w.setCell ⟨p, 0, none⟩ (.bool false)).heap.size := by simpa using lt
  have l2 : p < ((w.setCell ⟨p, 0, none⟩ (.bool false)).setCell ⟨p, 1, none⟩ (.int .u64 (hiOf false n))).heap.size := by simpa using lt
  have l3 : p < (((w.setCell ⟨p, 0, none⟩ (.bool false)).setCell ⟨p, 1, none⟩ (.int .u64 (hiOf false n))).setCell ⟨p, 2, none⟩ (.int .u64 (loOf n))).heap.size := by simpa using lt
  refine ⟨by simpa using lt, ?_, ?_, ?_, ?_⟩
  · exact (s4.cell _ _ l3 (by omega)).trans ((s3.cell _ _ l2 (by omega)).trans ((s2.cell _ _ l1 (by omega)).trans (World.cell?_setCell_same _ _ _ c0)))
  · exact (s4.cell _ _ l3 (by omega)).trans ((s3.cell _ _ l2 (by omega)).trans (World.cell?_setCell_same _ _ _ ((s1.cell _ _ lt (by omega)).trans c1)))
  · exact (s4.cell _ _ l3 (by omega)).trans (World.cell?_setCell_same _ _ _ ((s2.cell _ _ l1 (by omega)).trans ((s1.cell _ _ lt (by omega)).trans c2)))
  · exact World.cell?_setCell_same _ _ _ ((s3.cell _ _ l2 (by omega)).trans ((s2.cell _ _ l1 (by omega)).trans ((s1.cell _ _ lt (by omega)).trans c3)))
end Go.Proofs.YtoecmoicaklbaaaDoor
