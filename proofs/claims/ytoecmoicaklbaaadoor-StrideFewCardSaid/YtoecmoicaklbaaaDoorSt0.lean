
/- Drafts of nodes in memory: who stands where; a hop is put; a node comes. -/
import Derived.Test.YtoecmoicaklbaaaDoorStP
import Derived.Test.YtoecmoicaklbaaaDoorRg2
set_option linter.unusedVariables false
set_option linter.unusedSimpArgs false
namespace Go.Proofs.YtoecmoicaklbaaaDoor
open Go Go.RowKit Go.Sort Wc Wk

theorem rx_put1 {w : World} {b : Nat} {c : List Value} (h : RX w b c) {j : Nat} (hj : j < c.length) (u : Value) : RX (w.setCell ⟨b, j, none⟩ u) b (c.set j u) ∧ Chg w (w.setCell ⟨b, j, none⟩ u) (fun k _ => k = b) := by
  have s := chg_set w b j u
  refine ⟨⟨by simpa using h.lt, fun i v hv => ?_, fun i => (s.froz b i h.lt).trans (h.fz i)⟩, s.mono (fun k x e => e.1)⟩
  by_cases e : j = i
  · subst e
    rw [List.getElem?_set_self hj] at hv
    cases hv
    exact World.cell?_setCell_same w ⟨b, j, none⟩ _ (h.cell j _ (List.getElem?_eq_getElem hj))
  · rw [List.getElem?_set_ne e] at hv
    exact (s.cell b i h.lt (fun k => e k.2.symm)).trans (h.cell i v hv)

def ptrO : Option Nat → Value
  | none => .pointer none
  | some b => .pointer (some ⟨b, 0, none⟩)
/-- The cells of a draft: its hops, its kids. -/
def drC (M : Nat → Nat → Option Nat) (H : Nat → Nat → Nat → Nat) (j q : Nat) : List Value := (List.range 16).map (fun i => .int .i64 (H j q i : Nat)) ++ (List.range 16).map (fun i => ptrO (M (j + 1) (16 * q + i)))
theorem drC_len (M : Nat → Nat → Option Nat) (H : Nat → Nat → Nat → Nat) (j q : Nat) : (drC M H j q).length = 32 := by simp [drC]
theorem drC_hop {M : Nat → Nat → Option Nat} {H : Nat → Nat → Nat → Nat} {j q i : Nat} (hi : i < 16) : (drC M H j q)[i]? = some (.int .i64 (H j q i : Nat)) := by
  unfold drC
  rw [List.getElem?_append_left (by simpa using hi), List.getElem?_map, List.getElem?_range hi]
  rfl
theorem drC_kid {M : Nat → Nat → Option Nat} {H : Nat → Nat → Nat → Nat} {j q i : Nat} (hi : i < 16) : (drC M H j q)[16 + i]? = some (ptrO (M (j + 1) (16 * q + i))) := by
  unfold drC
  rw [List.getElem?_append_right (by simp), List.getElem?_map, List.length_map, List.length_range, show 16 + i - 16 = i by omega, List.getElem?_range hi]
  rfl
theorem drC_ext {M M' : Nat → Nat → Option Nat} {H H' : Nat → Nat → Nat → Nat} {j q : Nat} (h1 : ∀ i, i < 16 → H j q i = H' j q i) (h2 : ∀ i, i < 16 → M (j + 1) (16 * q + i) = M' (j + 1) (16 * q + i)) : drC M H j q = drC M' H' j q := by
  unfold drC
  congr 1
  · exact List.map_congr_left (fun i hi => by rw [h1 i (List.mem_range.1 hi)])
  · exact List.map_congr_left (fun i hi => by rw [h2 i (List.mem_range.1 hi)])
/-- Drafts in memory. -/
structure DrOk (w : World) (B : Nat) (M : Nat → Nat → Option Nat) (H : Nat → Nat → Nat → Nat) : Prop where
  rx : ∀ j q b, M j q = some b → RX w b (drC M H j q)
  inj : ∀ j q j' q' b, M j q = some b → M j' q' = some b → j = j' ∧ q = q'
  ge : ∀ j q b, M j q = some b → B ≤ b
  z : ∀ j q i, M j q = none → H j q i = 0
  up : ∀ j q b, M (j + 1) q = some b → ∃ b', M j (q / 16) = some b'
theorem DrOk.below {w w' : World} {B : Nat} {M : Nat → Nat → Option Nat} {H : Nat → Nat → Nat → Nat} (h : DrOk w B M H) (hb : Below w.heap.size w w') : DrOk w' B M H :=
  ⟨fun j q b e => (h.rx j q b e).below hb, h.inj, h.ge, h.z, h.up⟩
/-- A hop more. -/
def setH (H : Nat → Nat → Nat → Nat) (j q i v : Nat) : Nat → Nat → Nat → Nat := fun j' q' i' => if j' = j ∧ q' = q ∧ i' = i then v else H j' q' i'
theorem DrOk.hop {w : World} {B : Nat} {M : Nat → Nat → Option Nat} {H : Nat → Nat → Nat → Nat} (h : DrOk w B M H) {j q i b v : Nat} (hb : M j q = some b) (hi : i < 16) :
    DrOk (w.setCell ⟨b, i, none⟩ (.int .i64 (v : Nat))) B M (setH H j q i v) ∧ Below B w (w.setCell ⟨b, i, none⟩ (.int .i64 (v : Nat))) := by
  obtain ⟨r1, r2⟩ := rx_put1 (h.rx j q b hb) (j := i) (by rw [drC_len]; omega) (.int .i64 (v : Nat))
  have hB := h.ge j q b hb
  refine ⟨⟨fun j' q' b' hb' => ?_, h.inj, h.ge, fun j' q' i' hn => ?_, h.up⟩, r2.below (Nat.le_trans hB (Nat.le_of_lt (h.rx j q b hb).lt)) (fun b' _ hlt e => by omega)⟩
  · by_cases e : j' = j ∧ q' = q
    · obtain ⟨rfl, rfl⟩ := e
      rw [hb] at hb'
      cases hb'
      have : drC M (setH H j' q' i v) j' q' = (drC M H j' q').set i (.int .i64 (v : Nat)) := by
        refine List.ext_getElem? (fun m => ?_)
        rw [List.getElem?_set]
        by_cases hm : m < 16
        · rw [drC_hop hm, drC_hop hm]
          by_cases e : i = m
          · subst e; simp [setH, drC_len, hi]; omega
          · rw [if_neg e]; unfold setH; rw [if_neg (fun x => e x.2.2.symm)]
        · rw [if_neg (by omega)]
          unfold drC
          rw [List.getElem?_append_right (by simp; omega), List.getElem?_append_right (by simp; omega)]
          simp
      rw [this]
      exact r1
    · have hne : b' ≠ b := fun e2 => e ((fun ⟨a, c⟩ => ⟨a, c⟩) (h.inj j' q' j q b (by rw [← e2]; exact hb') hb))
      rw [drC_ext (M' := M) (H' := H) (fun m _ => by unfold setH; rw [if_neg (fun x => e ⟨x.1, x.2.1⟩)]) (fun _ _ => rfl)]
      exact (h.rx j' q' b' hb').chg r2 (fun _ x => hne x)
  · unfold setH
    rw [if_neg (fun x => by rw [x.1, x.2.1, hb] at hn; cases hn)]
    exact h.z j' q' i' hn
/-- A node more. -/
def setM (M : Nat → Nat → Option Nat) (j q b : Nat) : Nat → Nat → Option Nat := fun j' q' => if j' = j ∧ q' = q then some b else M j' q'
theorem DrOk.kid {w : World} {B : Nat} {M : Nat → Nat → Option Nat} {H : Nat → Nat → Nat → Nat} (h : DrOk w B M H) {j q i b nb : Nat} (hb : M j q = some b) (hi : i < 16) (hn : M (j + 1) (16 * q + i) = none)
    (hnew : RX w nb (List.replicate 16 (.int .i64 0) ++ List.replicate 16 (.pointer none))) (hB : B ≤ nb) (hfr : ∀ j' q' b', M j' q' = some b' → b' ≠ nb) :
    DrOk (w.setCell ⟨b, 16 + i, none⟩ (.pointer (some ⟨nb, 0, none⟩))) B (setM M (j + 1) (16 * q + i) nb) H ∧ Below B w (w.setCell ⟨b, 16 + i, none⟩ (.pointer (some ⟨nb, 0, none⟩))) := by
  obtain ⟨r1, r2⟩ := rx_put1 (h.rx j q b hb) (j := 16 + i) (by rw [drC_len]; omega) (.pointer (some ⟨nb, 0, none⟩))
  have hBb := h.ge j q b hb
  have hbn : nb ≠ b := fun e => hfr j q b hb e.symm
  have h0 : ∀ m, M (j + 1 + 1) (16 * (16 * q + i) + m) = none ∨ 16 ≤ m := fun m => by
    by_cases hm : m < 16
    · refine .inl ?_
      cases hc : M (j + 1 + 1) (16 * (16 * q + i) + m) with
      | none => rfl
      | some x =>
        obtain ⟨b', e⟩ := h.up (j + 1) _ _ hc
        rw [show (16 * (16 * q + i) + m) / 16 = 16 * q + i by omega, hn] at e
        cases e
    · exact .inr (by omega)
  refine ⟨⟨fun j' q' b' hb' => ?_, fun j' q' j2 q2 b' e1 e2 => ?_, fun j' q' b' e1 => ?_, fun j' q' i' e1 => ?_, fun j' q' b' e1 => ?_⟩, r2.below (Nat.le_trans hBb (Nat.le_of_lt (h.rx j q b hb).lt)) (fun b' _ hlt e => by omega)⟩
  · by_cases e : j' = j + 1 ∧ q' = 16 * q + i
    · obtain ⟨rfl, rfl⟩ := e
      simp [setM] at hb'
      subst hb'
      have : drC (setM M (j + 1) (16 * q + i) nb) H (j + 1) (16 * q + i) = List.replicate 16 (.int .i64 0) ++ List.replicate 16 (.pointer none) := by
        unfold drC
        congr 1
        · refine List.eq_replicate_iff.2 ⟨by simp, fun x hx => ?_⟩
          obtain ⟨m, _, rfl⟩ := List.mem_map.1 hx
          rw [h.z _ _ m hn]; rfl
        · refine List.eq_replicate_iff.2 ⟨by simp, fun x hx => ?_⟩
          obtain ⟨m, hm, rfl⟩ := List.mem_map.1 hx
          have hm := List.mem_range.1 hm
          unfold setM
          rw [if_neg (by omega)]
          rcases h0 m with e | e
          · rw [e]; rfl
          · omega
      rw [this]
      exact hnew.chg r2 (fun _ x => hbn x)
    · have hb2 : M j' q' = some b' := by
        unfold setM at hb'
        rw [if_neg e] at hb'
        exact hb'
      by_cases e2 : j' = j ∧ q' = q
      · obtain ⟨rfl, rfl⟩ := e2
        rw [hb] at hb2
        cases hb2
        have : drC (setM M (j' + 1) (16 * q' + i) nb) H j' q' = (drC M H j' q').set (16 + i) (.pointer (some ⟨nb, 0, none⟩)) := by
          refine List.ext_getElem? (fun m => ?_)
          rw [List.getElem?_set]
          by_cases hm : m < 16
          · rw [if_neg (by omega), drC_hop hm, drC_hop hm]
          · by_cases hm2 : m < 32
            · obtain ⟨p, rfl⟩ : ∃ p, m = 16 + p := ⟨m - 16, by omega⟩
              rw [drC_kid (by omega), drC_kid (by omega)]
              by_cases e3 : p = i
              · subst e3
                rw [if_pos rfl, if_pos (by rw [drC_len]; omega)]
                simp [setM, ptrO]
              · rw [if_neg (by omega)]
                unfold setM
                rw [if_neg (by omega)]
            · rw [List.getElem?_eq_none (by rw [drC_len]; omega), if_neg (by omega), List.getElem?_eq_none (by rw [drC_len]; omega)]
        rw [this]
        exact r1
      · have hne : b' ≠ b := fun e3 => e2 ((fun ⟨a, c⟩ => ⟨a, c⟩) (h.inj j' q' j q b (by rw [← e3]; exact hb2) hb))
        rw [drC_ext (M' := M) (H' := H) (fun _ _ => rfl) (fun m hm => by
          unfold setM
          rw [if_neg (fun x => e2 ⟨by omega, by omega⟩)])]
        exact (h.rx j' q' b' hb2).chg r2 (fun _ x => hne x)
  · unfold setM at e1 e2
    split at e1
    · rename_i a
      cases e1
      split at e2
      · rename_i c
        exact ⟨a.1.trans c.1.symm, a.2.trans c.2.symm⟩
      · exact absurd rfl (hfr j2 q2 _ e2)
    · split at e2
      · cases e2
        exact absurd rfl (hfr j' q' _ e1)
      · exact h.inj j' q' j2 q2 b' e1 e2
  · unfold setM at e1
    split at e1
    · cases e1; exact hB
    · exact h.ge j' q' b' e1
  · unfold setM at e1
    split at e1
    · cases e1
    · exact h.z j' q' i' e1
  · have key : M (j' + 1) q' = some b' ∨ (j' = j ∧ q' = 16 * q + i) := by
      unfold setM at e1
      split at e1
      · rename_i a; exact .inr ⟨by omega, a.2⟩
      · exact .inl e1
    unfold setM
    split
    · exact ⟨nb, rfl⟩
    · rcases key with h1 | ⟨rfl, rfl⟩
      · exact h.up j' q' b' h1
      · exact ⟨b, by rw [show (16 * q + i) / 16 = q by omega]; exact hb⟩
/-- Nodes for the bits of a prefix, behind a level. -/
structure PutM (M M' : Nat → Nat → Option Nat) (n k j : Nat) : Prop where
  keep : ∀ j' q' b, M j' q' = some b → M' j' q' = some b
  new : ∀ j' q', (M' j' q').isSome = ((M j' q').isSome || decide (j < j' ∧ j' ≤ k / 4 ∧ tp n (4 * j') = q'))
theorem PutM.done (M : Nat → Nat → Option Nat) (n k j : Nat) (h : k / 4 = j) : PutM M M n k j :=
  ⟨fun _ _ _ h => h, fun j' q' => by rw [decide_eq_false (by omega), Bool.or_false]⟩
theorem PutM.step {M M' : Nat → Nat → Option Nat} {n k j b : Nat} (hj : j < k / 4) (hb : M (j + 1) (tp n (4 * (j + 1))) = some b) (h : PutM M M' n k (j + 1)) : PutM M M' n k j :=
  ⟨h.keep, fun j' q' => by
    rw [h.new]
    by_cases e : j' = j + 1 ∧ tp n (4 * j') = q'
    · obtain ⟨rfl, rfl⟩ := e
      rw [hb]; simp
    · congr 1
      rw [decide_eq_decide]
      constructor
      · rintro ⟨a, c, d⟩; exact ⟨by omega, c, d⟩
      · rintro ⟨a, c, d⟩
        refine ⟨?_, c, d⟩
        rcases Nat.lt_or_ge (j + 1) j' with h1 | h1
        · exact h1
        · exact absurd ⟨by omega, d⟩ e⟩
theorem PutM.new1 {M M' : Nat → Nat → Option Nat} {n k j nb : Nat} (hj : j < k / 4) (hn : M (j + 1) (tp n (4 * (j + 1))) = none) (h : PutM (setM M (j + 1) (tp n (4 * (j + 1))) nb) M' n k (j + 1)) : PutM M M' n k j :=
  ⟨fun j' q' b e => h.keep j' q' b (by unfold setM; rw [if_neg (fun x => by rw [x.1, x.2, hn] at e; cases e)]; exact e), fun j' q' => by
    rw [h.new]
    by_cases e : j' = j + 1 ∧ q' = tp n (4 * (j + 1))
    · obtain ⟨rfl, rfl⟩ := e
      have h1 : j + 1 ≤ k / 4 := hj
      simp [setM, h1]
    · unfold setM
      rw [if_neg e]
      congr 1
      rw [decide_eq_decide]
      constructor
      · rintro ⟨a, c, d⟩; exact ⟨by omega, c, d⟩
      · rintro ⟨a, c, d⟩
        refine ⟨?_, c, d⟩
        rcases Nat.lt_or_ge (j + 1) j' with h1 | h1
        · exact h1
        · obtain rfl : j' = j + 1 := by omega
          exact absurd ⟨rfl, d.symm⟩ e⟩
end Go.Proofs.YtoecmoicaklbaaaDoor
