
/- Contracts of package table: the place of a prefix, with Look's note. -/
import Derived.Test.YtoecmoicaklbaaaTblN
set_option linter.unusedVariables false
namespace Go.Proofs.Ytoecmoicaklbaaa
open Go Go.RowKit Go.Sort Wc Wk

theorem TabR.chg {w w' : World} {tb cnt : Nat} {T : BT} {G : Nat → Prop} (t : TabR w tb T cnt) (h : Chg w w' (fun b _ => G b)) (hd : ∀ b ∈ tb :: T.blocks, ¬ G b) : TabR w' tb T cnt :=
  ⟨t.tab.keep h (fun _ => hd tb List.mem_cons_self) (fun x hx => by cases hx), BRep.keep h t.rep (fun x hx _ => hd x (List.mem_cons_of_mem _ hx)), t.nodup⟩
def PlaceNotes (w : World) (tb n k o : Nat) (T : BT) (e : Ending) (w' : World) : Prop := ∃ c t, T = plug c t ∧ onPath c n k ∧ Stop t n k ∧ e = .returned (.pointer (some ⟨slotB tb c, slotO c, none⟩)) ∧ Box w' o (lookC c).1 (lookC c).2 ∧ Chg w w' (fun x _ => x = o)
theorem lookC_cons (f : Fr) (c : List Fr) : lookC (f :: c) = (if f.h = 0 then (lookC c).1 else f.h, if f.h = 0 then (lookC c).2 else f.k) := by
  show (if f.h ≠ 0 then (f.h, f.k) else lookC c) = _
  by_cases h : f.h = 0
  · rw [if_neg (by simpa using h), if_pos h, if_pos h]
  · rw [if_pos h, if_neg h, if_neg h]


set_option maxRecDepth 100000 in
set_option maxHeartbeats 4000000 in
theorem place_note (tb cnt n k o : Nat) (T : BT) (w : World) (bx : Box w o 0 0) (hto : ∀ b ∈ tb :: T.blocks, b ≠ o) (ht : TabR w tb T cnt) (hw : T.wf) (hp : VP false n k) :
    Calls Try.prog 87 #[.pointer (some ⟨tb, 0, none⟩), Value.agg #[.bool false, .int .u64 (hiOf false n), .int .u64 (loOf n), .int .i64 k], .func (Fn.func 86) #[] #[.pointer (some ⟨o, 0, none⟩)]] w (PlaceNotes w tb n k o T) := by
  have HT := Lib.hid ht
  have HTO := Lib.hid hto
  have HW := Lib.hid hw
  have HP := Lib.hid hp
  have R := Lib.hid (fun w => root_any tb n k w)
  have A := Lib.hid (fun i w h0 h1 => at_any false n i w hp.1 h0 h1)
  rw [show wdI false = 32 from rfl] at A
  have hnf : ∀ w, (binOp BinOp.neq 156 .nilFunc .nilFunc).run Try.prog w = .ok (.bool false) w := fun _ => by kernel_rfl
  have hnf2 : ∀ w, (binOp BinOp.neq 156 (.func (Fn.func 86) #[] #[.pointer (some ⟨o, 0, none⟩)]) .nilFunc).run Try.prog w = .ok (.bool true) w := fun _ => by kernel_rfl
  have HB0 := Lib.hid bx
  have hol := bx.lt
  clear ht hw hp bx hto hnf
  go_enter Try.func87, Try.ntmps87
  go_wp2_with (first | ((with_reducible refine (R.out _).mono ?_); rintro e w1 ⟨rfl, hb1⟩; (repeat (with_reducible (replace hb1 := Below.undrew hb1))); obtain ⟨hc1, hf1⟩ := bcell hb1; have hz1 := hb1.size; (repeat (first | rw [World.size_alloc] at hz1 | rw [World.size_drew] at hz1 | rw [World.size_setCell] at hz1)); (try have : B < w1.heap.size := by omega); (try have : B < w1.heap.size + 1 := by omega); (try have : B < w1.heap.size + 1 + 1 := by omega); (try have : B < w1.heap.size + 1 + 1 + 1 := by omega)))
  have F0 : w1.cell? ⟨w.heap.size, 0, none⟩ = some (.bool false) := by rw [hc1 _ _ (by simp)]; simp
  have F1 : w1.cell? ⟨w.heap.size, 1, none⟩ = some (.int .u64 (hiOf false n)) := by rw [hc1 _ _ (by simp)]; simp
  have F2 : w1.cell? ⟨w.heap.size, 2, none⟩ = some (.int .u64 (loOf n)) := by rw [hc1 _ _ (by simp)]; simp
  have F3 : w1.cell? ⟨w.heap.size, 3, none⟩ = some (.int .i64 k) := by rw [hc1 _ _ (by simp)]; simp
  have FS : w.heap.size < w1.heap.size := by omega
  have FT := Lib.hid (HT.out.below (w' := w1) (by (repeat' (first | (with_reducible exact Below.refl _ _) | (with_reducible assumption) | (with_reducible refine Below.alloc ?_ ?_ _) | (with_reducible refine Below.drew ?_) | (with_reducible refine Below.stepG ?_ (by assumption) ?_) | (with_reducible refine Below.setCell ?_ ?_ _) | omega | (dsimp only; omega) | (simp; done) | (simp; omega)))))
  have FB : Below w.heap.size w w1 := by (repeat' (first | (with_reducible exact Below.refl _ _) | (with_reducible assumption) | (with_reducible refine Below.alloc ?_ ?_ _) | (with_reducible refine Below.drew ?_) | (with_reducible refine Below.stepG ?_ (by assumption) ?_) | (with_reducible refine Below.setCell ?_ ?_ _) | omega | (dsimp only; omega) | (simp; done) | (simp; omega)))
  have HBX1 := Lib.hid (HB0.out.below FB)
  clear hb1 hc1 hf1 hz1 HT
  obtain ⟨B, hB⟩ : ∃ B, B = w.heap.size := ⟨_, rfl⟩
  rw [← hB] at F0 F1 F2 F3 FS ⊢
  have hoB : B ≠ o := by omega
  clear hB
  go_loopg [7] (T.nodes.length + 1) (fun g av wr => ∃ (c : List Fr) (t : BT), Hid (T = plug c t) ∧ Hid (onPath c n k) ∧ t.nodes.length < g ∧ av = .pointer (some ⟨slotB tb c, slotO c, none⟩) ∧ Hid (Box wr o (lookC c).1 (lookC c).2) ∧ Hid (Chg w1 wr (fun x _ => x = o)) ∧ w1.heap.size ≤ wr.heap.size)
  case atStart => exact ⟨[], T, Lib.hid rfl, Lib.hid (fun f hf => absurd hf List.not_mem_nil), Nat.lt_succ_self _, rfl, HBX1, Lib.hid (Chg.refl _ _), Nat.le_refl _⟩
  case round =>
    obtain ⟨c, t, HC, HO, hg, rfl, HBX, HCH, hzr⟩ := hrel
    have q0 := (HCH.out.cell B 0 FS hoB).trans F0
    have q1 := (HCH.out.cell B 1 FS hoB).trans F1
    have q2 := (HCH.out.cell B 2 FS hoB).trans F2
    have q3 := (HCH.out.cell B 3 FS hoB).trans F3
    have qs : B < wr.heap.size := by omega
    have TT := FT.out.chg (G := fun x => x = o) HCH.out (fun b hb e => HTO.out b hb e)
    have HTOc : Hid (∀ b ∈ tb :: (plug c t).blocks, b ≠ o) := by show ∀ b ∈ tb :: (plug c t).blocks, b ≠ o; rw [← HC.out]; exact HTO.out
    rw [HC.out] at TT
    obtain ⟨t1, t2, t3⟩ := tab_plug.1 TT
    obtain ⟨sl, sc, _⟩ := t1.at_slot
    have hwt := (plug_wf (show (plug c t).wf by rw [← HC.out]; exact HW.out)).1
    clear TT t1 t3 F0 F1 F2 F3
    generalize hsb : slotB tb c = sb at *
    generalize hso : slotO c = so at *
    have HSB := Lib.hid hsb
    have HSO := Lib.hid hso
    clear hsb hso
    cases t with
    | nil =>
      have sc' : wr.cell? ⟨sb, so, none⟩ = some (.pointer none) := sc
      clear sc
      go_wp2
      go_returns
      exact ⟨c, .nil, HC.out, HO.out, trivial, by rw [HSB.out, HSO.out]; rfl, HBX.out, (Chg.of_below FB (fun x (_ : Nat) => x = o)).trans HCH.out (fun _ _ _ h => h)⟩
    | node b n' k' h l r =>
      have sc' : wr.cell? ⟨sb, so, none⟩ = some (.pointer (some ⟨b, 0, none⟩)) := sc
      clear sc
      have HTNb := Lib.hid t2.1
      obtain ⟨⟨ltb, d0, d1, d2, d3, d4, d5, d6, _⟩, rl, rr⟩ := t2
      have hbo : b ≠ o := HTOc.out b (List.mem_cons_of_mem _ (by rw [(plug_blocks c _).mem_iff, List.mem_append]; exact .inr (by simp [BT.blocks])))
      obtain ⟨hv, ul, ur, wl, wr'⟩ := hwt
      have OV := Lib.hid (fun w => over_any false n' k' n k w hv HP.out)
      go_wp2_with fail
      by_cases hex : n' = n ∧ k' = k
      · obtain ⟨rfl, rfl⟩ := hex
        refine wp_region_qb (by kernel_rfl) (by kernel_rfl) (fun kq => ?_)
        repeat (quiet_step (first | (with_reducible exact Calls.regrown_of (OV.out _))))
        clear kq
        refine wpQuiet_nil ?_; intro w2 hb2; (repeat (with_reducible (replace hb2 := Below.undrew hb2))); obtain ⟨hc2, hf2⟩ := bcell hb2; have hz2 := hb2.size; (repeat (first | rw [World.size_alloc] at hz2 | rw [World.size_drew] at hz2 | rw [World.size_setCell] at hz2)); (try have : B < w2.heap.size := by omega); (try have : B < w2.heap.size + 1 := by omega); (try have : B < w2.heap.size + 1 + 1 := by omega); (try have : B < w2.heap.size + 1 + 1 + 1 := by omega); (try have : w1.heap.size < w2.heap.size := by omega); (try have : w1.heap.size < w2.heap.size + 1 := by omega); (try have : w1.heap.size < w2.heap.size + 1 + 1 := by omega); (try have : w1.heap.size < w2.heap.size + 1 + 1 + 1 := by omega)
        go_wp2
        go_returns
        exact ⟨c, .node b n' k' h l r, HC.out, HO.out, .inl ⟨rfl, rfl⟩, by rw [HSB.out, HSO.out]; rfl, HBX.out.below hb2, ((Chg.of_below FB (fun x (_ : Nat) => x = o)).trans HCH.out (fun _ _ _ h => h)).trans (Chg.of_below hb2 (fun x (_ : Nat) => x = o)) (fun _ _ _ h => h)⟩
      · have hk' : k' ≤ 32 := hv.2.1
        by_cases hkk : k' = k
        · subst hkk
          have hne : ¬ n' = n := fun e => hex ⟨e, rfl⟩
          have hl : ¬ loOf n' = loOf n := fun e => hne (by
            rw [loOf_false hv.1, loOf_false HP.out.1] at e
            omega)
          have hcov : ¬ cov false n' k' n k' := fun hc => hne (by
            have e2 : cutN 32 n k' = n' := hc.2
            rw [← e2]; exact HP.out.2.2)
          rw [decide_eq_false hcov] at OV
          have HNC := Lib.hid hcov
          clear hcov hne hex
          refine wp_region_qb (by kernel_rfl) (by kernel_rfl) (fun kq => ?_)
          repeat (quiet_step (first | (with_reducible exact Calls.regrown_of (OV.out _))))
          clear kq
          refine wpQuiet_nil ?_; intro w2 hb2; (repeat (with_reducible (replace hb2 := Below.undrew hb2))); obtain ⟨hc2, hf2⟩ := bcell hb2; have hz2 := hb2.size; (repeat (first | rw [World.size_alloc] at hz2 | rw [World.size_drew] at hz2 | rw [World.size_setCell] at hz2)); (try have : B < w2.heap.size := by omega); (try have : B < w2.heap.size + 1 := by omega); (try have : B < w2.heap.size + 1 + 1 := by omega); (try have : B < w2.heap.size + 1 + 1 + 1 := by omega); (try have : w1.heap.size < w2.heap.size := by omega); (try have : w1.heap.size < w2.heap.size + 1 := by omega); (try have : w1.heap.size < w2.heap.size + 1 + 1 := by omega); (try have : w1.heap.size < w2.heap.size + 1 + 1 + 1 := by omega)
          go_wp2
          go_returns
          exact ⟨c, .node b n' k' h l r, HC.out, HO.out, .inr HNC.out, by rw [HSB.out, HSO.out]; rfl, HBX.out.below hb2, ((Chg.of_below FB (fun x (_ : Nat) => x = o)).trans HCH.out (fun _ _ _ h => h)).trans (Chg.of_below hb2 (fun x (_ : Nat) => x = o)) (fun _ _ _ h => h)⟩
        · have hki : ¬ ((k' : Int) = k) := by omega
          clear hex
          by_cases hcov : cov false n' k' n k
          · rw [decide_eq_true hcov] at OV
            have HCV := Lib.hid hcov
            clear hcov
            refine wp_region_qb (by kernel_rfl) (by kernel_rfl) (fun kq => ?_)
            repeat (quiet_step (first | (with_reducible exact Calls.regrown_of (OV.out _))))
            clear kq
            refine wpQuiet_nil ?_; intro w2 hb2; (repeat (with_reducible (replace hb2 := Below.undrew hb2))); obtain ⟨hc2, hf2⟩ := bcell hb2; have hz2 := hb2.size; (repeat (first | rw [World.size_alloc] at hz2 | rw [World.size_drew] at hz2 | rw [World.size_setCell] at hz2)); (try have : B < w2.heap.size := by omega); (try have : B < w2.heap.size + 1 := by omega); (try have : B < w2.heap.size + 1 + 1 := by omega); (try have : B < w2.heap.size + 1 + 1 + 1 := by omega); (try have : w1.heap.size < w2.heap.size := by omega); (try have : w1.heap.size < w2.heap.size + 1 := by omega); (try have : w1.heap.size < w2.heap.size + 1 + 1 := by omega); (try have : w1.heap.size < w2.heap.size + 1 + 1 + 1 := by omega)
            have hk'k : k' < k := by
              rcases Nat.lt_or_ge k' k with h | h
              · exact h
              · exact absurd (show k' = k by have := HCV.out.1; omega) hkk
            have HV := Lib.hid hv
            have hB2 : B < w2.heap.size := by omega
            have hb22 : b < w2.heap.size := by omega
            have hk32 : k ≤ 32 := HP.out.2.1
            have Ai := Lib.hid (fun w => A.out k' w (by omega) (by omega))
            rw [show ((k' : Int)).toNat = k' from rfl] at Ai
            have hbit := bitAt_le false n k'
            have HBT : Hid (bitAt false n k' = bitAt false n k') := rfl
            have d3' := (hc2 b 3 ltb).trans d3
            have q0' := (hc2 B 0 qs).trans q0
            have q1' := (hc2 B 1 qs).trans q1
            have q2' := (hc2 B 2 qs).trans q2
            have NT := Lib.hid (note_any b n' k' h o _ _ _ _ w2 (HTNb.out.below hb2) (HBX.out.below hb2) hbo)
            clear hv d0 d1 d2 d3 d4 d5 d6 q0 q1 q2 q3 hc2 hf2 OV sc'
            go_wp2_with fail
            refine NT.out.mono ?_
            rintro e w4 ⟨rfl, HB4, HC4⟩
            have HB4' := Lib.hid HB4
            have D3 := (HC4.cell b 3 hb22 hbo).trans d3'
            have Q0 := (HC4.cell B 0 hB2 hoB).trans q0'
            have Q1 := (HC4.cell B 1 hB2 hoB).trans q1'
            have Q2 := (HC4.cell B 2 hB2 hoB).trans q2'
            have hz4 := HC4.size
            have hB4 : B < w4.heap.size := by omega
            have hb44 : b < w4.heap.size := by omega
            have HC14 := Lib.hid ((HCH.out.trans (Chg.of_below hb2 (fun x (_ : Nat) => x = o)) (fun _ _ _ h => h)).trans HC4 (fun _ _ _ h => h))
            clear HB4 HC4 d3' q0' q1' q2' NT
            go_wp2_with fail
            generalize hbt : bitAt false n k' = bt at *
            have HB2 := Lib.hid hbt
            clear hbt HBT
            have hbc : bt = 0 ∨ bt = 1 := by omega
            rcases hbc with rfl | rfl
            · refine wp_region_qb (by kernel_rfl) (by kernel_rfl) (fun kq => ?_)
              repeat (quiet_step (first | (with_reducible exact Calls.regrown_of (Ai.out _))))
              clear kq
              refine wpQuiet_nil ?_; intro w3 hb3; (repeat (with_reducible (replace hb3 := Below.undrew hb3))); obtain ⟨hc3, hf3⟩ := bcell hb3; have hz3 := hb3.size; (repeat (first | rw [World.size_alloc] at hz3 | rw [World.size_drew] at hz3 | rw [World.size_setCell] at hz3)); (try have : B < w3.heap.size := by omega); (try have : B < w3.heap.size + 1 := by omega); (try have : B < w3.heap.size + 1 + 1 := by omega); (try have : B < w3.heap.size + 1 + 1 + 1 := by omega); (try have : w1.heap.size < w3.heap.size := by omega); (try have : w1.heap.size < w3.heap.size + 1 := by omega); (try have : w1.heap.size < w3.heap.size + 1 + 1 := by omega); (try have : w1.heap.size < w3.heap.size + 1 + 1 + 1 := by omega)
              go_wp2_with fail
              go_roundg (gk - 1)
              case measure => omega
              case rel =>
                refine ⟨⟨b, n', k', h, false, r⟩ :: c, l, HC.out, ?_, ?_, rfl, Lib.hid (by rw [lookC_cons]; exact HB4'.out.below hb3), Lib.hid (HC14.out.trans (Chg.of_below hb3 (fun x (_ : Nat) => x = o)) (fun _ _ _ h => h)), by omega⟩
                · intro f hf
                  rcases List.mem_cons.1 hf with rfl | hf
                  · exact ⟨HV.out, HCV.out, hk'k, HB2.out⟩
                  · exact HO.out f hf
                · simp only [BT.nodes, List.length_cons, List.length_append] at hg; omega
            · refine wp_region_qb (by kernel_rfl) (by kernel_rfl) (fun kq => ?_)
              repeat (quiet_step (first | (with_reducible exact Calls.regrown_of (Ai.out _))))
              clear kq
              refine wpQuiet_nil ?_; intro w3 hb3; (repeat (with_reducible (replace hb3 := Below.undrew hb3))); obtain ⟨hc3, hf3⟩ := bcell hb3; have hz3 := hb3.size; (repeat (first | rw [World.size_alloc] at hz3 | rw [World.size_drew] at hz3 | rw [World.size_setCell] at hz3)); (try have : B < w3.heap.size := by omega); (try have : B < w3.heap.size + 1 := by omega); (try have : B < w3.heap.size + 1 + 1 := by omega); (try have : B < w3.heap.size + 1 + 1 + 1 := by omega); (try have : w1.heap.size < w3.heap.size := by omega); (try have : w1.heap.size < w3.heap.size + 1 := by omega); (try have : w1.heap.size < w3.heap.size + 1 + 1 := by omega); (try have : w1.heap.size < w3.heap.size + 1 + 1 + 1 := by omega)
              go_wp2_with fail
              go_roundg (gk - 1)
              case measure => omega
              case rel =>
                refine ⟨⟨b, n', k', h, true, l⟩ :: c, r, HC.out, ?_, ?_, rfl, Lib.hid (by rw [lookC_cons]; exact HB4'.out.below hb3), Lib.hid (HC14.out.trans (Chg.of_below hb3 (fun x (_ : Nat) => x = o)) (fun _ _ _ h => h)), by omega⟩
                · intro f hf
                  rcases List.mem_cons.1 hf with rfl | hf
                  · exact ⟨HV.out, HCV.out, hk'k, HB2.out⟩
                  · exact HO.out f hf
                · simp only [BT.nodes, List.length_cons, List.length_append] at hg; omega
          · rw [decide_eq_false hcov] at OV
            have HNC := Lib.hid hcov
            clear hcov
            refine wp_region_qb (by kernel_rfl) (by kernel_rfl) (fun kq => ?_)
            repeat (quiet_step (first | (with_reducible exact Calls.regrown_of (OV.out _))))
            clear kq
            refine wpQuiet_nil ?_; intro w2 hb2; (repeat (with_reducible (replace hb2 := Below.undrew hb2))); obtain ⟨hc2, hf2⟩ := bcell hb2; have hz2 := hb2.size; (repeat (first | rw [World.size_alloc] at hz2 | rw [World.size_drew] at hz2 | rw [World.size_setCell] at hz2)); (try have : B < w2.heap.size := by omega); (try have : B < w2.heap.size + 1 := by omega); (try have : B < w2.heap.size + 1 + 1 := by omega); (try have : B < w2.heap.size + 1 + 1 + 1 := by omega); (try have : w1.heap.size < w2.heap.size := by omega); (try have : w1.heap.size < w2.heap.size + 1 := by omega); (try have : w1.heap.size < w2.heap.size + 1 + 1 := by omega); (try have : w1.heap.size < w2.heap.size + 1 + 1 + 1 := by omega)
            go_wp2
            go_returns
            exact ⟨c, .node b n' k' h l r, HC.out, HO.out, .inr HNC.out, by rw [HSB.out, HSO.out]; rfl, HBX.out.below hb2, ((Chg.of_below FB (fun x (_ : Nat) => x = o)).trans HCH.out (fun _ _ _ h => h)).trans (Chg.of_below hb2 (fun x (_ : Nat) => x = o)) (fun _ _ _ h => h)⟩
end Go.Proofs.Ytoecmoicaklbaaa
