
/- Contracts of package table: Look. -/
import Derived.Test.YtoecmoicaklbaaaTblL
set_option linter.unusedVariables false
namespace Go.Proofs.Ytoecmoicaklbaaa
open Go Go.RowKit Go.Sort Wc Wk

theorem box_new (w : World) (E : TypeId) : Box (w.alloc (.cells #[.int .i64 0, .int .i64 0, .int .i64 0] E)) w.heap.size 0 0 := by constructor <;> simp
theorem Box.chg {w w' : World} {o o' p q : Nat} (h : Box w o' p q) (c : Chg w w' (fun x _ => x = o)) (hne : o' ≠ o) : Box w' o' p q :=
  ⟨Nat.lt_of_lt_of_le h.lt c.size, (c.cell _ _ h.lt hne).trans h.c0, (c.cell _ _ h.lt hne).trans h.c1, (c.cell _ _ h.lt hne).trans h.c2, (c.froz _ _ h.lt).trans h.f0, (c.froz _ _ h.lt).trans h.f1, (c.froz _ _ h.lt).trans h.f2⟩
theorem TabR.lts {w : World} {tb cnt : Nat} {T : BT} (t : TabR w tb T cnt) : ∀ b ∈ tb :: T.blocks, b < w.heap.size := fun b hb => by
  rcases List.mem_cons.1 hb with rfl | hb
  · exact t.tab.lt
  · exact brep_lt t.rep b hb


set_option maxRecDepth 100000 in
set_option maxHeartbeats 4000000 in
theorem look_any (tb cnt a : Nat) (T : BT) (w : World) (ht : TabR w tb T cnt) (hw : T.wf) (ha : Fits false a) :
    Calls Try.prog 47 #[.pointer (some ⟨tb, 0, none⟩), Value.agg #[.bool false, .int .u64 (hiOf false a), .int .u64 (loOf a)]] w fun e w' => (∃ hop len : Nat, e = .returned (.agg #[.int .i64 0, .int .i64 hop, .int .i64 len]) ∧ Goes T.list a hop len) ∧ Below w.heap.size w w' := by
  have HT := Lib.hid ht
  have WD := Lib.hid (fun w => wide_any false w)
  rw [show wdI false = 32 from rfl] at WD
  have HW := Lib.hid hw
  have HTL := Lib.hid ht.lts
  clear ht hw
  go_enter Try.func47, Try.ntmps47
  go_wp2_with fail
  obtain ⟨W, hW⟩ : ∃ W, W = ((w.alloc (.cells #[.bool false, .int .u64 (hiOf false a), .int .u64 (loOf a)] 28)).alloc (.cells #[.int .i64 0, .int .i64 0, .int .i64 0] 54)).alloc (.cells #[.int .i64 0, .int .i64 0, .int .i64 0] 54) := ⟨_, rfl⟩
  have A0 : W.cell? ⟨w.heap.size, 0, none⟩ = some (.bool false) := by
    rw [hW]
    exact (Below.cell (p := ⟨w.heap.size, 0, none⟩) (((Below.refl (w.heap.size + 1) _).alloc (by simp) _).alloc (by simp) _) (Nat.lt_succ_self _)).trans (by simp)
  have A1 : W.cell? ⟨w.heap.size, 1, none⟩ = some (.int .u64 (hiOf false a)) := by
    rw [hW]
    exact (Below.cell (p := ⟨w.heap.size, 1, none⟩) (((Below.refl (w.heap.size + 1) _).alloc (by simp) _).alloc (by simp) _) (Nat.lt_succ_self _)).trans (by simp)
  have A2 : W.cell? ⟨w.heap.size, 2, none⟩ = some (.int .u64 (loOf a)) := by
    rw [hW]
    exact (Below.cell (p := ⟨w.heap.size, 2, none⟩) (((Below.refl (w.heap.size + 1) _).alloc (by simp) _).alloc (by simp) _) (Nat.lt_succ_self _)).trans (by simp)
  have HR0 : Box W (w.heap.size + 1) 0 0 := by
    rw [hW]
    refine Box.below ?_ ((Below.refl _ _).alloc (Nat.le_refl _) _)
    have := box_new (w.alloc (.cells #[.bool false, .int .u64 (hiOf false a), .int .u64 (loOf a)] 28)) 54
    rw [World.size_alloc] at this; exact this
  have HO0 : Box W (w.heap.size + 1 + 1) 0 0 := by
    rw [hW]
    have := box_new ((w.alloc (.cells #[.bool false, .int .u64 (hiOf false a), .int .u64 (loOf a)] 28)).alloc (.cells #[.int .i64 0, .int .i64 0, .int .i64 0] 54)) 54
    rw [World.size_alloc, World.size_alloc] at this; exact this
  have HRB := Lib.hid HR0
  have HOB := Lib.hid HO0
  have WS : W.heap.size = w.heap.size + 1 + 1 + 1 := by rw [hW]; simp
  have FB : Below w.heap.size w W := by rw [hW]; (repeat' (first | (with_reducible exact Below.refl _ _) | (with_reducible assumption) | (with_reducible refine Below.alloc ?_ ?_ _) | (with_reducible refine Below.drew ?_) | (with_reducible refine Below.stepG ?_ (by assumption) ?_) | (with_reducible refine Below.setCell ?_ ?_ _) | omega | (dsimp only; omega) | (simp; done) | (simp; omega)))
  rw [← hW]
  have HWS := Lib.hid WS
  have hw0 : w.heap.size < W.heap.size := by omega
  clear hW WS HR0 HO0
  go_cut [6] (fun v wx => ∃ pb, v = .pointer (some ⟨pb, 0, none⟩) ∧ Hid (PX wx pb a 32) ∧ W.heap.size ≤ pb ∧ Hid (Below W.heap.size W wx))
  case first =>
    go_region_held3 (fun w' => w'.cell? ⟨w.heap.size, 0, none⟩ = some (.bool false) ∧ w'.cell? ⟨w.heap.size, 1, none⟩ = some (.int .u64 (hiOf false a)) ∧ w'.cell? ⟨w.heap.size, 2, none⟩ = some (.int .u64 (loOf a))) (first | (go_simp; done) | (simp [*, go_sem, World.cell?_alloc_past]; done) | (simp [*, go_sem, World.cell?_alloc_past, World.cell?_setCell_far]; done))
      (first | ((with_reducible refine (WD.out _).mono ?_); rintro e w' ⟨rfl, rfl⟩))
    all_goals go_wp2_with fail
    all_goals go_meet
    all_goals exact ⟨_, rfl, (px_new W a 32 _).below (Below.drew (Below.refl _ _)), Nat.le_refl _, by show Below _ _ _; (repeat' (first | (with_reducible exact Below.refl _ _) | (with_reducible assumption) | (with_reducible refine Below.alloc ?_ ?_ _) | (with_reducible refine Below.drew ?_) | (with_reducible refine Below.stepG ?_ (by assumption) ?_) | (with_reducible refine Below.setCell ?_ ?_ _) | omega | (dsimp only; omega) | (simp; done) | (simp; omega)))⟩
  case rest =>
    obtain ⟨pb, rfl, HPX, hpb, HBW⟩ := hcut
    have HP : VP false a 32 := ⟨ha, by decide, by show cutN 32 a 32 = a; exact cut_full 32 a⟩
    have FBc : Below w.heap.size w wc := FB.trans (HBW.out.mono (by omega))
    have hOBc := HOB.out.below HBW.out
    have hRBc := HRB.out.below HBW.out
    have HTc := HT.out.below FBc
    have PN := Lib.hid (place_note tb cnt a 32 (w.heap.size + 1 + 1) T wc hOBc (fun b hb => by have := HTL.out b hb; omega) HTc HW.out HP)
    have hpx := HPX.out
    obtain ⟨px, p0, p1, p2, p3⟩ := hpx
    have hWSn := HWS.out
    have hpo : pb ≠ w.heap.size + 1 + 1 := by omega
    have HTch := Lib.hid HTc
    have HRc := Lib.hid hRBc
    have HFBc := Lib.hid FBc
    clear HTc hRBc hOBc FBc A0 A1 A2 FB HPX HT HRB HOB
    go_wp2_with fail
    refine PN.out.mono ?_
    rintro e w4 ⟨c, t, hc, ho, hs, rfl, hbx, hch⟩
    have HBX := Lib.hid hbx
    have HCH := Lib.hid hch
    have P0 := (hch.cell _ _ px hpo).trans p0
    have P1 := (hch.cell _ _ px hpo).trans p1
    have P2 := (hch.cell _ _ px hpo).trans p2
    have P3 := (hch.cell _ _ px hpo).trans p3
    have hz4 := hch.size
    have hp4 : pb < w4.heap.size := by omega
    have TT := HTch.out.chg (G := fun x => x = w.heap.size + 1 + 1) hch (fun b hb e => by have := HTL.out b hb; omega)
    have HTOc : ∀ b ∈ tb :: T.blocks, b ≠ w.heap.size + 1 + 1 := fun b hb e => by have := HTL.out b hb; omega
    rw [hc] at TT HTOc
    obtain ⟨t1, t2, t3⟩ := tab_plug.1 TT
    obtain ⟨sl, sc, _⟩ := t1.at_slot
    have hwp : (plug c t).wf := by rw [← hc]; exact HW.out
    have hwt := (plug_wf hwp).1
    have HLS := Lib.hid (look_says hwp ha ho hs)
    rw [← hc] at HLS
    have HR4 := Lib.hid (HRc.out.chg hch (by omega))
    have HF4 := Lib.hid (HFBc.out.trans (hch.below (B := w.heap.size) HFBc.out.size (fun b x hb e => by omega)))
    clear TT t1 t3 hc hwp PN hbx hch p0 p1 p2 p3 HRc HFBc HTch HCH ho
    generalize slotB tb c = sb at *
    generalize slotO c = so at *
    generalize (lookC c).1 = lh at *
    generalize (lookC c).2 = ll at *
    cases t with
    | nil =>
      have sc' : w4.cell? ⟨sb, so, none⟩ = some (.pointer none) := sc
      have HG : Hid (Goes T.list a lh ll) := by have := HLS.out; simp [exactH] at this; exact Lib.hid this
      clear sc HLS
      go_wp2_with fail
      refine wp_region_qb (by kernel_rfl) (by kernel_rfl) (fun kq => ?_)
      repeat (quiet_step (fail))
      clear kq
      refine wpQuiet_nil ?_; intro w5 hb5; (repeat (with_reducible (replace hb5 := Below.undrew hb5))); obtain ⟨hc5, hf5⟩ := bcell hb5; have hz5 := hb5.size; (repeat (first | rw [World.size_alloc] at hz5 | rw [World.size_drew] at hz5 | rw [World.size_setCell] at hz5)); (try have : w.heap.size < w5.heap.size := by omega); (try have : w.heap.size < w5.heap.size + 1 := by omega); (try have : w.heap.size < w5.heap.size + 1 + 1 := by omega); (try have : w.heap.size < w5.heap.size + 1 + 1 + 1 := by omega); (try have : w.heap.size + 1 < w5.heap.size := by omega); (try have : w.heap.size + 1 < w5.heap.size + 1 := by omega); (try have : w.heap.size + 1 < w5.heap.size + 1 + 1 := by omega); (try have : w.heap.size + 1 < w5.heap.size + 1 + 1 + 1 := by omega); (try have : w1.heap.size < w5.heap.size := by omega); (try have : w1.heap.size < w5.heap.size + 1 := by omega); (try have : w1.heap.size < w5.heap.size + 1 + 1 := by omega); (try have : w1.heap.size < w5.heap.size + 1 + 1 + 1 := by omega)
      have B5 := HBX.out.below hb5
      have R5 := HR4.out.below hb5
      obtain ⟨b5l, b50, b51, b52, _, _, _⟩ := B5
      have HRF := Lib.hid R5
      obtain ⟨r5l, r50, r51, r52, r5f, r5g, r5h⟩ := R5
      clear hc5 hf5 HBX HR4 sc' P0 P1 P2 P3
      go_wp2_with fail
      have RF := (HRF.out.set0.set1 lh).set2 ll
      obtain ⟨_, k0, k1, k2, _, _, _⟩ := RF
      exact bodyPost_ret (v := .agg #[.int .i64 0, .int .i64 (lh : Nat), .int .i64 (ll : Nat)]) (by simp [results, Try.results47, go_sem, k0, k1, k2]) rfl ⟨⟨_, _, rfl, HG.out⟩, (((HF4.out.trans (hb5.mono HF4.out.size)).setCell (by simp) _).setCell (by simp) _).setCell (by simp) _⟩
    | node b n' k' h l r =>
      have sc' : w4.cell? ⟨sb, so, none⟩ = some (.pointer (some ⟨b, 0, none⟩)) := sc
      clear sc
      have HTNb := Lib.hid t2.1
      have hbo : b ≠ w.heap.size + 1 + 1 := HTOc b (List.mem_cons_of_mem _ (by rw [(plug_blocks c _).mem_iff, List.mem_append]; exact .inr (by simp [BT.blocks])))
      obtain ⟨⟨ltb, d0, d1, d2, d3, d4, d5, d6, _⟩, _, _⟩ := t2
      clear d4 d5 d6 HTOc
      by_cases hex : n' = a ∧ k' = 32
      · obtain ⟨rfl, rfl⟩ := hex
        have HG : Hid (Goes T.list n' (if h = 0 then lh else h) (if h = 0 then ll else 32)) := by
          have := HLS.out
          simp only [exactH, and_self, if_true] at this
          by_cases h0 : h = 0
          · subst h0; simp at this ⊢; exact Lib.hid this
          · rw [if_neg h0, if_neg h0]; rw [if_pos h0, if_pos h0] at this; exact Lib.hid this
        clear HLS hwt
        go_wp2_with fail
        refine wp_region_qb (by kernel_rfl) (by kernel_rfl) (fun kq => ?_)
        repeat (quiet_step (fail))
        clear kq
        refine wpQuiet_nil ?_; intro w5 hb5; (repeat (with_reducible (replace hb5 := Below.undrew hb5))); obtain ⟨hc5, hf5⟩ := bcell hb5; have hz5 := hb5.size; (repeat (first | rw [World.size_alloc] at hz5 | rw [World.size_drew] at hz5 | rw [World.size_setCell] at hz5)); (try have : w.heap.size < w5.heap.size := by omega); (try have : w.heap.size < w5.heap.size + 1 := by omega); (try have : w.heap.size < w5.heap.size + 1 + 1 := by omega); (try have : w.heap.size < w5.heap.size + 1 + 1 + 1 := by omega); (try have : w.heap.size + 1 < w5.heap.size := by omega); (try have : w.heap.size + 1 < w5.heap.size + 1 := by omega); (try have : w.heap.size + 1 < w5.heap.size + 1 + 1 := by omega); (try have : w.heap.size + 1 < w5.heap.size + 1 + 1 + 1 := by omega); (try have : w1.heap.size < w5.heap.size := by omega); (try have : w1.heap.size < w5.heap.size + 1 := by omega); (try have : w1.heap.size < w5.heap.size + 1 + 1 := by omega); (try have : w1.heap.size < w5.heap.size + 1 + 1 + 1 := by omega)
        have NT := Lib.hid (note_any b n' 32 h (w.heap.size + 1 + 1) _ _ _ _ w5 (HTNb.out.below hb5) (HBX.out.below hb5) hbo)
        have HR5 := Lib.hid (HR4.out.below hb5)
        have HF5 := Lib.hid (HF4.out.trans (hb5.mono HF4.out.size))
        clear hc5 hf5 HBX HR4 sc' P0 P1 P2 P3 d0 d1 d2 d3 HTNb hb5
        go_wp2_with fail
        refine NT.out.mono ?_
        rintro e w6 ⟨rfl, hbx, hch⟩
        have B5 := hbx
        have R5 := HR5.out.chg hch (by omega)
        have HF6 := Lib.hid (HF5.out.trans (hch.below (B := w.heap.size) HF5.out.size (fun b x hb e => by omega)))
        generalize (if h = 0 then lh else h) = p5 at *
        generalize (if h = 0 then ll else 32) = q5 at *
        obtain ⟨b5l, b50, b51, b52, _, _, _⟩ := B5
        have HRF := Lib.hid R5
        obtain ⟨r5l, r50, r51, r52, r5f, r5g, r5h⟩ := R5
        clear hbx hch HR5 NT HF5
        go_wp2_with fail
        have RF := (HRF.out.set0.set1 p5).set2 q5
        obtain ⟨_, k0, k1, k2, _, _, _⟩ := RF
        exact bodyPost_ret (v := .agg #[.int .i64 0, .int .i64 (p5 : Nat), .int .i64 (q5 : Nat)]) (by simp [results, Try.results47, go_sem, k0, k1, k2]) rfl ⟨⟨_, _, rfl, HG.out⟩, ((HF6.out.setCell (by simp) _).setCell (by simp) _).setCell (by simp) _⟩
      · have HG : Hid (Goes T.list a lh ll) := by
          have := HLS.out
          simp only [exactH, if_neg hex] at this
          simp at this
          exact Lib.hid this
        clear HLS
        by_cases hkk : k' = 32
        · subst hkk
          have hne : ¬ n' = a := fun e => hex ⟨e, rfl⟩
          have hl : ¬ loOf n' = loOf a := fun e => hne (by
            rw [loOf_false hwt.1.1, loOf_false ha] at e
            omega)
          clear hex hne hwt
          go_wp2_with fail
          refine wp_region_qb (by kernel_rfl) (by kernel_rfl) (fun kq => ?_)
          repeat (quiet_step (fail))
          clear kq
          refine wpQuiet_nil ?_; intro w5 hb5; (repeat (with_reducible (replace hb5 := Below.undrew hb5))); obtain ⟨hc5, hf5⟩ := bcell hb5; have hz5 := hb5.size; (repeat (first | rw [World.size_alloc] at hz5 | rw [World.size_drew] at hz5 | rw [World.size_setCell] at hz5)); (try have : w.heap.size < w5.heap.size := by omega); (try have : w.heap.size < w5.heap.size + 1 := by omega); (try have : w.heap.size < w5.heap.size + 1 + 1 := by omega); (try have : w.heap.size < w5.heap.size + 1 + 1 + 1 := by omega); (try have : w.heap.size + 1 < w5.heap.size := by omega); (try have : w.heap.size + 1 < w5.heap.size + 1 := by omega); (try have : w.heap.size + 1 < w5.heap.size + 1 + 1 := by omega); (try have : w.heap.size + 1 < w5.heap.size + 1 + 1 + 1 := by omega); (try have : w1.heap.size < w5.heap.size := by omega); (try have : w1.heap.size < w5.heap.size + 1 := by omega); (try have : w1.heap.size < w5.heap.size + 1 + 1 := by omega); (try have : w1.heap.size < w5.heap.size + 1 + 1 + 1 := by omega)
          have B5 := HBX.out.below hb5
          have R5 := HR4.out.below hb5
          obtain ⟨b5l, b50, b51, b52, _, _, _⟩ := B5
          have HRF := Lib.hid R5
          obtain ⟨r5l, r50, r51, r52, r5f, r5g, r5h⟩ := R5
          clear hc5 hf5 HBX HR4 sc' P0 P1 P2 P3 d0 d1 d2 d3 HTNb
          go_wp2_with fail
          have RF := (HRF.out.set0.set1 lh).set2 ll
          obtain ⟨_, k0, k1, k2, _, _, _⟩ := RF
          exact bodyPost_ret (v := .agg #[.int .i64 0, .int .i64 (lh : Nat), .int .i64 (ll : Nat)]) (by simp [results, Try.results47, go_sem, k0, k1, k2]) rfl ⟨⟨_, _, rfl, HG.out⟩, (((HF4.out.trans (hb5.mono HF4.out.size)).setCell (by simp) _).setCell (by simp) _).setCell (by simp) _⟩
        · have hki : ¬ ((k' : Int) = 32) := by omega
          clear hex hwt
          go_wp2_with fail
          refine wp_region_qb (by kernel_rfl) (by kernel_rfl) (fun kq => ?_)
          repeat (quiet_step (fail))
          clear kq
          refine wpQuiet_nil ?_; intro w5 hb5; (repeat (with_reducible (replace hb5 := Below.undrew hb5))); obtain ⟨hc5, hf5⟩ := bcell hb5; have hz5 := hb5.size; (repeat (first | rw [World.size_alloc] at hz5 | rw [World.size_drew] at hz5 | rw [World.size_setCell] at hz5)); (try have : w.heap.size < w5.heap.size := by omega); (try have : w.heap.size < w5.heap.size + 1 := by omega); (try have : w.heap.size < w5.heap.size + 1 + 1 := by omega); (try have : w.heap.size < w5.heap.size + 1 + 1 + 1 := by omega); (try have : w.heap.size + 1 < w5.heap.size := by omega); (try have : w.heap.size + 1 < w5.heap.size + 1 := by omega); (try have : w.heap.size + 1 < w5.heap.size + 1 + 1 := by omega); (try have : w.heap.size + 1 < w5.heap.size + 1 + 1 + 1 := by omega); (try have : w1.heap.size < w5.heap.size := by omega); (try have : w1.heap.size < w5.heap.size + 1 := by omega); (try have : w1.heap.size < w5.heap.size + 1 + 1 := by omega); (try have : w1.heap.size < w5.heap.size + 1 + 1 + 1 := by omega)
          have B5 := HBX.out.below hb5
          have R5 := HR4.out.below hb5
          obtain ⟨b5l, b50, b51, b52, _, _, _⟩ := B5
          have HRF := Lib.hid R5
          obtain ⟨r5l, r50, r51, r52, r5f, r5g, r5h⟩ := R5
          clear hc5 hf5 HBX HR4 sc' P0 P1 P2 P3 d0 d1 d2 d3 HTNb
          go_wp2_with fail
          have RF := (HRF.out.set0.set1 lh).set2 ll
          obtain ⟨_, k0, k1, k2, _, _, _⟩ := RF
          exact bodyPost_ret (v := .agg #[.int .i64 0, .int .i64 (lh : Nat), .int .i64 (ll : Nat)]) (by simp [results, Try.results47, go_sem, k0, k1, k2]) rfl ⟨⟨_, _, rfl, HG.out⟩, (((HF4.out.trans (hb5.mono HF4.out.size)).setCell (by simp) _).setCell (by simp) _).setCell (by simp) _⟩
end Go.Proofs.Ytoecmoicaklbaaa
