
/- Contracts of package table: Cut. -/
import Derived.Test.YtoecmoicaklbaaaDoorTblK
import Derived.Test.YtoecmoicaklbaaaDoorTbA
set_option linter.unusedVariables false
namespace Wk
open Go Go.RowKit Go.Sort
theorem Own.chgF {w w' : World} {B : Nat} {e : TypeId} {sz : Nat} {v : Value} {xs : List (List Value)} {F : Nat → Nat → Prop} (h : Own w B e sz v xs) (c : Chg w w' F) (hF : ∀ b, v.ownBlock = some b → ∀ x, ¬ F b x) : Own w' B e sz v xs := by
  refine ⟨h.1, h.2.1, ?_⟩
  rcases h.2.2 with hn | ⟨g, cap, cur, rfl, hb, hgg, rest⟩
  · exact .inl hn
  · refine .inr ⟨g, cap, cur, rfl, hb, ?_, rest⟩
    rw [c.block g (Array.getElem?_eq_some_iff.1 hgg).1 (hF g rfl)]
    exact hgg
end Wk
namespace Go.Proofs.YtoecmoicaklbaaaDoor
open Go Go.RowKit Go.Sort Wc Wk

theorem eiSlot : EI Tryd.prog 145 128 1 8 (.pointer none) := ⟨by kernel_rfl, by kernel_rfl, rfl, by decide⟩
def aboveL (tb : Nat) : List Fr → List (List Value)
  | [] => []
  | _ :: c => aboveL tb c ++ [[.pointer (some ⟨slotB tb c, slotO c, none⟩)]]
theorem aboveL_len (tb : Nat) : ∀ c : List Fr, (aboveL tb c).length = c.length
  | [] => rfl
  | _ :: c => by simp [aboveL, aboveL_len tb c]
theorem aboveL_last (tb : Nat) (f : Fr) (c : List Fr) : (aboveL tb (f :: c))[c.length]? = some [.pointer (some ⟨slotB tb c, slotO c, none⟩)] := by
  show (aboveL tb c ++ _)[c.length]? = _
  rw [List.getElem?_append_right (by rw [aboveL_len]; exact Nat.le_refl _), aboveL_len, Nat.sub_self]; rfl
theorem only_rep {w : World} {t : BT} (r : BRep w t) : BRep w t.only := by
  cases t with
  | nil => trivial
  | node b n k h l r' =>
    rw [only_node]
    split
    · exact r
    · split
      · exact r.2.1
      · exact r.2.2
theorem only_blocks (t : BT) : t.only.blocks.Sublist t.blocks := by
  cases t with
  | nil => exact List.Sublist.refl _
  | node b n k h l r =>
    rw [only_node]
    split
    · exact List.Sublist.refl _
    · split
      · exact (List.sublist_append_left _ _).trans (List.sublist_cons_self _ _)
      · exact (List.sublist_append_right _ _).trans (List.sublist_cons_self _ _)
theorem nodup_sub {tb : Nat} {c : List Fr} {A B : List Nat} (h : (tb :: (cblocks c ++ B)).Nodup) (hs : A.Sublist B) : (tb :: (cblocks c ++ A)).Nodup :=
  h.sublist ((List.Sublist.append_left hs _).cons_cons _)
/-- What is left of a node is hung in its place. -/
theorem hang_only {w : World} {tb cnt : Nat} {c : List Fr} {t : BT} (ht : TabR w tb (plug c t) cnt) :
    TabR (w.setCell ⟨slotB tb c, slotO c, none⟩ (ptrV t.only.ptr)) tb (plug c t.only) cnt ∧ Chg w (w.setCell ⟨slotB tb c, slotO c, none⟩ (ptrV t.only.ptr)) (fun k _ => k = slotB tb c) := by
  obtain ⟨t1, t2, t3⟩ := tab_plug.1 ht
  exact hang t1 (only_rep t2) (nodup_sub t3 (only_blocks t))
theorem blocks_only {c : List Fr} {t : BT} {b : Nat} (h : b ∈ (plug c t.only).blocks) : b ∈ (plug c t).blocks := by
  rw [blocks_of] at h ⊢
  exact h.imp id (fun h => (only_blocks t).subset h)

/-- What a Cut does. -/
def CutSaysT (w : World) (tb n k : Nat) (L : List (Nat × Nat × Nat)) (F : Nat → Prop) (e : Ending) (w' : World) : Prop :=
  e = .returned (.int .i64 (hasL L n k : Nat)) ∧ Tab w' tb (cutL L n k) F ∧ Chg w w' (fun b _ => F b)
theorem cut_none {w w' : World} {tb n k N : Nat} {T : BT} {F : Nat → Prop} (ht : TabR w tb T N) (hN : T.list.length = N) (hw : T.wf) (hF : ∀ b ∈ tb :: T.blocks, F b) (h0 : hasL T.list n k = 0) (hb : Below w.heap.size w w') :
    CutSaysT w tb n k T.list F (.returned (.int .i64 0)) w' := by
  refine ⟨by rw [h0]; rfl, ?_, Chg.of_below hb _⟩
  rw [cutL_none (fun x hx => by have := (List.mem_filter.1 hx).2; simpa using this) h0]
  subst hN
  exact ⟨T, ht.below hb, hw, rfl, hF⟩
theorem hasL_at {c : List Fr} {t : BT} {n k : Nat} (hw : (plug c t).wf) (ho : onPath c n k) (hp : VP false n k) (hs : Stop t n k) : hasL (plug c t).list n k = exactH t n k := by
  by_cases h0 : exactH t n k = 0
  · rw [h0]
    apply Classical.byContradiction
    intro hne
    have := (get_says hw ho hp hs _ hne).1 (mem_hasL hne)
    omega
  · exact hasL_mem (list_sorted hw) ((get_says hw ho hp hs _ h0).2 rfl)
theorem ptrV_ptr (p : Option (Nat × Nat)) : ∃ q, ptrV p = .pointer q := by cases p with | none => exact ⟨_, rfl⟩ | some x => exact ⟨_, rfl⟩
theorem hops_list (T : BT) : Hops T.list := fun x hx => by have := (List.mem_filter.1 hx).2; simpa using this
theorem cut_fin {w w' : World} {tb n k h b N : Nat} {c : List Fr} {l r : BT} {T : BT} {F : Nat → Prop} (hc : T = plug c (.node b n k h l r)) (hw : T.wf) (hN : T.list.length = N) (ho : onPath c n k) (h0 : h ≠ 0) (hF : ∀ b ∈ tb :: T.blocks, F b)
    (ht : TabR w' tb (cutT c (.node b n k 0 l r)) (N - 1)) (hch : Chg w w' (fun b _ => F b)) : CutSaysT w tb n k T.list F (.returned (.int .i64 h)) w' := by
  subst hc
  obtain ⟨c1, c2, c3⟩ := cut_says hw ho h0
  have hs := list_sorted hw
  have hx : exactH (.node b n k h l r) n k = h := by simp [exactH]
  have hp : VP false n k := (plug_wf hw).1.1
  have hm : (n, k, h) ∈ (plug c (.node b n k h l r)).list := (get_says hw ho hp (.inl ⟨rfl, rfl⟩) h h0).2 hx
  have e1 : hasL (plug c (.node b n k h l r)).list n k = h := hasL_mem hs hm
  have e2 : (cutT c (.node b n k 0 l r)).list = cutL (plug c (.node b n k h l r)).list n k :=
    sorted_ext (list_sorted c1) (srt_cutL hs n k) (fun x => by rw [c2, mem_cutL])
  refine ⟨by rw [e1], ⟨_, ?_, c1, e2, fun x hx => ?_⟩, hch⟩
  · rw [← e2, show (cutT c (.node b n k 0 l r)).list.length = N - 1 by omega]; exact ht
  · rcases List.mem_cons.1 hx with rfl | hx
    · exact hF _ List.mem_cons_self
    · refine hF _ (List.mem_cons_of_mem _ ?_)
      have : ∀ x, x ∈ (plug c (.node b n k 0 l r)).blocks → x ∈ (plug c (.node b n k h l r)).blocks := fun x hx => by
        rw [blocks_of] at hx ⊢; exact hx
      cases c with
      | nil => exact this x (blocks_only (c := []) hx)
      | cons f c =>
        refine this x ?_
        have h1 := blocks_only (c := c) hx
        exact blocks_only (c := f :: c) h1

theorem path_len : ∀ {c : List Fr} {t : BT} {f : Fr}, (plug (f :: c) t).wf → c.length ≤ f.k
  | [], _, _, _ => Nat.zero_le _
  | g :: c, t, f, hw => by
    have h1 := path_dec hw g List.mem_cons_self
    have h2 := path_len (c := c) (t := f.fill t) (f := g) hw
    rw [List.length_cons]; omega
theorem only_of {t : BT} {b : Nat} {w : World} (hp : t.ptr = some (b, 0)) (rt : BRep w t) :
    Calls Tryd.prog 84 #[.pointer (some ⟨b, 0, none⟩)] w fun e w' => e = .returned (ptrV t.only.ptr) ∧ Below w.heap.size w w' := by
  cases t with
  | nil => cases hp
  | node b' n k h l r =>
    simp only [BT.ptr, Option.some.injEq, Prod.mk.injEq, and_true] at hp
    subst hp
    exact only_any b' n k h l r w rt

set_option maxRecDepth 100000 in
set_option maxHeartbeats 4000000 in
theorem cut_core (tb n k : Nat) (T : BT) (w : World) (F : Nat → Prop) (ht : TabR w tb T T.list.length) (hw : T.wf) (hF : ∀ b ∈ tb :: T.blocks, F b) (hlen : T.list.length ≤ 1000000) (hp : VP false n k) :
    Calls Tryd.prog 71 #[.pointer (some ⟨tb, 0, none⟩), Value.agg #[.bool false, .int .u64 (hiOf false n), .int .u64 (loOf n), .int .i64 k]] w (CutSaysT w tb n k T.list F) := by
  have HT := Lib.hid ht
  have HW := Lib.hid hw
  have HP := Lib.hid hp
  have HF := Lib.hid hF
  have R := Lib.hid (fun w => root_any tb n k w)
  have A := Lib.hid (fun i w h0 h1 => at_any false n i w hp.1 h0 h1)
  rw [show wdI false = 32 from rfl] at A
  clear ht hw hp hF
  generalize hN : T.list.length = N at *
  have HN := Lib.hid hN
  clear hN
  go_enter Tryd.func71, Tryd.ntmps71
  go_wp2_with (first | ((with_reducible refine (R.out _).mono ?_); rintro e w1 ⟨rfl, hb1⟩; (repeat (with_reducible (replace hb1 := Below.undrew hb1))); obtain ⟨hc1, hf1⟩ := bcell hb1; have hz1 := hb1.size; (repeat (first | rw [World.size_alloc] at hz1 | rw [World.size_drew] at hz1 | rw [World.size_setCell] at hz1)); (try have : B < w1.heap.size := by omega); (try have : B < w1.heap.size + 1 := by omega); (try have : B < w1.heap.size + 1 + 1 := by omega); (try have : B < w1.heap.size + 1 + 1 + 1 := by omega)))
  have F0 : w1.cell? ⟨w.heap.size, 0, none⟩ = some (.bool false) := by rw [hc1 _ _ (by simp)]; simp
  have F1 : w1.cell? ⟨w.heap.size, 1, none⟩ = some (.int .u64 (hiOf false n)) := by rw [hc1 _ _ (by simp)]; simp
  have F2 : w1.cell? ⟨w.heap.size, 2, none⟩ = some (.int .u64 (loOf n)) := by rw [hc1 _ _ (by simp)]; simp
  have F3 : w1.cell? ⟨w.heap.size, 3, none⟩ = some (.int .i64 k) := by rw [hc1 _ _ (by simp)]; simp
  have FS : w.heap.size < w1.heap.size := by omega
  have FB : Below w.heap.size w w1 := by (repeat' (first | (with_reducible exact Below.refl _ _) | (with_reducible assumption) | (with_reducible refine Below.alloc ?_ ?_ _) | (with_reducible refine Below.drew ?_) | (with_reducible refine Below.stepG ?_ (by assumption) ?_) | (with_reducible refine Below.setCell ?_ ?_ _) | omega | (dsimp only; omega) | (simp; done) | (simp; omega)))
  have HFB := Lib.hid FB
  clear hb1 hc1 hf1 hz1 FB
  obtain ⟨B, hB⟩ : ∃ B, B = w.heap.size := ⟨_, rfl⟩
  rw [← hB] at F0 F1 F2 F3 FS ⊢
  have HB := Lib.hid hB
  clear hB
  go_loopg [5, 6] (T.nodes.length + 1) (fun g vv av wr => ∃ (c : List Fr) (t : BT), Hid (T = plug c t) ∧ Hid (onPath c n k) ∧ t.nodes.length < g ∧ Hid (Own wr w1.heap.size 128 1 vv (aboveL tb c)) ∧ av = .pointer (some ⟨slotB tb c, slotO c, none⟩) ∧ Below w1.heap.size w1 wr)
  case atStart => exact ⟨[], T, Lib.hid rfl, Lib.hid (fun f hf => absurd hf List.not_mem_nil), Nat.lt_succ_self _, Own.nil _ _ _ _, rfl, Below.refl _ _⟩
  case round =>
    obtain ⟨c, t, HC, HO, hg, HOW, rfl, hbr⟩ := hrel
    have hzr := hbr.size
    have q0 := (hbr.cell (p := ⟨B, 0, none⟩) FS).trans F0
    have q1 := (hbr.cell (p := ⟨B, 1, none⟩) FS).trans F1
    have q2 := (hbr.cell (p := ⟨B, 2, none⟩) FS).trans F2
    have q3 := (hbr.cell (p := ⟨B, 3, none⟩) FS).trans F3
    have qs : B < wr.heap.size := by omega
    have HBR := Lib.hid (HFB.out.trans (hbr.mono HFB.out.size))
    have TT := HT.out.below HBR.out
    rw [HC.out] at TT
    have HTT := Lib.hid TT
    obtain ⟨t1, t2, t3⟩ := tab_plug.1 TT
    obtain ⟨sl, sc, sf⟩ := t1.at_slot
    have hwp : (plug c t).wf := by rw [← HC.out]; exact HW.out
    have HWP := Lib.hid hwp
    have hwt := (plug_wf hwp).1
    obtain ⟨a5, cap5, hsh⟩ : ∃ a cap, u5 = .slice a c.length cap := by
      obtain ⟨a, cap, h, _⟩ := HOW.out.sl.shape
      exact ⟨a, cap, by rw [h, aboveL_len]⟩
    subst hsh
    clear TT t1 t3 F0 F1 F2 F3 hwp
    generalize hsb : slotB tb c = sb at *
    generalize hso : slotO c = so at *
    have HSB := Lib.hid hsb
    have HSO := Lib.hid hso
    clear hsb hso
    cases t with
    | nil =>
      have sc' : wr.cell? ⟨sb, so, none⟩ = some (.pointer none) := sc
      have HZ := Lib.hid (hasL_at HWP.out HO.out HP.out (show Stop .nil n k from trivial))
      clear sc
      go_wp2_with fail
      refine wp_region_qb (by kernel_rfl) (by kernel_rfl) (fun kq => ?_)
      repeat (first | go_big_quiet_step (fail) | quiet_step (fail))
      clear kq
      refine wpQuiet_nil ?_; intro w2 hb2; (repeat (with_reducible (replace hb2 := Below.undrew hb2))); obtain ⟨hc2, hf2⟩ := bcell hb2; have hz2 := hb2.size; (repeat (first | rw [World.size_alloc] at hz2 | rw [World.size_drew] at hz2 | rw [World.size_setCell] at hz2)); (try have : B < w2.heap.size := by omega); (try have : B < w2.heap.size + 1 := by omega); (try have : B < w2.heap.size + 1 + 1 := by omega); (try have : B < w2.heap.size + 1 + 1 + 1 := by omega); (try have : w1.heap.size < w2.heap.size := by omega); (try have : w1.heap.size < w2.heap.size + 1 := by omega); (try have : w1.heap.size < w2.heap.size + 1 + 1 := by omega); (try have : w1.heap.size < w2.heap.size + 1 + 1 + 1 := by omega)
      have S2 := (hc2 sb so sl).trans sc'
      have sl2 : sb < w2.heap.size := by omega
      clear hc2 hf2 q0 q1 q2 q3 sc'
      go_wp2_with fail
      refine wp_region_qb (by kernel_rfl) (by kernel_rfl) (fun kq => ?_)
      repeat (first | go_big_quiet_step (fail) | quiet_step (fail))
      clear kq
      refine wpQuiet_nil ?_; intro w3 hb3; (repeat (with_reducible (replace hb3 := Below.undrew hb3))); obtain ⟨hc3, hf3⟩ := bcell hb3; have hz3 := hb3.size; (repeat (first | rw [World.size_alloc] at hz3 | rw [World.size_drew] at hz3 | rw [World.size_setCell] at hz3)); (try have : B < w3.heap.size := by omega); (try have : B < w3.heap.size + 1 := by omega); (try have : B < w3.heap.size + 1 + 1 := by omega); (try have : B < w3.heap.size + 1 + 1 + 1 := by omega); (try have : w1.heap.size < w3.heap.size := by omega); (try have : w1.heap.size < w3.heap.size + 1 := by omega); (try have : w1.heap.size < w3.heap.size + 1 + 1 := by omega); (try have : w1.heap.size < w3.heap.size + 1 + 1 + 1 := by omega)
      go_wp2
      go_returns
      exact cut_none HT.out HN.out HW.out HF.out (by rw [HC.out]; exact HZ.out) (HBR.out.trans ((hb2.mono HBR.out.size).trans (hb3.mono (Nat.le_trans HBR.out.size hb2.size))))
    | node b n' k' h l r =>
      have sc' : wr.cell? ⟨sb, so, none⟩ = some (.pointer (some ⟨b, 0, none⟩)) := sc
      clear sc
      obtain ⟨⟨ltb, d0, d1, d2, d3, d4, d5, d6, hfz⟩, _, _⟩ := t2
      obtain ⟨hv, ul, ur, wl, wr'⟩ := hwt
      have OV := Lib.hid (fun w => over_any false n' k' n k w hv HP.out)
      clear d5 d6
      by_cases hex : n' = n ∧ k' = k
      · obtain ⟨rfl, rfl⟩ := hex
        have HZ := Lib.hid (hasL_at HWP.out HO.out HP.out (show Stop (.node b n' k' h l r) n' k' from .inl ⟨rfl, rfl⟩))
        have HFZ := Lib.hid hfz
        clear hfz OV hv ul ur wl wr'
        go_wp2_with fail
        refine wp_region_qb (by kernel_rfl) (by kernel_rfl) (fun kq => ?_)
        repeat (first | go_big_quiet_step (fail) | quiet_step (fail))
        clear kq
        refine wpQuiet_nil ?_; intro w2 hb2; (repeat (with_reducible (replace hb2 := Below.undrew hb2))); obtain ⟨hc2, hf2⟩ := bcell hb2; have hz2 := hb2.size; (repeat (first | rw [World.size_alloc] at hz2 | rw [World.size_drew] at hz2 | rw [World.size_setCell] at hz2)); (try have : B < w2.heap.size := by omega); (try have : B < w2.heap.size + 1 := by omega); (try have : B < w2.heap.size + 1 + 1 := by omega); (try have : B < w2.heap.size + 1 + 1 + 1 := by omega); (try have : w1.heap.size < w2.heap.size := by omega); (try have : w1.heap.size < w2.heap.size + 1 := by omega); (try have : w1.heap.size < w2.heap.size + 1 + 1 := by omega); (try have : w1.heap.size < w2.heap.size + 1 + 1 + 1 := by omega)
        have S2 := (hc2 sb so sl).trans sc'
        have sl2 : sb < w2.heap.size := by omega
        have ltb2 : b < w2.heap.size := by omega
        have qs2 : B < w2.heap.size := by omega
        have e0 := (hc2 b 0 ltb).trans d0
        have e1 := (hc2 b 1 ltb).trans d1
        have e2 := (hc2 b 2 ltb).trans d2
        have e3 := (hc2 b 3 ltb).trans d3
        have e4 := (hc2 b 4 ltb).trans d4
        have r0 := (hc2 B 0 qs).trans q0
        have r1 := (hc2 B 1 qs).trans q1
        have r2 := (hc2 B 2 qs).trans q2
        have r3 := (hc2 B 3 qs).trans q3
        clear hc2 hf2 q0 q1 q2 q3 sc' d0 d1 d2 d3 d4
        by_cases h0 : h = 0
        · subst h0
          go_wp2_with fail
          refine wp_region_qb (by kernel_rfl) (by kernel_rfl) (fun kq => ?_)
          repeat (first | go_big_quiet_step (fail) | quiet_step (fail))
          clear kq
          refine wpQuiet_nil ?_; intro w3 hb3; (repeat (with_reducible (replace hb3 := Below.undrew hb3))); obtain ⟨hc3, hf3⟩ := bcell hb3; have hz3 := hb3.size; (repeat (first | rw [World.size_alloc] at hz3 | rw [World.size_drew] at hz3 | rw [World.size_setCell] at hz3)); (try have : B < w3.heap.size := by omega); (try have : B < w3.heap.size + 1 := by omega); (try have : B < w3.heap.size + 1 + 1 := by omega); (try have : B < w3.heap.size + 1 + 1 + 1 := by omega); (try have : w1.heap.size < w3.heap.size := by omega); (try have : w1.heap.size < w3.heap.size + 1 := by omega); (try have : w1.heap.size < w3.heap.size + 1 + 1 := by omega); (try have : w1.heap.size < w3.heap.size + 1 + 1 + 1 := by omega)
          go_wp2
          go_returns
          exact cut_none HT.out HN.out HW.out HF.out (by rw [HC.out, HZ.out]; simp [exactH]) (HBR.out.trans ((hb2.mono HBR.out.size).trans (hb3.mono (Nat.le_trans HBR.out.size hb2.size))))
        · have h0' : ((h : Int) == 0) = false := by rw [beq_eq_false_iff_ne]; omega
          have h0n : ¬ ((h : Int) = 0) := by omega
          go_wp2_with fail
          refine wp_region_qb (by kernel_rfl) (by kernel_rfl) (fun kq => ?_)
          repeat (first | go_big_quiet_step (fail) | quiet_step (fail))
          clear kq
          refine wpQuiet_nil ?_; intro w3 hb3; (repeat (with_reducible (replace hb3 := Below.undrew hb3))); obtain ⟨hc3, hf3⟩ := bcell hb3; have hz3 := hb3.size; (repeat (first | rw [World.size_alloc] at hz3 | rw [World.size_drew] at hz3 | rw [World.size_setCell] at hz3)); (try have : B < w3.heap.size := by omega); (try have : B < w3.heap.size + 1 := by omega); (try have : B < w3.heap.size + 1 + 1 := by omega); (try have : B < w3.heap.size + 1 + 1 + 1 := by omega); (try have : w1.heap.size < w3.heap.size := by omega); (try have : w1.heap.size < w3.heap.size + 1 := by omega); (try have : w1.heap.size < w3.heap.size + 1 + 1 := by omega); (try have : w1.heap.size < w3.heap.size + 1 + 1 + 1 := by omega)
          have H3 := Lib.hid (HBR.out.trans ((hb2.mono HBR.out.size).trans (hb3.mono (Nat.le_trans HBR.out.size hb2.size))))
          have HT3 := Lib.hid ((HTT.out.below hb2).below hb3)
          have HO3 := Lib.hid ((HOW.out.below hb2).below hb3)
          have S3 := (hc3 sb so sl2).trans S2
          have ltb3 : b < w3.heap.size := by omega
          have g4 := (hc3 b 4 ltb2).trans e4
          have f4 : w3.frozen? ⟨b, 4, none⟩ = false := ((tab_plug.1 HT3.out).2.1).1.fz 4 (by decide)
          obtain ⟨TX, CX⟩ : TabR (w3.setCell ⟨b, 4, none⟩ (.int .i64 0)) tb (plug c (.node b n' k' 0 l r)) N ∧ Chg w3 (w3.setCell ⟨b, 4, none⟩ (.int .i64 0)) (fun k _ => k = b) := hop_set HT3.out 0
          obtain ⟨y1, y2, y3⟩ := tab_plug.1 TX
          obtain ⟨yl, ys, yf⟩ := y1.at_slot
          simp only [HSB.out, HSO.out] at yl ys yf
          have ys' : (w3.setCell ⟨b, 4, none⟩ (.int .i64 0)).cell? ⟨sb, so, none⟩ = some (.pointer (some ⟨b, 0, none⟩)) := ys
          obtain ⟨q1, hq1⟩ := ptrV_ptr (BT.node b n' k' 0 l r).only.ptr
          have ON := Lib.hid (only_any b n' k' 0 l r _ y2)
          rw [hq1] at ON
          have HQ1 := Lib.hid hq1
          have HTX := Lib.hid TX
          have HCX := Lib.hid CX
          clear hc3 hf3 e0 e1 e2 e3 e4 r0 r1 r2 r3 S2 TX CX y1 y2 y3 ys yf hq1
          go_wp2_with fail
          refine ON.out.mono ?_
          rintro e w4 ⟨rfl, hb4⟩
          have HT4 := HTX.out.below hb4
          obtain ⟨TY, CY⟩ := hang_only (c := c) (t := .node b n' k' 0 l r) HT4
          simp only [HSB.out, HSO.out, HQ1.out] at TY CY
          have z2 := TY.tab.r2
          have y2f := HT4.tab.fz 2 (by decide)
          obtain ⟨_, s4, s4f⟩ := (tab_plug.1 HT4).1.at_slot
          simp only [HSB.out, HSO.out] at s4 s4f
          have s4' : w4.cell? ⟨sb, so, none⟩ = some (.pointer (some ⟨b, 0, none⟩)) := s4
          have hz4 := hb4.size
          simp only [World.size_setCell] at hz4
          have sl4 : sb < w4.heap.size := by omega
          have hN1 : 1 ≤ N := by
            have hm : (n', k', h) ∈ T.list := by rw [HC.out]; exact (get_says HWP.out HO.out HP.out (.inl ⟨rfl, rfl⟩) h h0).2 (by simp [exactH])
            have := List.length_pos_of_mem hm
            have := HN.out
            omega
          have eN : ((N - 1 : Nat) : Int) = (N : Int) - 1 := by omega
          have EN := Lib.hid eN
          have ewN : wrap64 ((N : Int) - 1) = (N : Int) - 1 := wrap64_in (by omega) (by omega)
          have hbT : ∀ x ∈ tb :: (plug c (BT.node b n' k' h l r)).blocks, x < w.heap.size := by rw [← HC.out]; exact HT.out.lts
          have htw : tb < w.heap.size := hbT tb List.mem_cons_self
          have hsw : sb < w.heap.size := hbT sb (by rw [← HSB.out]; exact slot_in)
          have hbw : b < w.heap.size := hbT b (List.mem_cons_of_mem _ (blocks_of.2 (.inr (by simp [BT.blocks]))))
          have FT : ∀ x ∈ tb :: (plug c (BT.node b n' k' h l r)).blocks, F x := by rw [← HC.out]; exact HF.out
          have Ftb : F tb := FT tb List.mem_cons_self
          have Fsb : F sb := FT sb (by rw [← HSB.out]; exact slot_in)
          have Fb : F b := FT b (List.mem_cons_of_mem _ (blocks_of.2 (.inr (by simp [BT.blocks]))))
          have C4 := Lib.hid (((Chg.of_below H3.out (fun x (_ : Nat) => F x)).trans HCX.out (fun x y _ e => by rw [e]; exact Fb)).trans (Chg.of_below hb4 (fun x (_ : Nat) => F x)) (fun _ _ _ h => h))
          have C5 := Lib.hid (C4.out.trans CY (fun x y _ e => by rw [e]; exact Fsb))
          have HWs : w.heap.size ≤ w1.heap.size := HFB.out.size
          have HO4 := Lib.hid ((HO3.out.chgF HCX.out (fun x hx y e => by have := (HO3.out.lt x hx).1; omega)).below hb4)
          have HTY := Lib.hid TY
          have HCY := Lib.hid CY
          have FTT := FT
          clear HT4 TY CY s4 eN ON hb4 FT hbT HTX HCX S3 g4 f4 ys' sl2 ltb2 qs2 C4 HB
          cases c with
          | nil =>
            clear FTT
            go_wp2_with fail
            go_returns
            obtain ⟨k1, k2⟩ := count_set HTY.out (N - 1)
            rw [EN.out] at k1 k2
            exact cut_fin HC.out HW.out HN.out HO.out h0 HF.out k1 (C5.out.trans k2 (fun x y _ e => by rw [e]; exact Ftb))
          | cons f c =>
            have HO5 := HO4.out.chgF HCY.out (fun x hx y e => by have := (HO4.out.lt x hx).1; omega)
            have HTY2 : TabR (w4.setCell ⟨sb, so, none⟩ (.pointer q1)) tb (plug c (f.fill (BT.node b n' k' 0 l r).only)) N := HTY.out
            obtain ⟨u1, u2, u3⟩ := tab_plug.1 HTY2
            obtain ⟨vl, vs, vf⟩ := u1.at_slot
            rw [fill_ptr] at vs
            have vs' : (w4.setCell ⟨sb, so, none⟩ (.pointer q1)).cell? ⟨slotB tb c, slotO c, none⟩ = some (.pointer (some ⟨f.b, 0, none⟩)) := vs
            obtain ⟨g5, cap6, hsh5, hg5, hg5l, _, _, _, hg5c⟩ := HO5.at (by rw [aboveL_len]; simp)
            simp only [Value.slice.injEq] at hsh5
            obtain ⟨hsh5, _, hsh6⟩ := hsh5
            subst hsh5
            subst hsh6
            have ab := hg5c c.length _ (aboveL_last tb f c) 0 _ rfl
            simp only [Nat.mul_one, Nat.add_zero] at ab
            have OF := Lib.hid (fun w rt => only_of (w := w) (fill_ptr f (BT.node b n' k' 0 l r).only) rt)
            obtain ⟨q2, hq2⟩ := ptrV_ptr (f.fill (BT.node b n' k' 0 l r).only).only.ptr
            rw [hq2] at OF
            have HQ2 := Lib.hid hq2
            have HU2 := Lib.hid u2
            have HTYh := Lib.hid HTY2
            have hcl : c.length ≤ 1000000 := by have h1 := path_len HWP.out; have h2 := (HO.out f List.mem_cons_self).1.2.1; have h3 : wd false = 32 := rfl; omega
            have hm5 : (c.length : Int) < ((c.length + 1 : Nat) : Int) := by omega
            simp only [List.length_cons]
            clear HO5 HTY2 u1 u2 u3 hg5c vs hq2 HTY
            have Fsc : F (slotB tb c) := by
              rcases slot_blk tb c with h | h
              · rw [h]; exact Ftb
              · exact FTT _ (List.mem_cons_of_mem _ (blocks_of.2 (.inl (by simp [cblocks, h]))))
            clear FTT
            generalize hcl0 : c.length = cl at *
            have HCL := Lib.hid hcl0
            clear hcl0
            generalize hsc : slotB tb c = sc at *
            generalize hoc : slotO c = oc at *
            have HSC := Lib.hid hsc
            have HOC := Lib.hid hoc
            clear hsc hoc
            go_wp2_with fail
            have ew1 : IntKind.i64.wrap (cl : Int) = (cl : Int) := IntWalk.i64_in _ (by omega)
            have ew2 : IntKind.i64.wrap ((cl : Int) + 1 - 1) = (cl : Int) := by rw [show (cl : Int) + 1 - 1 = cl by omega]; exact ew1
            have hcl2 : (cl : Int) < (cl : Int) + 1 := by omega
            trace "here"
            go_region_with (go_at_call 84; refine (OF.out _ (by first | exact HU2.out | exact HU2.out.below (by (repeat' (first | (with_reducible exact Below.refl _ _) | (with_reducible assumption) | (with_reducible refine Below.alloc ?_ ?_ _) | (with_reducible refine Below.drew ?_) | (with_reducible refine Below.stepG ?_ (by assumption) ?_) | (with_reducible refine Below.setCell ?_ ?_ _) | omega | (dsimp only; omega) | (simp; done) | (simp; omega)))))).mono ?_; rintro e w6 ⟨rfl, hb6⟩; have k6 := (hb6.cell (p := ⟨sc, oc, none⟩) (by simpa using vl)).trans (by simpa using vs'); have kf6 := (hb6.frozen (p := ⟨sc, oc, none⟩) (by simpa using vl)).trans (by simpa using vf); have kg6 := (hb6.cell (p := ⟨g5, cl, none⟩) (by simpa using hg5l)).trans (by simpa using ab))
            clear ew1 ew2 hcl2
            all_goals (
              have T6 := HTYh.out.below (w' := w6) (by first | exact hb6 | (repeat' (first | (with_reducible exact Below.refl _ _) | (with_reducible assumption) | (with_reducible refine Below.alloc ?_ ?_ _) | (with_reducible refine Below.drew ?_) | (with_reducible refine Below.stepG ?_ (by assumption) ?_) | (with_reducible refine Below.setCell ?_ ?_ _) | omega | (dsimp only; omega) | (simp; done) | (simp; omega))))
              have C6 : Chg w w6 (fun x _ => F x) := C5.out.trans (Chg.of_below (by first | exact hb6 | (repeat' (first | (with_reducible exact Below.refl _ _) | (with_reducible assumption) | (with_reducible refine Below.alloc ?_ ?_ _) | (with_reducible refine Below.drew ?_) | (with_reducible refine Below.stepG ?_ (by assumption) ?_) | (with_reducible refine Below.setCell ?_ ?_ _) | omega | (dsimp only; omega) | (simp; done) | (simp; omega)))) (fun x (_ : Nat) => F x)) (fun _ _ _ h => h)
              have HC6 := Lib.hid C6
              obtain ⟨TZ, CZ⟩ := hang_only (c := c) (t := f.fill (BT.node b n' k' 0 l r).only) T6
              simp only [HSC.out, HOC.out, HQ2.out] at TZ CZ
              have z6 := TZ.tab.r2
              have z6f := T6.tab.fz 2 (by decide)
              have HTZ := Lib.hid TZ
              have HCZ := Lib.hid CZ
              clear T6 C6 TZ CZ hb6
              go_wp2_with fail
              go_returns
              obtain ⟨k1, k2⟩ := count_set HTZ.out (N - 1)
              rw [EN.out] at k1 k2
              exact cut_fin HC.out HW.out HN.out HO.out h0 HF.out k1 ((HC6.out.trans HCZ.out (fun x y _ e => by rw [e]; exact Fsc)).trans k2 (fun x y _ e => by rw [e]; exact Ftb)))
      · have hk' : k' ≤ 32 := hv.2.1
        clear hfz
        by_cases hkk : k' = k
        · subst hkk
          have hne : ¬ n' = n := fun e => hex ⟨e, rfl⟩
          have hl : ¬ loOf n' = loOf n := fun e => hne (by
            rw [loOf_false hv.1, loOf_false HP.out.1] at e
            omega)
          have hcov : ¬ cov false n' k' n k' := fun hc => hne (by
            have e2 : cutN 32 n k' = n' := hc.2
            rw [← e2]; exact HP.out.2.2)
          rw [decide_eq_false hcov] at OV
          have HNC := Lib.hid hcov
          have HNE := Lib.hid hne
          clear hcov hne hex hv ul ur wl wr'
          go_wp2_with fail
          refine wp_region_qb (by kernel_rfl) (by kernel_rfl) (fun kq => ?_)
          repeat (first | go_big_quiet_step (first | (with_reducible exact Calls.regrown_of (OV.out _))) | quiet_step (first | (with_reducible exact Calls.regrown_of (OV.out _))))
          clear kq
          refine wpQuiet_nil ?_; intro w2 hb2; (repeat (with_reducible (replace hb2 := Below.undrew hb2))); obtain ⟨hc2, hf2⟩ := bcell hb2; have hz2 := hb2.size; (repeat (first | rw [World.size_alloc] at hz2 | rw [World.size_drew] at hz2 | rw [World.size_setCell] at hz2)); (try have : B < w2.heap.size := by omega); (try have : B < w2.heap.size + 1 := by omega); (try have : B < w2.heap.size + 1 + 1 := by omega); (try have : B < w2.heap.size + 1 + 1 + 1 := by omega); (try have : w1.heap.size < w2.heap.size := by omega); (try have : w1.heap.size < w2.heap.size + 1 := by omega); (try have : w1.heap.size < w2.heap.size + 1 + 1 := by omega); (try have : w1.heap.size < w2.heap.size + 1 + 1 + 1 := by omega)
          have S2 := (hc2 sb so sl).trans sc'
          have sl2 : sb < w2.heap.size := by omega
          have ltb2 : b < w2.heap.size := by omega
          have qs2 : B < w2.heap.size := by omega
          have e0 := (hc2 b 0 ltb).trans d0
          have e1 := (hc2 b 1 ltb).trans d1
          have e2 := (hc2 b 2 ltb).trans d2
          have e3 := (hc2 b 3 ltb).trans d3
          have e4 := (hc2 b 4 ltb).trans d4
          have r0 := (hc2 B 0 qs).trans q0
          have r1 := (hc2 B 1 qs).trans q1
          have r2 := (hc2 B 2 qs).trans q2
          have r3 := (hc2 B 3 qs).trans q3
          clear hc2 hf2 q0 q1 q2 q3 sc' d0 d1 d2 d3 d4
          go_wp2_with fail
          refine wp_region_qb (by kernel_rfl) (by kernel_rfl) (fun kq => ?_)
          repeat (first | go_big_quiet_step (fail) | quiet_step (fail))
          clear kq
          refine wpQuiet_nil ?_; intro w3 hb3; (repeat (with_reducible (replace hb3 := Below.undrew hb3))); obtain ⟨hc3, hf3⟩ := bcell hb3; have hz3 := hb3.size; (repeat (first | rw [World.size_alloc] at hz3 | rw [World.size_drew] at hz3 | rw [World.size_setCell] at hz3)); (try have : B < w3.heap.size := by omega); (try have : B < w3.heap.size + 1 := by omega); (try have : B < w3.heap.size + 1 + 1 := by omega); (try have : B < w3.heap.size + 1 + 1 + 1 := by omega); (try have : w1.heap.size < w3.heap.size := by omega); (try have : w1.heap.size < w3.heap.size + 1 := by omega); (try have : w1.heap.size < w3.heap.size + 1 + 1 := by omega); (try have : w1.heap.size < w3.heap.size + 1 + 1 + 1 := by omega)
          go_wp2
          go_returns
          exact cut_none HT.out HN.out HW.out HF.out (by rw [HC.out, hasL_at HWP.out HO.out HP.out (show Stop (.node b n' k' h l r) n k' from .inr HNC.out)]; simp [exactH]; exact fun e => absurd e HNE.out) (HBR.out.trans ((hb2.mono HBR.out.size).trans (hb3.mono (Nat.le_trans HBR.out.size hb2.size))))
        · have hki : ¬ ((k' : Int) = k) := by omega
          by_cases hcov : cov false n' k' n k
          · rw [decide_eq_true hcov] at OV
            have HCV := Lib.hid hcov
            have HV := Lib.hid hv
            clear hcov hex hv ul ur wl wr'
            go_wp2_with fail
            refine wp_region_qb (by kernel_rfl) (by kernel_rfl) (fun kq => ?_)
            repeat (first | go_big_quiet_step (first | (with_reducible exact Calls.regrown_of (OV.out _))) | quiet_step (first | (with_reducible exact Calls.regrown_of (OV.out _))))
            clear kq
            refine wpQuiet_nil ?_; intro w2 hb2; (repeat (with_reducible (replace hb2 := Below.undrew hb2))); obtain ⟨hc2, hf2⟩ := bcell hb2; have hz2 := hb2.size; (repeat (first | rw [World.size_alloc] at hz2 | rw [World.size_drew] at hz2 | rw [World.size_setCell] at hz2)); (try have : B < w2.heap.size := by omega); (try have : B < w2.heap.size + 1 := by omega); (try have : B < w2.heap.size + 1 + 1 := by omega); (try have : B < w2.heap.size + 1 + 1 + 1 := by omega); (try have : w1.heap.size < w2.heap.size := by omega); (try have : w1.heap.size < w2.heap.size + 1 := by omega); (try have : w1.heap.size < w2.heap.size + 1 + 1 := by omega); (try have : w1.heap.size < w2.heap.size + 1 + 1 + 1 := by omega)
            have hk'k : k' < k := by
              rcases Nat.lt_or_ge k' k with h | h
              · exact h
              · exact absurd (show k' = k by have := HCV.out.1; omega) hkk
            have hk32 : k ≤ 32 := HP.out.2.1
            have HO2 := Lib.hid (HOW.out.below hb2)
            have hsl2 := (HOW.out.below hb2)
            have S2 := (hc2 sb so sl).trans sc'
            have sl2 : sb < w2.heap.size := by omega
            have ltb2 : b < w2.heap.size := by omega
            have qs2 : B < w2.heap.size := by omega
            have e3 := (hc2 b 3 ltb).trans d3
            have r0 := (hc2 B 0 qs).trans q0
            have r1 := (hc2 B 1 qs).trans q1
            have r2 := (hc2 B 2 qs).trans q2
            have r3 := (hc2 B 3 qs).trans q3
            have hbw := Lib.hid (hbr.trans (hb2.mono hzr))
            have hcl : c.length ≤ 1000000 := by
              cases c with
              | nil => exact Nat.zero_le _
              | cons f c =>
                have h1 := path_len HWP.out
                have h2 := (HO.out f List.mem_cons_self).1.2.1
                have h3 : wd false = 32 := rfl
                simp only [List.length_cons]; omega
            clear hc2 hf2 q0 q1 q2 q3 sc' d0 d1 d2 d3 d4 OV hsl2
            go_wp2_with (at_builtin; refine stop_at ?_; intro G hG)
            rw [← hG.out]; clear hG G
            refine wpList_append_any rfl _ _ 145 128 1 8 _ rfl eiSlot w1.heap.size _ (aboveL tb c) rfl (HO2.out.alloc _) _ [[.pointer (some ⟨sb, so, none⟩)]] rfl (sl_new rfl rfl) (by intro c hc; simp at hc; subst hc; intro u hu; simp at hu; subst hu; rfl) (by rw [aboveL_len]; simp; omega) (by decide) (by first | omega | (simp; omega)) ?_
            intro v7 w7 hown7 hb7
            have hB7 : Below w1.heap.size w2 w7 := Below.trans ((Below.refl _ _).alloc (by omega) _) hb7
            have hbT : ∀ x ∈ tb :: T.blocks, x < w1.heap.size := fun x hx => Nat.lt_of_lt_of_le (HT.out.lts x hx) HFB.out.size
            rw [HC.out] at hbT
            have hb1 : b < w1.heap.size := hbT b (List.mem_cons_of_mem _ (blocks_of.2 (.inr (by simp [BT.blocks]))))
            have hsb1 : sb < w1.heap.size := hbT sb (by rw [← HSB.out]; exact slot_in)
            have hz7 := hB7.size
            have E3 := (hB7.cell (p := ⟨b, 3, none⟩) hb1).trans e3
            have S7 := (hB7.cell (p := ⟨sb, so, none⟩) hsb1).trans S2
            have R0 := (hB7.cell (p := ⟨B, 0, none⟩) FS).trans r0
            have R1 := (hB7.cell (p := ⟨B, 1, none⟩) FS).trans r1
            have R2 := (hB7.cell (p := ⟨B, 2, none⟩) FS).trans r2
            have HB7 := Lib.hid (hbw.out.trans hB7)
            obtain ⟨a7, cap7, hsh7⟩ := hown7.shape
            subst hsh7
            have HO7 := Lib.hid hown7
            have hB8 : B < w7.heap.size := by omega
            have hb8' : b < w7.heap.size := by omega
            have hs8 : sb < w7.heap.size := by omega
            have Ai := Lib.hid (fun w => A.out k' w (by omega) (by omega))
            rw [show ((k' : Int)).toNat = k' from rfl] at Ai
            have hbit := bitAt_le false n k'
            clear hown7 hb7 hB7 hbT S2 e3 r0 r1 r2 r3 HO2 hb2 hbr hz2
            generalize (aboveL tb c ++ [[Value.pointer (some ⟨sb, so, none⟩)]]).length = l7 at *
            go_wp2_with fail
            generalize hbt : bitAt false n k' = bt at *
            have HB2 := Lib.hid hbt
            clear hbt
            have hbc : bt = 0 ∨ bt = 1 := by omega
            rcases hbc with rfl | rfl
            · refine wp_region_qb (by kernel_rfl) (by kernel_rfl) (fun kq => ?_)
              repeat (first | go_big_quiet_step (first | (with_reducible exact Calls.regrown_of (Ai.out _))) | quiet_step (first | (with_reducible exact Calls.regrown_of (Ai.out _))))
              clear kq
              refine wpQuiet_nil ?_; intro w8 hb8; (repeat (with_reducible (replace hb8 := Below.undrew hb8))); obtain ⟨hc8, hf8⟩ := bcell hb8; have hz8 := hb8.size; (repeat (first | rw [World.size_alloc] at hz8 | rw [World.size_drew] at hz8 | rw [World.size_setCell] at hz8)); (try have : B < w8.heap.size := by omega); (try have : B < w8.heap.size + 1 := by omega); (try have : B < w8.heap.size + 1 + 1 := by omega); (try have : B < w8.heap.size + 1 + 1 + 1 := by omega); (try have : w1.heap.size < w8.heap.size := by omega); (try have : w1.heap.size < w8.heap.size + 1 := by omega); (try have : w1.heap.size < w8.heap.size + 1 + 1 := by omega); (try have : w1.heap.size < w8.heap.size + 1 + 1 + 1 := by omega)
              go_wp2_with fail
              go_roundg (gk - 1)
              case measure => omega
              case rel =>
                refine ⟨⟨b, n', k', h, false, r⟩ :: c, l, HC.out, ?_, ?_, Lib.hid ((show Own w7 w1.heap.size 128 1 _ (aboveL tb (⟨b, n', k', h, false, r⟩ :: c)) from by show Own _ _ _ _ _ (aboveL tb c ++ [[.pointer (some ⟨slotB tb c, slotO c, none⟩)]]); rw [HSB.out, HSO.out]; exact HO7.out).below hb8), rfl, HB7.out.trans (hb8.mono HB7.out.size)⟩
                · intro f hf
                  rcases List.mem_cons.1 hf with rfl | hf
                  · exact ⟨HV.out, HCV.out, hk'k, HB2.out⟩
                  · exact HO.out f hf
                · simp only [BT.nodes, List.length_cons, List.length_append] at hg; omega
            · refine wp_region_qb (by kernel_rfl) (by kernel_rfl) (fun kq => ?_)
              repeat (first | go_big_quiet_step (first | (with_reducible exact Calls.regrown_of (Ai.out _))) | quiet_step (first | (with_reducible exact Calls.regrown_of (Ai.out _))))
              clear kq
              refine wpQuiet_nil ?_; intro w8 hb8; (repeat (with_reducible (replace hb8 := Below.undrew hb8))); obtain ⟨hc8, hf8⟩ := bcell hb8; have hz8 := hb8.size; (repeat (first | rw [World.size_alloc] at hz8 | rw [World.size_drew] at hz8 | rw [World.size_setCell] at hz8)); (try have : B < w8.heap.size := by omega); (try have : B < w8.heap.size + 1 := by omega); (try have : B < w8.heap.size + 1 + 1 := by omega); (try have : B < w8.heap.size + 1 + 1 + 1 := by omega); (try have : w1.heap.size < w8.heap.size := by omega); (try have : w1.heap.size < w8.heap.size + 1 := by omega); (try have : w1.heap.size < w8.heap.size + 1 + 1 := by omega); (try have : w1.heap.size < w8.heap.size + 1 + 1 + 1 := by omega)
              go_wp2_with fail
              go_roundg (gk - 1)
              case measure => omega
              case rel =>
                refine ⟨⟨b, n', k', h, true, l⟩ :: c, r, HC.out, ?_, ?_, Lib.hid ((show Own w7 w1.heap.size 128 1 _ (aboveL tb (⟨b, n', k', h, true, l⟩ :: c)) from by show Own _ _ _ _ _ (aboveL tb c ++ [[.pointer (some ⟨slotB tb c, slotO c, none⟩)]]); rw [HSB.out, HSO.out]; exact HO7.out).below hb8), rfl, HB7.out.trans (hb8.mono HB7.out.size)⟩
                · intro f hf
                  rcases List.mem_cons.1 hf with rfl | hf
                  · exact ⟨HV.out, HCV.out, hk'k, HB2.out⟩
                  · exact HO.out f hf
                · simp only [BT.nodes, List.length_cons, List.length_append] at hg; omega
          · rw [decide_eq_false hcov] at OV
            have HNC := Lib.hid hcov
            have HNE := Lib.hid hkk
            clear hcov hex hv ul ur wl wr'
            go_wp2_with fail
            refine wp_region_qb (by kernel_rfl) (by kernel_rfl) (fun kq => ?_)
            repeat (first | go_big_quiet_step (first | (with_reducible exact Calls.regrown_of (OV.out _))) | quiet_step (first | (with_reducible exact Calls.regrown_of (OV.out _))))
            clear kq
            refine wpQuiet_nil ?_; intro w2 hb2; (repeat (with_reducible (replace hb2 := Below.undrew hb2))); obtain ⟨hc2, hf2⟩ := bcell hb2; have hz2 := hb2.size; (repeat (first | rw [World.size_alloc] at hz2 | rw [World.size_drew] at hz2 | rw [World.size_setCell] at hz2)); (try have : B < w2.heap.size := by omega); (try have : B < w2.heap.size + 1 := by omega); (try have : B < w2.heap.size + 1 + 1 := by omega); (try have : B < w2.heap.size + 1 + 1 + 1 := by omega); (try have : w1.heap.size < w2.heap.size := by omega); (try have : w1.heap.size < w2.heap.size + 1 := by omega); (try have : w1.heap.size < w2.heap.size + 1 + 1 := by omega); (try have : w1.heap.size < w2.heap.size + 1 + 1 + 1 := by omega)
            have S2 := (hc2 sb so sl).trans sc'
            have sl2 : sb < w2.heap.size := by omega
            have ltb2 : b < w2.heap.size := by omega
            have qs2 : B < w2.heap.size := by omega
            have e0 := (hc2 b 0 ltb).trans d0
            have e1 := (hc2 b 1 ltb).trans d1
            have e2 := (hc2 b 2 ltb).trans d2
            have e3 := (hc2 b 3 ltb).trans d3
            have e4 := (hc2 b 4 ltb).trans d4
            have r0 := (hc2 B 0 qs).trans q0
            have r1 := (hc2 B 1 qs).trans q1
            have r2 := (hc2 B 2 qs).trans q2
            have r3 := (hc2 B 3 qs).trans q3
            clear hc2 hf2 q0 q1 q2 q3 sc' d0 d1 d2 d3 d4
            go_wp2_with fail
            refine wp_region_qb (by kernel_rfl) (by kernel_rfl) (fun kq => ?_)
            repeat (first | go_big_quiet_step (fail) | quiet_step (fail))
            clear kq
            refine wpQuiet_nil ?_; intro w3 hb3; (repeat (with_reducible (replace hb3 := Below.undrew hb3))); obtain ⟨hc3, hf3⟩ := bcell hb3; have hz3 := hb3.size; (repeat (first | rw [World.size_alloc] at hz3 | rw [World.size_drew] at hz3 | rw [World.size_setCell] at hz3)); (try have : B < w3.heap.size := by omega); (try have : B < w3.heap.size + 1 := by omega); (try have : B < w3.heap.size + 1 + 1 := by omega); (try have : B < w3.heap.size + 1 + 1 + 1 := by omega); (try have : w1.heap.size < w3.heap.size := by omega); (try have : w1.heap.size < w3.heap.size + 1 := by omega); (try have : w1.heap.size < w3.heap.size + 1 + 1 := by omega); (try have : w1.heap.size < w3.heap.size + 1 + 1 + 1 := by omega)
            go_wp2
            go_returns
            exact cut_none HT.out HN.out HW.out HF.out (by rw [HC.out, hasL_at HWP.out HO.out HP.out (show Stop (.node b n' k' h l r) n k from .inr HNC.out)]; simp [exactH]; exact fun _ e => absurd e HNE.out) (HBR.out.trans ((hb2.mono HBR.out.size).trans (hb3.mono (Nat.le_trans HBR.out.size hb2.size))))
end Go.Proofs.YtoecmoicaklbaaaDoor
