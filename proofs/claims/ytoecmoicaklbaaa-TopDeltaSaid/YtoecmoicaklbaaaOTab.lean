
/- Contracts: slices.AppendSeq, slices.Collect of t.Each (routes of a table in order). -/
import Derived.Test.YtoecmoicaklbaaaRo
import Derived.Test.YtoecmoicaklbaaaLk
set_option linter.unusedVariables false
set_option linter.unusedSimpArgs false
namespace Go.Proofs.Ytoecmoicaklbaaa
open Go Go.RowKit Go.Sort Go.Shelf Wc Wk
attribute [local go_sem] Oper.semAt_some


set_option maxRecDepth 100000 in
set_option maxHeartbeats 1000000 in
theorem appendSeq_any (tb cnt : Nat) (T : BT) (w : World) (tr : TabR w tb T cnt) (hlow : ∀ b ∈ tb :: T.blocks, b < w.heap.size) (h60 : T.list.length ≤ 60) :
    Calls Try.prog 120 #[.slice none 0 0, .func (.func 78) #[.pointer (some ⟨tb, 0, none⟩)] #[]] w fun e w' => ∃ v, e = .returned v ∧ Wk.Own w' w.heap.size 49 5 v (T.list.map routeCells) ∧ Below w.heap.size w w' := by
  have hdd : ∀ k : Nat, (Fence.wide.depth.isSome = true → 1 ≤ k) := fun k h => by cases h
  have H60 := Lib.hid h60
  refine (callsIn_wide (n := 3)).1 (callsIn_of_wp_marks Try.func120 rfl trivial ?_ rfl)
  simp only [Try.ntmps120, List.size_toArray, List.length_cons, List.length_nil, Nat.reduceAdd, Nat.reduceSub, Array.replicate_succ, Array.replicate_zero, List.push_toArray, List.append_toArray, List.nil_append, List.cons_append]
  gi_wp2
  have hb1 : Below w.heap.size w (w.alloc (.cells #[.slice none 0 0] 43)) := (Below.refl _ _).alloc (Nat.le_refl _) _
  have IT := Each_in tb cnt w.heap.size T _ (tr.below hb1) hlow (3 - 1)
  clear tr hlow h60
  refine range_list rfl (by decide) (gf := 78) (bs := #[.pointer (some ⟨tb, 0, none⟩)]) rfl trivial (enters_of Try.func78 (by kernel_rfl) rfl) (encs := encR) (fun _ => rfl) (n₀ := w.heap.size) (by simp) IT
    (Coll w.heap.size w.heap.size T.list w)
    (OwnFrom.and (Own.from (holdsRow_own w.heap.size w.heap.size 43 49 5 (fun i => i) (fun i => ((T.list.take i).map routeCells).flatten) (fun _ _ => True)) _) (ownFrom_below (Nat.le_refl _) (by simp)))
    ⟨⟨_, Boxed.new w _ _, by simpa using World.ownsRow_nil _ _ _ _, trivial⟩, hb1⟩
    (fun x a' W => ∃ Bx, RB W Bx x ∧ a' = { tmps := #[.slice none 0 0, .func (.func 78) #[.pointer (some ⟨tb, 0, none⟩)] #[], .pointer (some ⟨w.heap.size, 0, none⟩), undef, .slice none 0 0, .pointer (some ⟨Bx, 0, none⟩), .func (.func 78) #[.pointer (some ⟨tb, 0, none⟩)] #[], .agg (routeCells x).toArray, undef, undef, undef, undef, undef], defers := [] })
    ?hax ?assign ?body ?done
  case hax =>
    rintro x a' s W W' row ⟨Bx, hx, he⟩ hg hr
    exact ⟨Bx, RB.own Bx x s W W' row hx hg (fun r e => (hr r e).2), he⟩
  case assign =>
    intro l i x W K hx hi hK
    obtain ⟨⟨v, hv, hr, _⟩, hb⟩ := hi
    simp only [encR]
    gi_wp2
    exact hK _ _ ((KeepsOthers.alloc _ _).from _) ((Below.refl _ W).alloc hb.size _) ⟨⟨v, hv.alloc _, hr.alloc _, trivial⟩, hb.alloc hb.size _⟩ ⟨W.heap.size, World.alloc_heap_new W _, rfl⟩
  case body =>
    rintro l i x a' W hl hx ⟨⟨v, hv, hrow, _⟩, hB⟩ ⟨Bx, hrb, rfl⟩
    have hil : i < T.list.length := (List.getElem?_eq_some_iff.1 hx).1
    have c0 := hrb.cell (j := 0) rfl
    have c1 := hrb.cell (j := 1) rfl
    have c2 := hrb.cell (j := 2) rfl
    have c3 := hrb.cell (j := 3) rfl
    have c4 := hrb.cell (j := 4) rfl
    have cv := hv.cell
    obtain ⟨ht0, hi0, hzs, hsz⟩ := eiRoute
    obtain ⟨ii, hii, hi1⟩ := Option.map_eq_some_iff.1 hi0
    simp only [Prod.mk.injEq] at hi1
    obtain ⟨hz, hsize, hby⟩ := hi1
    have hN : T.list.length ≤ 60 := H60.out
    gi_wp2_with (gi_at_builtin; refine wpListIn_append_own _ rfl _ _ 43 rfl w.heap.size 49 ii _ 5 40 ht0 hii hz hsize hby hzs hsz _ _ _ rfl (hrow.alloc _) ⟨W.heap.size, 0, none⟩ 1 1 (routeCells x) rfl rfl (by intro j u hu; rw [addr_add_none, Nat.zero_add, World.cell?_alloc_new]; simpa [routeCells] using hu) (routeCells_one x) (by unfold maxLen; omega) (by omega) (by have := hB.size; simp; omega) ?_; intro v' w2 hown' hgrow _; obtain ⟨g', cap', rfl⟩ := ownsRow_succ hown'; obtain ⟨hv1, hv2, hr2, hk2, hb2⟩ := hv.appended (by decide) hrow hB.size (Nat.le_refl _) hown' hgrow; have hc1 := hv1.cell; have hf1 := hv1.frozen)
    exact ⟨hk2.from _, hb2, ⟨_, hv2, by rw [take_len_flat _ _ _ hx]; exact hr2, trivial⟩, hB.trans hb2⟩
  case done =>
    rintro D W hD ⟨⟨v, hv, hrow, _⟩, hB⟩ hK
    have cv := hv.cell
    have hfin : Wk.Own (W.putObj D (.deferred none)) w.heap.size 49 5 v (T.list.map routeCells) := by
      rw [List.take_of_length_le (Nat.le_refl _)] at hrow
      refine ⟨fun c hc => ?_, ?_⟩
      · obtain ⟨r, _, rfl⟩ := List.mem_map.1 hc; rfl
      · rw [List.length_map]
        exact ownsRow_putObj hrow _ hK rfl
    gi_wp2
    refine ⟨by simp, .inl ⟨_, _, rfl, run_takeDeferred hK, ?_⟩⟩
    exact ⟨_, results_tmp rfl _ _ _, v, rfl, hfin, hB.trans (belowK_b (w := w) (Nat.le_refl _) W D _ _ (by simp at hD; omega) hK rfl rfl)⟩

theorem collect_any (tb cnt : Nat) (T : BT) (w : World) (tr : TabR w tb T cnt) (hlow : ∀ b ∈ tb :: T.blocks, b < w.heap.size) (h60 : T.list.length ≤ 60) :
    Calls Try.prog 98 #[.func (.func 78) #[.pointer (some ⟨tb, 0, none⟩)] #[]] w fun e w' => ∃ v, e = .returned v ∧ Wk.Own w' w.heap.size 49 5 v (T.list.map routeCells) ∧ Below w.heap.size w w' := by
  have AS := Lib.hid (appendSeq_any tb cnt T w tr hlow h60)
  clear tr hlow h60
  go_enter Try.func98, Try.ntmps98
  go_wp2_with ((with_reducible refine AS.out.mono ?_); rintro e w5 ⟨v, rfl, ho, hb⟩)
  go_returns
  exact ⟨v, rfl, ho, hb⟩
end Go.Proofs.Ytoecmoicaklbaaa

/- Contracts: a Do on a table of the call's own; its routes collected. -/
set_option linter.unusedVariables false
set_option linter.unusedSimpArgs false
namespace Go.Proofs.Ytoecmoicaklbaaa
open Go Go.RowKit Go.Sort Wc Wk

theorem OwnTab.act {w wr : World} {tb : Nat} {L : List (Nat × Nat × Nat)} {x : ActD} (h : OwnTab w wr tb L) (hl : L.length ≤ 60) (hx : x.fit) :
    Calls Try.prog 59 #[.pointer (some ⟨tb, 0, none⟩), Value.agg #[.int .i64 x.kind, .bool false, .int .u64 (hiOf false x.n), .int .u64 (loOf x.n), .int .i64 x.k, .int .i64 x.hop, .bool false, .int .u64 (hiOf false x.a), .int .u64 (loOf x.a)]] wr fun e w' => e = .returned (.agg #[.int .i64 (tstep L x).2.code, .int .i64 (tstep L x).2.hop, .int .i64 (tstep L x).2.len]) ∧ OwnTab w w' tb (tstep L x).1 ∧ wr.heap.size ≤ w'.heap.size := by
  obtain ⟨F, t, f, b⟩ := h
  refine (tdo_any tb L F x wr t hl hx).mono ?_
  rintro e w' ⟨rfl, t', c⟩
  refine ⟨rfl, ⟨_, t'.lt, fun k hk => ⟨?_, hk.2⟩, b.trans (c.below b.size (fun k x hk hf => by have := (f k hf).1; omega))⟩, c.size⟩
  rcases hk.1 with h | h
  · exact (f k h).1
  · have := b.size; omega
theorem OwnTab.collect {w wr : World} {tb : Nat} {L : List (Nat × Nat × Nat)} (h : OwnTab w wr tb L) (h60 : L.length ≤ 60) :
    Calls Try.prog 98 #[.func (.func 78) #[.pointer (some ⟨tb, 0, none⟩)] #[]] wr fun e w' => ∃ v, e = .returned v ∧ Wk.Own w' wr.heap.size 49 5 v (L.map routeCells) ∧ Below wr.heap.size wr w' := by
  obtain ⟨F, ⟨T, tr, hw, hL, hF⟩, f, b⟩ := h
  have C := collect_any tb _ T wr tr (fun b hb => (f b (hF b hb)).2) (by rw [hL]; exact h60)
  rw [hL] at C
  exact C
theorem otab_new (w : World) : OwnTab w (w.alloc (.cells #[.pointer none, .pointer none, .int .i64 0] 151)) w.heap.size [] :=
  ⟨_, tab_new w _, fun b hb => by subst hb; simp, (Below.refl _ _).alloc (Nat.le_refl _) _⟩
end Go.Proofs.Ytoecmoicaklbaaa
