
/- slices.AppendSeq, slices.Collect, slices.SortedFunc of slices.Values at prefixes. -/
import Derived.Test.YtoecmoicaklbaaaVal
import Derived.RangeFuncBox
import Derived.Maps.AppendAt
set_option linter.unusedVariables false
set_option linter.unusedSimpArgs false
namespace Go.Proofs.Ytoecmoicaklbaaa
open Go Go.RowKit Go.Sort Go.Shelf Wc Wk
attribute [local go_sem] Oper.semAt_some

/-- The box of a prefix. -/
def RBP (six : Bool) (W : World) (B : Nat) (x : Nat × Nat) : Prop := W.heap[B]? = some (.cells (pfC six x).toArray 30 (0, 0))
theorem RBP.cell {six : Bool} {W : World} {B : Nat} {x : Nat × Nat} (h : RBP six W B x) {j : Nat} {u : Value} (hu : (pfC six x)[j]? = some u) : W.cell? ⟨B, j, none⟩ = some u := by
  unfold RBP at h
  simp [World.cell?, h, hu]
theorem RBP.own (six : Bool) (B : Nat) (x : Nat × Nat) : Go.Own (fun (_ : Unit) W => RBP six W B x) := fun s W W' row hs hg hr => by
  have hs' : W.heap[B]? = some (.cells (pfC six x).toArray 30 (0, 0)) := hs
  exact (grownBy_keeps_cells hg hr hs' rfl).trans hs'
/-- What has been collected behind i rounds. -/
def CollP (six : Bool) (n₀ B : Nat) (L : List (Nat × Nat)) (w1 : World) (i : Nat) (W : World) : Prop :=
  (∃ v, Boxed W B 47 v ∧ W.ownsRow n₀ 30 4 v i ((L.take i).map (pfC six)).flatten ∧ True) ∧ Below n₀ w1 W
theorem take_len_flatP (six : Bool) (L : List (Nat × Nat)) (i : Nat) (x : Nat × Nat) (h : L[i]? = some x) : ((L.take (i + 1)).map (pfC six)).flatten = ((L.take i).map (pfC six)).flatten ++ pfC six x := by
  rw [List.take_add_one, h, List.map_append, List.flatten_append]; simp


set_option maxRecDepth 100000 in
set_option maxHeartbeats 1000000 in
theorem appendPf_any (six : Bool) (sb : Nat) (a : Option Addr) (len cap : Nat) (xs : List (Nat × Nat)) (w : World) (hs : Sl w 4 (.slice a len cap) (xs.map (pfC six))) (hlen : len = xs.length) (h60 : xs.length ≤ 1000) (hc : w.cell? ⟨sb, 0, none⟩ = some (.slice a len cap)) (hsb : sb < w.heap.size) (ha : ∀ x, a = some x → x.block < w.heap.size) :
    Calls Try.prog 127 #[.slice none 0 0, .func (.func 114) #[] #[.pointer (some ⟨sb, 0, none⟩)]] w fun e w' => ∃ v, e = .returned v ∧ Wk.Own w' w.heap.size 30 4 v (xs.map (pfC six)) ∧ Below w.heap.size w w' := by
  have hdd : ∀ k : Nat, (Fence.wide.depth.isSome = true → 1 ≤ k) := fun k h => by cases h
  have H60 := Lib.hid h60
  refine (callsIn_wide (n := 3)).1 (callsIn_of_wp_marks Try.func127 rfl trivial ?_ rfl)
  simp only [Try.ntmps127, List.size_toArray, List.length_cons, List.length_nil, Nat.reduceAdd, Nat.reduceSub, Array.replicate_succ, Array.replicate_zero, List.push_toArray, List.append_toArray, List.nil_append, List.cons_append]
  gi_wp2
  have hb1 : Below w.heap.size w (w.alloc (.cells #[.slice none 0 0] 47)) := (Below.refl _ _).alloc (Nat.le_refl _) _
  have IT := values_in six sb w.heap.size a len cap xs _ (hs.below hb1) hlen (by omega) ((hb1.cell (p := ⟨sb, 0, none⟩) hsb).trans hc) hsb (by simp) ha (3 - 1)
  clear hs hlen h60 hc hsb ha
  refine range_held rfl (by decide) (gf := 114) (bs := #[]) (cs := #[.pointer (some ⟨sb, 0, none⟩)]) rfl trivial (enters_of Try.func114 (by kernel_rfl) rfl) (encs := encPf six) (fun _ => rfl) (n₀ := w.heap.size) (by simp) IT
    (CollP six w.heap.size w.heap.size xs w)
    (OwnFrom.and (Own.from (holdsRow_own w.heap.size w.heap.size 47 30 4 (fun i => i) (fun i => ((xs.take i).map (pfC six)).flatten) (fun _ _ => True)) _) (ownFrom_below (Nat.le_refl _) (by simp)))
    ⟨⟨_, Boxed.new w _ _, by simpa using World.ownsRow_nil _ _ _ _, trivial⟩, hb1⟩
    (fun x a' W => ∃ Bx, RBP six W Bx x ∧ a' = { tmps := #[.slice none 0 0, .func (.func 114) #[] #[.pointer (some ⟨sb, 0, none⟩)], .pointer (some ⟨w.heap.size, 0, none⟩), undef, .slice none 0 0, .pointer (some ⟨Bx, 0, none⟩), .func (.func 114) #[] #[.pointer (some ⟨sb, 0, none⟩)], .agg (pfC six x).toArray, undef, undef, undef, undef, undef], defers := [] })
    ?hax ?assign ?body ?done
  case hax =>
    rintro x a' s W W' row ⟨Bx, hx, he⟩ hg hr
    exact ⟨Bx, RBP.own six Bx x s W W' row hx hg (fun r e => (hr r e).2), he⟩
  case assign =>
    intro l i x W K hx hi hK
    obtain ⟨⟨v, hv, hr, _⟩, hb⟩ := hi
    simp only [encPf]
    gi_wp2
    exact hK _ _ ((KeepsOthers.alloc _ _).from _) ((Below.refl _ W).alloc hb.size _) ⟨⟨v, hv.alloc _, hr.alloc _, trivial⟩, hb.alloc hb.size _⟩ ⟨W.heap.size, World.alloc_heap_new W _, rfl⟩
  case body =>
    rintro l i x a' W hl hx ⟨⟨v, hv, hrow, _⟩, hB⟩ ⟨Bx, hrb, rfl⟩
    have hil : i < xs.length := (List.getElem?_eq_some_iff.1 hx).1
    have c0 := hrb.cell (j := 0) rfl
    have c1 := hrb.cell (j := 1) rfl
    have c2 := hrb.cell (j := 2) rfl
    have c3 := hrb.cell (j := 3) rfl
    have cv := hv.cell
    obtain ⟨ht0, hi0, hzs, hsz⟩ := eiPre
    obtain ⟨ii, hii, hi1⟩ := Option.map_eq_some_iff.1 hi0
    simp only [Prod.mk.injEq] at hi1
    obtain ⟨hz, hsize, hby⟩ := hi1
    have hN : xs.length ≤ 1000 := H60.out
    gi_wp2_with (gi_at_builtin; refine wpListIn_append_own _ rfl _ _ 47 rfl w.heap.size 30 ii _ 4 32 ht0 hii hz hsize hby hzs hsz _ _ _ rfl (hrow.alloc _) ⟨W.heap.size, 0, none⟩ 1 1 (pfC six x) rfl rfl (by intro j u hu; rw [addr_add_none, Nat.zero_add, World.cell?_alloc_new]; simpa [pfC, preCells] using hu) (pfC_one six x) (by unfold maxLen; omega) (by omega) (by have := hB.size; simp; omega) ?_; intro v' w2 hown' hgrow _; obtain ⟨g', cap', rfl⟩ := ownsRow_succ hown'; obtain ⟨hv1, hv2, hr2, hk2, hb2⟩ := hv.appended (by decide) hrow hB.size (Nat.le_refl _) hown' hgrow; have hc1 := hv1.cell; have hf1 := hv1.frozen)
    exact ⟨hk2.from _, hb2, ⟨_, hv2, by rw [take_len_flatP six _ _ _ hx]; exact hr2, trivial⟩, hB.trans hb2⟩
  case done =>
    rintro D W hD ⟨⟨v, hv, hrow, _⟩, hB⟩ hK
    have cv := hv.cell
    have hfin : Wk.Own (W.putObj D (.deferred none)) w.heap.size 30 4 v (xs.map (pfC six)) := by
      rw [List.take_of_length_le (Nat.le_refl _)] at hrow
      refine ⟨fun c hc => ?_, ?_⟩
      · obtain ⟨r, _, rfl⟩ := List.mem_map.1 hc; rfl
      · rw [List.length_map]
        exact ownsRow_putObj hrow _ hK rfl
    gi_wp2
    refine ⟨by simp, .inl ⟨_, _, rfl, run_takeDeferred hK, ?_⟩⟩
    exact ⟨_, results_tmp rfl _ _ _, v, rfl, hfin, hB.trans (belowK_b (w := w) (Nat.le_refl _) W D _ _ (by simp at hD; omega) hK rfl rfl)⟩

theorem collectPf_any (six : Bool) (sb : Nat) (a : Option Addr) (len cap : Nat) (xs : List (Nat × Nat)) (w : World) (hs : Sl w 4 (.slice a len cap) (xs.map (pfC six))) (hlen : len = xs.length) (h60 : xs.length ≤ 1000) (hc : w.cell? ⟨sb, 0, none⟩ = some (.slice a len cap)) (hsb : sb < w.heap.size) (ha : ∀ x, a = some x → x.block < w.heap.size) :
    Calls Try.prog 112 #[.func (.func 114) #[] #[.pointer (some ⟨sb, 0, none⟩)]] w fun e w' => ∃ v, e = .returned v ∧ Wk.Own w' w.heap.size 30 4 v (xs.map (pfC six)) ∧ Below w.heap.size w w' := by
  have AS := Lib.hid (appendPf_any six sb a len cap xs w hs hlen h60 hc hsb ha)
  clear hs hlen h60 hc hsb ha
  go_enter Try.func112, Try.ntmps112
  go_wp2_with ((with_reducible refine AS.out.mono ?_); rintro e w5 ⟨v, rfl, ho, hb⟩)
  go_returns
  exact ⟨v, rfl, ho, hb⟩
end Go.Proofs.Ytoecmoicaklbaaa
