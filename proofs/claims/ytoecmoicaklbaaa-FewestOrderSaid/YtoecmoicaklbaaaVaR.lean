
/- slices.Values, slices.Collect of routes. -/
import Derived.Test.YtoecmoicaklbaaaRl
import Derived.Test.YtoecmoicaklbaaaRo
import Derived.RangeFuncBox
import Derived.Maps.AppendAt
set_option linter.unusedVariables false
set_option linter.unusedSimpArgs false
namespace Go.Proofs.Ytoecmoicaklbaaa
open Go Go.RowKit Go.Sort Go.Shelf Wc Wk
attribute [local go_sem] Oper.semAt_some

/-- A prefix as what a round is handed. -/
def encRV (x : Nat × Nat × Nat) : Array Value := #[.agg #[.bool false, .int .u64 (hiOf false x.1), .int .u64 (loOf x.1), .int .i64 x.2.1, .int .i64 x.2.2]]
theorem Sl.rv {w w' : World} {a : Option Addr} {n cap : Nat} {l : List (Nat × Nat × Nat)} (hs : Sl w 5 (.slice a n cap) (l.map routeCells)) {B : Nat} (hb : Below B w w') (ha : ∀ x, a = some x → x.block < B) {i : Nat} {v : Nat × Nat × Nat} (hv : l[i]? = some v) :
    ∃ b off, a = some ⟨b, off, none⟩ ∧ b < B ∧ b < w'.heap.size ∧ w'.cell? ⟨b, off + i * 5, none⟩ = some (.bool false) ∧ w'.cell? ⟨b, off + i * 5 + 1, none⟩ = some (.int .u64 (hiOf false v.1)) ∧ w'.cell? ⟨b, off + i * 5 + 2, none⟩ = some (.int .u64 (loOf v.1)) ∧ w'.cell? ⟨b, off + i * 5 + 3, none⟩ = some (.int .i64 v.2.1) ∧ w'.cell? ⟨b, off + i * 5 + 4, none⟩ = some (.int .i64 v.2.2) := by
  obtain ⟨b, off, ha', hlt, hc⟩ := Sl.at hs (i := i) (c := routeCells v) (by rw [List.getElem?_map, hv]; rfl)
  have hB := ha _ ha'
  have g := fun j u (h : (routeCells v)[j]? = some u) => (hb.cell (p := ⟨b, off + i * 5 + j, none⟩) hB).trans (hc j u h)
  exact ⟨b, off, ha', hB, Nat.lt_of_lt_of_le hlt hb.size, g 0 _ rfl, g 1 _ rfl, g 2 _ rfl, g 3 _ rfl, g 4 _ rfl⟩

set_option maxRecDepth 100000 in
set_option maxHeartbeats 1000000 in
theorem valuesR_in (sb n₀ : Nat) (a : Option Addr) (len cap : Nat) (xs : List (Nat × Nat × Nat)) (w : World) (hs : Sl w 5 (.slice a len cap) (xs.map (routeCells))) (hlen : len = xs.length) (hl : len ≤ 1000) (hc : w.cell? ⟨sb, 0, none⟩ = some (.slice a len cap)) (hsb : sb < n₀) (hn0 : n₀ ≤ w.heap.size) (ha : ∀ x, a = some x → x.block < n₀) (n : Nat) :
    ListsC Fence.wide n Try.prog 117 #[] #[.pointer (some ⟨sb, 0, none⟩)] (encRV) n₀ xs w := by
  intro l J W hbW hY hJn h0
  have c0 := (hbW.cell (p := ⟨sb, 0, none⟩) hsb).trans hc
  have HS := Lib.hid hs
  have HA := Lib.hid ha
  have HN := Lib.hid hlen
  have HBW := Lib.hid hbW
  have HY := Lib.hid hY
  have HJ := Lib.hid hJn
  have hn1 : n₀ ≤ W.heap.size := Nat.le_trans hn0 hbW.size
  have hdd : ∀ k : Nat, (Fence.wide.depth.isSome = true → 1 ≤ k) := fun k h => by cases h
  clear hs ha hlen hbW hY hJn hc
  refine callsIn_of_wp Try.func117 rfl trivial ?_ rfl
  simp only [Try.ntmps117, List.size_toArray, List.length_cons, List.length_nil, Nat.reduceAdd, Nat.reduceSub, Array.replicate_succ, Array.replicate_zero, List.push_toArray, List.append_toArray, List.nil_append, List.cons_append]
  gi_wp2
  gi_loopw [7] (fun i wr => ∃ j : Nat, j ≤ len ∧ i = .int .i64 j ∧ Hid (J j wr) ∧ Hid (Below n₀ W wr)) (fun i _ => len - (intOf i).toNat)
  case atStart => exact ⟨0, Nat.zero_le _, rfl, h0, Below.refl _ _⟩
  case round =>
    obtain ⟨j, hj, rfl, HJj, HB⟩ := hrel
    by_cases hlt : j < len
    · obtain ⟨x, hx⟩ : ∃ x, xs[j]? = some x := ⟨_, List.getElem?_eq_getElem (by have := HN.out; omega)⟩
      obtain ⟨b, off, rfl, hb, hbw, d0, d1, d2, d3, d4⟩ := Sl.rv HS.out (HBW.out.trans HB.out) HA.out hx
      have hz := HB.out.size
      have hJ1 := HJ.out j wr (wr.alloc (.cells #[.bool false, .int .u64 (hiOf false x.1), .int .u64 (loOf x.1), .int .i64 x.2.1, .int .i64 x.2.2] 49)) HJj.out ((Below.refl _ _).alloc (Nat.le_refl _) _)
      obtain ⟨fn, tmps, assign, body, hy, hR⟩ := yield_anyC rfl (n - 1) (HY.out j x _ hx hJ1)
      have HB1 := Lib.hid (HB.out.alloc (Nat.le_trans hn1 hz) (.cells #[.bool false, .int .u64 (hiOf false x.1), .int .u64 (loOf x.1), .int .i64 x.2.1, .int .i64 x.2.2] 49))
      simp only [encRV] at hy
      clear hx hJ1
      gi_wp2_with ((first | refine ⟨trivial, hdd _, ?_⟩ | refine ⟨hdd _, ?_⟩ | skip); refine hR.mono ?_; rintro e W2 ⟨rfl, hJ2, hb2⟩)
      go_roundw
      case rel => exact ⟨j + 1, by omega, by go_num, hJ2, HB1.out.trans hb2⟩
      case measure => simp [intOf]; omega
    · obtain rfl : j = len := by omega
      have hJ2 := HJj.out
      rw [HN.out] at hJ2
      gi_wp2
      go_end0
      exact ⟨⟨_, rfl⟩, hJ2⟩


/-- The box of a prefix. -/
def RBV (W : World) (B : Nat) (x : Nat × Nat × Nat) : Prop := W.heap[B]? = some (.cells (routeCells x).toArray 49 (0, 0))
theorem RBV.cell {W : World} {B : Nat} {x : Nat × Nat × Nat} (h : RBV W B x) {j : Nat} {u : Value} (hu : (routeCells x)[j]? = some u) : W.cell? ⟨B, j, none⟩ = some u := by
  unfold RBV at h
  simp [World.cell?, h, hu]
theorem RBV.own (B : Nat) (x : Nat × Nat × Nat) : Go.Own (fun (_ : Unit) W => RBV W B x) := fun s W W' row hs hg hr => by
  have hs' : W.heap[B]? = some (.cells (routeCells x).toArray 49 (0, 0)) := hs
  exact (grownBy_keeps_cells hg hr hs' rfl).trans hs'
/-- What has been collected behind i rounds. -/
def CollV (n₀ B : Nat) (L : List (Nat × Nat × Nat)) (w1 : World) (i : Nat) (W : World) : Prop :=
  (∃ v, Boxed W B 43 v ∧ W.ownsRow n₀ 49 5 v i ((L.take i).map (routeCells)).flatten ∧ True) ∧ Below n₀ w1 W
theorem take_len_flatV (L : List (Nat × Nat × Nat)) (i : Nat) (x : Nat × Nat × Nat) (h : L[i]? = some x) : ((L.take (i + 1)).map (routeCells)).flatten = ((L.take i).map (routeCells)).flatten ++ routeCells x := by
  rw [List.take_add_one, h, List.map_append, List.flatten_append]; simp


set_option maxRecDepth 100000 in
set_option maxHeartbeats 1000000 in
theorem appendRV_any (sb : Nat) (a : Option Addr) (len cap : Nat) (xs : List (Nat × Nat × Nat)) (w : World) (hs : Sl w 5 (.slice a len cap) (xs.map (routeCells))) (hlen : len = xs.length) (h60 : xs.length ≤ 1000) (hc : w.cell? ⟨sb, 0, none⟩ = some (.slice a len cap)) (hsb : sb < w.heap.size) (ha : ∀ x, a = some x → x.block < w.heap.size) :
    Calls Try.prog 120 #[.slice none 0 0, .func (.func 117) #[] #[.pointer (some ⟨sb, 0, none⟩)]] w fun e w' => ∃ v, e = .returned v ∧ Wk.Own w' w.heap.size 49 5 v (xs.map (routeCells)) ∧ Below w.heap.size w w' := by
  have hdd : ∀ k : Nat, (Fence.wide.depth.isSome = true → 1 ≤ k) := fun k h => by cases h
  have H60 := Lib.hid h60
  refine (callsIn_wide (n := 3)).1 (callsIn_of_wp_marks Try.func120 rfl trivial ?_ rfl)
  simp only [Try.ntmps120, List.size_toArray, List.length_cons, List.length_nil, Nat.reduceAdd, Nat.reduceSub, Array.replicate_succ, Array.replicate_zero, List.push_toArray, List.append_toArray, List.nil_append, List.cons_append]
  gi_wp2
  have hb1 : Below w.heap.size w (w.alloc (.cells #[.slice none 0 0] 43)) := (Below.refl _ _).alloc (Nat.le_refl _) _
  have IT := valuesR_in sb w.heap.size a len cap xs _ (hs.below hb1) hlen (by omega) ((hb1.cell (p := ⟨sb, 0, none⟩) hsb).trans hc) hsb (by simp) ha (3 - 1)
  clear hs hlen h60 hc hsb ha
  refine range_held rfl (by decide) (gf := 117) (bs := #[]) (cs := #[.pointer (some ⟨sb, 0, none⟩)]) rfl trivial (enters_of Try.func117 (by kernel_rfl) rfl) (encs := encRV) (fun _ => rfl) (n₀ := w.heap.size) (by simp) IT
    (CollV w.heap.size w.heap.size xs w)
    (OwnFrom.and (Own.from (holdsRow_own w.heap.size w.heap.size 43 49 5 (fun i => i) (fun i => ((xs.take i).map (routeCells)).flatten) (fun _ _ => True)) _) (ownFrom_below (Nat.le_refl _) (by simp)))
    ⟨⟨_, Boxed.new w _ _, by simpa using World.ownsRow_nil _ _ _ _, trivial⟩, hb1⟩
    (fun x a' W => ∃ Bx, RBV W Bx x ∧ a' = { tmps := #[.slice none 0 0, .func (.func 117) #[] #[.pointer (some ⟨sb, 0, none⟩)], .pointer (some ⟨w.heap.size, 0, none⟩), undef, .slice none 0 0, .pointer (some ⟨Bx, 0, none⟩), .func (.func 117) #[] #[.pointer (some ⟨sb, 0, none⟩)], .agg (routeCells x).toArray, undef, undef, undef, undef, undef], defers := [] })
    ?hax ?assign ?body ?done
  case hax =>
    rintro x a' s W W' row ⟨Bx, hx, he⟩ hg hr
    exact ⟨Bx, RBV.own Bx x s W W' row hx hg (fun r e => (hr r e).2), he⟩
  case assign =>
    intro l i x W K hx hi hK
    obtain ⟨⟨v, hv, hr, _⟩, hb⟩ := hi
    simp only [encRV]
    gi_wp2
    exact hK _ _ ((KeepsOthers.alloc _ _).from _) ((Below.refl _ W).alloc hb.size _) ⟨⟨v, hv.alloc _, hr.alloc _, trivial⟩, hb.alloc hb.size _⟩ ⟨W.heap.size, World.alloc_heap_new W _, rfl⟩
  case body =>
    rintro l i x a' W hl hx ⟨⟨v, hv, hrow, _⟩, hB⟩ ⟨Bx, hrb, rfl⟩
    have hil : i < xs.length := (List.getElem?_eq_some_iff.1 hx).1
    have c0 := hrb.cell (j := 0) rfl
    have c1 := hrb.cell (j := 1) rfl
    have c2 := hrb.cell (j := 2) rfl
    have c3 := hrb.cell (j := 3) rfl
    have c4 := hrb.cell (j := 4) rfl
    have cv := hv.cell
    obtain ⟨ht0, hi0, hzs, hsz⟩ := eiRoute
    obtain ⟨ii, hii, hi1⟩ := Option.map_eq_some_iff.1 hi0
    simp only [Prod.mk.injEq] at hi1
    obtain ⟨hz, hsize, hby⟩ := hi1
    have hN : xs.length ≤ 1000 := H60.out
    gi_wp2_with (gi_at_builtin; refine wpListIn_append_own _ rfl _ _ 43 rfl w.heap.size 49 ii _ 5 40 ht0 hii hz hsize hby hzs hsz _ _ _ rfl (hrow.alloc _) ⟨W.heap.size, 0, none⟩ 1 1 (routeCells x) rfl rfl (by intro j u hu; rw [addr_add_none, Nat.zero_add, World.cell?_alloc_new]; simpa [routeCells] using hu) (routeCells_one x) (by unfold maxLen; omega) (by omega) (by have := hB.size; simp; omega) ?_; intro v' w2 hown' hgrow _; obtain ⟨g', cap', rfl⟩ := ownsRow_succ hown'; obtain ⟨hv1, hv2, hr2, hk2, hb2⟩ := hv.appended (by decide) hrow hB.size (Nat.le_refl _) hown' hgrow; have hc1 := hv1.cell; have hf1 := hv1.frozen)
    exact ⟨hk2.from _, hb2, ⟨_, hv2, by rw [take_len_flatV _ _ _ hx]; exact hr2, trivial⟩, hB.trans hb2⟩
  case done =>
    rintro D W hD ⟨⟨v, hv, hrow, _⟩, hB⟩ hK
    have cv := hv.cell
    have hfin : Wk.Own (W.putObj D (.deferred none)) w.heap.size 49 5 v (xs.map (routeCells)) := by
      rw [List.take_of_length_le (Nat.le_refl _)] at hrow
      refine ⟨fun c hc => ?_, ?_⟩
      · obtain ⟨r, _, rfl⟩ := List.mem_map.1 hc; rfl
      · rw [List.length_map]
        exact ownsRow_putObj hrow _ hK rfl
    gi_wp2
    refine ⟨by simp, .inl ⟨_, _, rfl, run_takeDeferred hK, ?_⟩⟩
    exact ⟨_, results_tmp rfl _ _ _, v, rfl, hfin, hB.trans (belowK_b (w := w) (Nat.le_refl _) W D _ _ (by simp at hD; omega) hK rfl rfl)⟩

theorem collectRV_any (sb : Nat) (a : Option Addr) (len cap : Nat) (xs : List (Nat × Nat × Nat)) (w : World) (hs : Sl w 5 (.slice a len cap) (xs.map (routeCells))) (hlen : len = xs.length) (h60 : xs.length ≤ 1000) (hc : w.cell? ⟨sb, 0, none⟩ = some (.slice a len cap)) (hsb : sb < w.heap.size) (ha : ∀ x, a = some x → x.block < w.heap.size) :
    Calls Try.prog 98 #[.func (.func 117) #[] #[.pointer (some ⟨sb, 0, none⟩)]] w fun e w' => ∃ v, e = .returned v ∧ Wk.Own w' w.heap.size 49 5 v (xs.map (routeCells)) ∧ Below w.heap.size w w' := by
  have AS := Lib.hid (appendRV_any sb a len cap xs w hs hlen h60 hc hsb ha)
  clear hs hlen h60 hc hsb ha
  go_enter Try.func98, Try.ntmps98
  go_wp2_with ((with_reducible refine AS.out.mono ?_); rintro e w5 ⟨v, rfl, ho, hb⟩)
  go_returns
  exact ⟨v, rfl, ho, hb⟩
end Go.Proofs.Ytoecmoicaklbaaa
