
/- slices.Values, slices.Collect of routes. -/
import Derived.Test.YtoecmoicaklbaaaRl
import Derived.Test.YtoecmoicaklbaaaRo
import Derived.RangeFuncBox
import Derived.Maps.AppendAt
import Derived.Test.YtoecmoicaklbaaaGw
import Derived.Test.YtoecmoicaklbaaaSrtK
import Derived.Test.YtoecmoicaklbaaaSrtL
import Derived.Shelf.SlSortCmp.WholeK
set_option linter.unusedVariables false
set_option linter.unusedSimpArgs false
namespace Go.Proofs.Ytoecmoicaklbaaa
open Go Go.RowKit Go.Sort Go.Shelf Wc Wk
attribute [local go_sem] Oper.semAt_some

/-- A prefix as what a round is handed. -/
def encRV (x : Nat × Nat × Nat) : Array Value := #[.agg #[.bool false, .int .u64 (hiOf false x.1), .int .u64 (loOf x.1), .int .i64 x.2.1, .int .i64 x.2.2]]
theorem Sl.rv {w w' : World} {a : Option Addr} {n cap : Nat} {l : List (Nat × Nat × Nat)} (hs : Sl w 5 (.slice a n cap) (l.map routeCells)) {B : Nat} (hb : Below B w w') (ha : ∀ x, a = some x → x.block < B) {i : Nat} {v : Nat × Nat × Nat} (hv : l[i]? = some v) :
    ∃ b off, a = some ⟨b, off, none⟩ ∧ b < B ∧ b < w'.heap.size ∧ w'.cell? ⟨b, off + i * 5, none⟩ = some (.bool false) ∧ w'.cell? ⟨b, off + i * 5 + 1, none⟩ = some (.int .u64 (hiOf false v.1)) ∧ w'.cell? ⟨b, off + i * 5 + 2, none⟩ = some (.int .u64 (loOf v.1)) ∧ w'.cell? ⟨b, off + i * 5 + 3, none⟩ = some (.int .i64 v.2.1) ∧ w'.cell? ⟨b, off + i * 5 + 4, none⟩ = some (.int .i64 v.2.2) := by
  obtain ⟨b, off, ha', hlt, hc⟩ := Sl.at hs (i := i) (c := routeCells v) (by rw [List.getElem?_map, hv]; rfl)
  have hB := ha _ ha'
  have g := fun j u (h : (routeCells v)[j]? = some u) => (hb.cell (p := ⟨b, off + i * 5 + j, none⟩) hB).trans (hc j u h)
  exact ⟨b, off, ha', hB, Nat.lt_of_lt_of_le hlt hb.size, g 0 _ rfl, g 1 _ rfl, g 2 _ rfl, g 3 _ rfl, g 4 _ rfl⟩

set_option maxRecDepth 100000 in
set_option maxHeartbeats 1000000 in
theorem valuesR_in (sb n₀ : Nat) (a : Option Addr) (len cap : Nat) (xs : List (Nat × Nat × Nat)) (w : World) (hs : Sl w 5 (.slice a len cap) (xs.map (routeCells))) (hlen : len = xs.length) (hl : len ≤ 1000) (hc : w.cell? ⟨sb, 0, none⟩ = some (.slice a len cap)) (hsb : sb < n₀) (hn0 : n₀ ≤ w.heap.size) (ha : ∀ x, a = some x → x.block < n₀) (n : Nat) :
    ListsC Fence.wide n Try.prog 117 #[] #[.pointer (some ⟨sb, 0, none⟩)] (encRV) n₀ xs w := by
  intro l J W hbW hY hJn h0
  have c0 := (hbW.cell (p := ⟨sb, 0, none⟩) hsb).trans hc
  have HS := Lib.hid hs
  have HA := Lib.hid ha
  have HN := Lib.hid hlen
  have HBW := Lib.hid hbW
  have HY := Lib.hid hY
  have HJ := Lib.hid hJn
  have hn1 : n₀ ≤ W.heap.size := Nat.le_trans hn0 hbW.size
  have hdd : ∀ k : Nat, (Fence.wide.depth.isSome = true → 1 ≤ k) := fun k h => by cases h
  clear hs ha hlen hbW hY hJn hc
  refine callsIn_of_wp Try.func117 rfl trivial ?_ rfl
  simp only [Try.ntmps117, List.size_toArray, List.length_cons, List.length_nil, Nat.reduceAdd, Nat.reduceSub, Array.replicate_succ, Array.replicate_zero, List.push_toArray, List.append_toArray, List.nil_append, List.cons_append]
  gi_wp2
  gi_loopw [7] (fun i wr => ∃ j : Nat, j ≤ len ∧ i = .int .i64 j ∧ Hid (J j wr) ∧ Hid (Below n₀ W wr)) (fun i _ => len - (intOf i).toNat)
  case atStart => exact ⟨0, Nat.zero_le _, rfl, h0, Below.refl _ _⟩
  case round =>
    obtain ⟨j, hj, rfl, HJj, HB⟩ := hrel
    by_cases hlt : j < len
    · obtain ⟨x, hx⟩ : ∃ x, xs[j]? = some x := ⟨_, List.getElem?_eq_getElem (by have := HN.out; omega)⟩
      obtain ⟨b, off, rfl, hb, hbw, d0, d1, d2, d3, d4⟩ := Sl.rv HS.out (HBW.out.trans HB.out) HA.out hx
      have hz := HB.out.size
      have hJ1 := HJ.out j wr (wr.alloc (.cells #[.bool false, .int .u64 (hiOf false x.1), .int .u64 (loOf x.1), .int .i64 x.2.1, .int .i64 x.2.2] 49)) HJj.out ((Below.refl _ _).alloc (Nat.le_refl _) _)
      obtain ⟨fn, tmps, assign, body, hy, hR⟩ := yield_anyC rfl (n - 1) (HY.out j x _ hx hJ1)
      have HB1 := Lib.hid (HB.out.alloc (Nat.le_trans hn1 hz) (.cells #[.bool false, .int .u64 (hiOf false x.1), .int .u64 (loOf x.1), .int .i64 x.2.1, .int .i64 x.2.2] 49))
      simp only [encRV] at hy
      clear hx hJ1
      gi_wp2_with ((first | refine ⟨trivial, hdd _, ?_⟩ | refine ⟨hdd _, ?_⟩ | skip); refine hR.mono ?_; rintro e W2 ⟨rfl, hJ2, hb2⟩)
      go_roundw
      case rel => exact ⟨j + 1, by omega, by go_num, hJ2, HB1.out.trans hb2⟩
      case measure => simp [intOf]; omega
    · obtain rfl : j = len := by omega
      have hJ2 := HJj.out
      rw [HN.out] at hJ2
      gi_wp2
      go_end0
      exact ⟨⟨_, rfl⟩, hJ2⟩


/-- The box of a prefix. -/
def RBV (W : World) (B : Nat) (x : Nat × Nat × Nat) : Prop := W.heap[B]? = some (.cells (routeCells x).toArray 49 (0, 0))
theorem RBV.cell {W : World} {B : Nat} {x : Nat × Nat × Nat} (h : RBV W B x) {j : Nat} {u : Value} (hu : (routeCells x)[j]? = some u) : W.cell? ⟨B, j, none⟩ = some u := by
  unfold RBV at h
  simp [World.cell?, h, hu]
theorem RBV.own (B : Nat) (x : Nat × Nat × Nat) : Go.Own (fun (_ : Unit) W => RBV W B x) := fun s W W' row hs hg hr => by
  have hs' : W.heap[B]? = some (.cells (routeCells x).toArray 49 (0, 0)) := hs
  exact (grownBy_keeps_cells hg hr hs' rfl).trans hs'
/-- What has been collected behind i rounds. -/
def CollV (n₀ B : Nat) (L : List (Nat × Nat × Nat)) (w1 : World) (i : Nat) (W : World) : Prop :=
  (∃ v, Boxed W B 43 v ∧ W.ownsRow n₀ 49 5 v i ((L.take i).map (routeCells)).flatten ∧ True) ∧ Below n₀ w1 W
theorem take_len_flatV (L : List (Nat × Nat × Nat)) (i : Nat) (x : Nat × Nat × Nat) (h : L[i]? = some x) : ((L.take (i + 1)).map (routeCells)).flatten = ((L.take i).map (routeCells)).flatten ++ routeCells x := by
  rw [List.take_add_one, h, List.map_append, List.flatten_append]; simp


set_option maxRecDepth 100000 in
set_option maxHeartbeats 1000000 in
theorem appendRV_any (sb : Nat) (a : Option Addr) (len cap : Nat) (xs : List (Nat × Nat × Nat)) (w : World) (hs : Sl w 5 (.slice a len cap) (xs.map (routeCells))) (hlen : len = xs.length) (h60 : xs.length ≤ 1000) (hc : w.cell? ⟨sb, 0, none⟩ = some (.slice a len cap)) (hsb : sb < w.heap.size) (ha : ∀ x, a = some x → x.block < w.heap.size) :
    Calls Try.prog 120 #[.slice none 0 0, .func (.func 117) #[] #[.pointer (some ⟨sb, 0, none⟩)]] w fun e w' => ∃ v, e = .returned v ∧ Wk.Own w' w.heap.size 49 5 v (xs.map (routeCells)) ∧ Below w.heap.size w w' := by
  have hdd : ∀ k : Nat, (Fence.wide.depth.isSome = true → 1 ≤ k) := fun k h => by cases h
  have H60 := Lib.hid h60
  refine (callsIn_wide (n := 3)).1 (callsIn_of_wp_marks Try.func120 rfl trivial ?_ rfl)
  simp only [Try.ntmps120, List.size_toArray, List.length_cons, List.length_nil, Nat.reduceAdd, Nat.reduceSub, Array.replicate_succ, Array.replicate_zero, List.push_toArray, List.append_toArray, List.nil_append, List.cons_append]
  gi_wp2
  have hb1 : Below w.heap.size w (w.alloc (.cells #[.slice none 0 0] 43)) := (Below.refl _ _).alloc (Nat.le_refl _) _
  have IT := valuesR_in sb w.heap.size a len cap xs _ (hs.below hb1) hlen (by omega) ((hb1.cell (p := ⟨sb, 0, none⟩) hsb).trans hc) hsb (by simp) ha (3 - 1)
  clear hs hlen h60 hc hsb ha
  refine range_held rfl (by decide) (gf := 117) (bs := #[]) (cs := #[.pointer (some ⟨sb, 0, none⟩)]) rfl trivial (enters_of Try.func117 (by kernel_rfl) rfl) (encs := encRV) (fun _ => rfl) (n₀ := w.heap.size) (by simp) IT
    (CollV w.heap.size w.heap.size xs w)
    (OwnFrom.and (Own.from (holdsRow_own w.heap.size w.heap.size 43 49 5 (fun i => i) (fun i => ((xs.take i).map (routeCells)).flatten) (fun _ _ => True)) _) (ownFrom_below (Nat.le_refl _) (by simp)))
    ⟨⟨_, Boxed.new w _ _, by simpa using World.ownsRow_nil _ _ _ _, trivial⟩, hb1⟩
    (fun x a' W => ∃ Bx, RBV W Bx x ∧ a' = { tmps := #[.slice none 0 0, .func (.func 117) #[] #[.pointer (some ⟨sb, 0, none⟩)], .pointer (some ⟨w.heap.size, 0, none⟩), undef, .slice none 0 0, .pointer (some ⟨Bx, 0, none⟩), .func (.func 117) #[] #[.pointer (some ⟨sb, 0, none⟩)], .agg (routeCells x).toArray, undef, undef, undef, undef, undef], defers := [] })
    ?hax ?assign ?body ?done
  case hax =>
    rintro x a' s W W' row ⟨Bx, hx, he⟩ hg hr
    exact ⟨Bx, RBV.own Bx x s W W' row hx hg (fun r e => (hr r e).2), he⟩
  case assign =>
    intro l i x W K hx hi hK
    obtain ⟨⟨v, hv, hr, _⟩, hb⟩ := hi
    simp only [encRV]
    gi_wp2
    exact hK _ _ ((KeepsOthers.alloc _ _).from _) ((Below.refl _ W).alloc hb.size _) ⟨⟨v, hv.alloc _, hr.alloc _, trivial⟩, hb.alloc hb.size _⟩ ⟨W.heap.size, World.alloc_heap_new W _, rfl⟩
  case body =>
    rintro l i x a' W hl hx ⟨⟨v, hv, hrow, _⟩, hB⟩ ⟨Bx, hrb, rfl⟩
    have hil : i < xs.length := (List.getElem?_eq_some_iff.1 hx).1
    have c0 := hrb.cell (j := 0) rfl
    have c1 := hrb.cell (j := 1) rfl
    have c2 := hrb.cell (j := 2) rfl
    have c3 := hrb.cell (j := 3) rfl
    have c4 := hrb.cell (j := 4) rfl
    have cv := hv.cell
    obtain ⟨ht0, hi0, hzs, hsz⟩ := eiRoute
    obtain ⟨ii, hii, hi1⟩ := Option.map_eq_some_iff.1 hi0
    simp only [Prod.mk.injEq] at hi1
    obtain ⟨hz, hsize, hby⟩ := hi1
    have hN : xs.length ≤ 1000 := H60.out
    gi_wp2_with (gi_at_builtin; refine wpListIn_append_own _ rfl _ _ 43 rfl w.heap.size 49 ii _ 5 40 ht0 hii hz hsize hby hzs hsz _ _ _ rfl (hrow.alloc _) ⟨W.heap.size, 0, none⟩ 1 1 (routeCells x) rfl rfl (by intro j u hu; rw [addr_add_none, Nat.zero_add, World.cell?_alloc_new]; simpa [routeCells] using hu) (routeCells_one x) (by unfold maxLen; omega) (by omega) (by have := hB.size; simp; omega) ?_; intro v' w2 hown' hgrow _; obtain ⟨g', cap', rfl⟩ := ownsRow_succ hown'; obtain ⟨hv1, hv2, hr2, hk2, hb2⟩ := hv.appended (by decide) hrow hB.size (Nat.le_refl _) hown' hgrow; have hc1 := hv1.cell; have hf1 := hv1.frozen)
    exact ⟨hk2.from _, hb2, ⟨_, hv2, by rw [take_len_flatV _ _ _ hx]; exact hr2, trivial⟩, hB.trans hb2⟩
  case done =>
    rintro D W hD ⟨⟨v, hv, hrow, _⟩, hB⟩ hK
    have cv := hv.cell
    have hfin : Wk.Own (W.putObj D (.deferred none)) w.heap.size 49 5 v (xs.map (routeCells)) := by
      rw [List.take_of_length_le (Nat.le_refl _)] at hrow
      refine ⟨fun c hc => ?_, ?_⟩
      · obtain ⟨r, _, rfl⟩ := List.mem_map.1 hc; rfl
      · rw [List.length_map]
        exact ownsRow_putObj hrow _ hK rfl
    gi_wp2
    refine ⟨by simp, .inl ⟨_, _, rfl, run_takeDeferred hK, ?_⟩⟩
    exact ⟨_, results_tmp rfl _ _ _, v, rfl, hfin, hB.trans (belowK_b (w := w) (Nat.le_refl _) W D _ _ (by simp at hD; omega) hK rfl rfl)⟩

theorem collectRV_any (sb : Nat) (a : Option Addr) (len cap : Nat) (xs : List (Nat × Nat × Nat)) (w : World) (hs : Sl w 5 (.slice a len cap) (xs.map (routeCells))) (hlen : len = xs.length) (h60 : xs.length ≤ 1000) (hc : w.cell? ⟨sb, 0, none⟩ = some (.slice a len cap)) (hsb : sb < w.heap.size) (ha : ∀ x, a = some x → x.block < w.heap.size) :
    Calls Try.prog 98 #[.func (.func 117) #[] #[.pointer (some ⟨sb, 0, none⟩)]] w fun e w' => ∃ v, e = .returned v ∧ Wk.Own w' w.heap.size 49 5 v (xs.map (routeCells)) ∧ Below w.heap.size w w' := by
  have AS := Lib.hid (appendRV_any sb a len cap xs w hs hlen h60 hc hsb ha)
  clear hs hlen h60 hc hsb ha
  go_enter Try.func98, Try.ntmps98
  go_wp2_with ((with_reducible refine AS.out.mono ?_); rintro e w5 ⟨v, rfl, ho, hb⟩)
  go_returns
  exact ⟨v, rfl, ho, hb⟩
end Go.Proofs.Ytoecmoicaklbaaa

/- slices.SortFunc, slices.SortedFunc of routes by their lengths. -/
set_option linter.unusedVariables false
set_option linter.unusedSimpArgs false
namespace Go.Proofs.Ytoecmoicaklbaaa
open Go.RowKit Go.Sort Wc Wk

theorem grow1G (x y : Nat × Nat × Nat) (w : World) (hx : x.2.1 ≤ 32) (hy : y.2.1 ≤ 32) :
    Calls Try.prog 92 #[.agg #[.bool false, .int .u64 (hiOf false x.1), .int .u64 (loOf x.1), .int .i64 x.2.1, .int .i64 x.2.2], .agg #[.bool false, .int .u64 (hiOf false y.1), .int .u64 (loOf y.1), .int .i64 y.2.1, .int .i64 y.2.2]] w fun e w' => e = .returned (.int .i64 ((x.2.1 : Int) - y.2.1)) ∧ Grw w w' := by
  have ew : IntKind.i64.wrap ((x.2.1 : Int) - y.2.1) = (x.2.1 : Int) - y.2.1 := by rw [IntKind.wrap_i64]; omega
  go_enter Try.func92, Try.ntmps92
  go_wp2_with fail
  go_returns
  exact ⟨by first | rfl | rw [ew], ((Grw.refl w).alloc _).alloc _⟩
/-- A route whose length is in its bounds. -/
abbrev OkRt := { x : Nat × Nat × Nat // x.2.1 ≤ 32 }
instance : Inhabited OkRt := ⟨⟨(0, 0, 0), Nat.zero_le _⟩⟩
def encRt (x : OkRt) : List Value := routeCells x.1
def cmpR (x y : OkRt) : Int := (x.1.2.1 : Int) - y.1.2.1
theorem ltR (x y : OkRt) : ltOf cmpR x y = decide (x.1.2.1 < y.1.2.1) := by
  unfold ltOf cmpR
  by_cases h : x.1.2.1 < y.1.2.1 <;> simp [h] <;> omega
theorem swoR : SWO (ltOf cmpR) where
  irrefl x := by rw [ltR]; simp
  trans x y z h1 h2 := by rw [ltR] at *; simp at *; omega
  ntrans x y z h1 h2 := by rw [ltR] at *; simp at *; omega
theorem lift_rt : ∀ xs : List (Nat × Nat × Nat), (∀ x ∈ xs, x.2.1 ≤ 32) → ∃ zs : List OkRt, zs.map (·.1) = xs
  | [], _ => ⟨[], rfl⟩
  | x :: xs, h => by
    obtain ⟨zs, hz⟩ := lift_rt xs (fun y hy => h y (List.mem_cons_of_mem _ hy))
    exact ⟨⟨x, h x (by simp)⟩ :: zs, by rw [List.map_cons, hz]⟩
theorem permR {d d' : Array OkRt} (h : PermIn 0 d.size d d') : d'.toList.Perm d.toList := by
  obtain ⟨h1, _, h3⟩ := h
  have e1 : d'.extract 0 d.size = d' := by rw [← h1]; simp
  have e2 : d.extract 0 d.size = d := by simp
  rwa [e1, e2] at h3
theorem sortedR {d' : Array OkRt} {n : Nat} (hn : d'.size = n) (h : SortedIn (ltOf cmpR) 0 n d') : d'.toList.Pairwise (fun a b => ¬ (b.1.2.1 < a.1.2.1)) := by
  rw [List.pairwise_iff_getElem]
  intro i j hi hj hij
  have hi' : i < d'.size := by simpa using hi
  have hj' : j < d'.size := by simpa using hj
  have := h i j (Nat.zero_le _) hij (by omega)
  rw [ltR, getElem!_pos d' i hi', getElem!_pos d' j hj', decide_eq_false_iff_not] at this
  simpa using this
theorem enterR : ∀ args w, (callFunc 92 args).run Try.prog w = .ok (.enter 92 args) w := enters_of Try.func92 (by kernel_rfl) rfl
theorem laysR (blk off size : Nat) (w : World) : CmpLays Try.prog 92 #[] encRt 5 cmpR blk off size w := fun _ _ _ _ x y => grow1G x.1 y.1 _ x.2 y.2
set_option maxHeartbeats 1000000 in
theorem insR_none (fv : Value) (w : World) : Calls Try.prog 141 #[.slice none 0 0, .int .i64 0, .int .i64 0, fv] w fun e w' => e = .returned (.tuple #[]) ∧ w = w' := by
  go_enter Try.func141, Try.ntmps141
  go_wp2
  refine wp_loop_rounds 1 ?_
  rw [rounds_succ]
  go_wp2
  go_end0
  exact ⟨rfl, rfl⟩
set_option maxHeartbeats 1000000 in
theorem pdqR_none (fv : Value) (lim : Int) (w : World) : Calls Try.prog 130 #[.slice none 0 0, .int .i64 0, .int .i64 0, .int .i64 lim, fv] w fun e w' => e = .returned (.tuple #[]) ∧ w = w' := by
  have I := Lib.hid (fun w => insR_none fv w)
  go_enter Try.func130, Try.ntmps130
  go_wp2
  refine wp_loop_rounds 1 ?_
  rw [rounds_succ]
  go_wp2_with ((with_reducible refine (I.out _).mono ?_); rintro e w' ⟨rfl, rfl⟩)
  (try simp only [Exit.inBlock, Exit.then]); refine bodyPost_ret (results_none rfl _ _ _) rfl ?_
  exact ⟨rfl, rfl⟩
set_option maxHeartbeats 1000000 in
theorem sortR_none (fv : Value) (w : World) : Calls Try.prog 116 #[.slice none 0 0, fv] w fun e w' => e = .returned (.tuple #[]) ∧ w = w' := by
  have I := Lib.hid (fun lim w => pdqR_none fv lim w)
  have L := Lib.hid (fun w => Try.bits_Len 0 w (by decide) (by decide))
  go_enter Try.func116, Try.ntmps116
  go_wp2_with (first | ((with_reducible refine (L.out _).mono ?_); rintro e w' ⟨rfl, rfl⟩) | ((with_reducible refine (I.out _ _).mono ?_); rintro e w' ⟨rfl, rfl⟩))
  go_end0
  exact ⟨rfl, rfl⟩


theorem sort_rt (B : Nat) (v : Value) (xs : List (Nat × Nat × Nat)) (w : World) (hl : xs.length ≤ 1000) (hok : ∀ x ∈ xs, x.2.1 ≤ 32) (ho : Wk.Own w B 49 5 v (xs.map routeCells)) :
    Calls Try.prog 116 #[v, .func (.func 92) #[] #[]] w fun e w' => e = .returned (.tuple #[]) ∧ ∃ ys : List (Nat × Nat × Nat), ys.Perm xs ∧ ys.Pairwise (fun a b => ¬ (b.2.1 < a.2.1)) ∧ Wk.Own w' B 49 5 v (ys.map routeCells) ∧ w.grownBy w' v.ownBlock := by
  obtain ⟨zs, rfl⟩ := lift_rt xs hok
  rw [List.map_map] at ho
  rw [List.length_map] at hl
  replace ho : Wk.Own w B 49 5 v (zs.map encRt) := ho
  rcases ho.2.2 with ⟨rfl, h0⟩ | ⟨g, cap, cur, rfl, hB, hg, hn, hm, hs, ht⟩
  · have hx : zs = [] := by simpa using h0
    subst hx
    exact (sortR_none _ w).mono fun e w' ⟨he, hw⟩ => ⟨he, [], List.Perm.nil, .nil, by rw [← hw]; exact ho, by rw [← hw]; exact ⟨rfl, rfl, rfl, Nat.le_refl _, fun _ _ _ => rfl⟩⟩
  · rw [List.length_map] at ho ⊢
    obtain ⟨hH, hlt, _⟩ := holds_own (enc := encRt) (k := 5) (fun _ => rfl) (d := zs.toArray) ho
    have e1 : zs.toArray.size = zs.length := by simp
    have hcon := AnyQ.slices_SortFunc Try.sortRoute 5 Try.isAgg49 Try.sizeOf49 encRt (fun _ => rfl) (fun x => routeCells_one x.1) cmpR swoR 92 #[] g 0 cap zs.toArray w enterR (laysR g 0 _ w) hH hlt (by rw [e1]; omega)
    change Calls Try.prog 116 _ _ _ at hcon
    rw [e1] at hcon
    refine Calls.mono hcon ?_
    rintro e w' ⟨rfl, d', n, os, hp, hs2, rfl⟩
    have hp2 : PermIn 0 zs.toArray.size zs.toArray d' := by rw [e1]; exact hp
    refine ⟨rfl, d'.toList.map (·.1), (permR hp2).map _, ?_, ?_, grown_sortK⟩
    · exact List.pairwise_map.2 (sortedR (by rw [hp2.1, e1]) hs2)
    · rw [List.map_map]
      exact own_sortK (enc := encRt) (k := 5) (fun _ => rfl) (d := zs.toArray) ho hp2.1 n os

/-- Routes, shorter prefixes first. -/
def SortL (xs ys : List (Nat × Nat × Nat)) : Prop := ys.Perm xs ∧ ys.Pairwise (fun a b => ¬ (b.2.1 < a.2.1))

set_option maxHeartbeats 1000000 in
theorem sortedRt_any (sb : Nat) (a : Option Addr) (len cap : Nat) (xs : List (Nat × Nat × Nat)) (w : World) (hs : Sl w 5 (.slice a len cap) (xs.map routeCells)) (hlen : len = xs.length) (h60 : xs.length ≤ 1000) (hok : ∀ x ∈ xs, x.2.1 ≤ 32) (hc : w.cell? ⟨sb, 0, none⟩ = some (.slice a len cap)) (hsb : sb < w.heap.size) (ha : ∀ x, a = some x → x.block < w.heap.size) :
    Calls Try.prog 90 #[.func (.func 117) #[] #[.pointer (some ⟨sb, 0, none⟩)], .func (.func 92) #[] #[]] w fun e w' => ∃ v ys, e = .returned v ∧ Wk.Own w' w.heap.size 49 5 v (ys.map routeCells) ∧ SortL xs ys ∧ Below w.heap.size w w' := by
  have C := Lib.hid (collectRV_any sb a len cap xs w hs hlen h60 hc hsb ha)
  have HOK := Lib.hid hok
  clear hs hc ha hok hlen
  go_enter Try.func90, Try.ntmps90
  go_wp2_with fail
  refine C.out.mono ?_
  rintro e w1 ⟨v, rfl, ho, hb1⟩; (repeat (with_reducible (replace hb1 := Below.undrew hb1))); obtain ⟨hc1, hf1⟩ := bcell hb1; have hz1 := hb1.size; (repeat (first | rw [World.size_alloc] at hz1 | rw [World.size_drew] at hz1 | rw [World.size_setCell] at hz1)); (try have : w.heap.size < w1.heap.size := by omega); (try have : w.heap.size < w1.heap.size + 1 := by omega); (try have : w.heap.size < w1.heap.size + 1 + 1 := by omega); (try have : w.heap.size < w1.heap.size + 1 + 1 + 1 := by omega)
  have SF := Lib.hid (sort_rt w.heap.size v xs w1 h60 HOK.out ho)
  have HO := Lib.hid ho
  clear ho
  go_wp2_with fail
  refine SF.out.mono ?_
  rintro e w2 ⟨rfl, ys, hp, hsr, ho2, hg2⟩
  have HR : Hid (SortL xs ys) := ⟨hp, hsr⟩
  have hB2 : Below w.heap.size w1 w2 := (Below.refl w.heap.size w1).grown hg2 hz1 (fun k hk => (HO.out.lt k hk).1)
  clear hp hsr hg2 SF
  go_wp2
  go_returns
  exact ⟨v, ys, rfl, ho2, HR.out, hb1.trans hB2⟩
theorem valuesRt_any (a : Option Addr) (n cap : Nat) (w : World) : Calls Try.prog 91 #[.slice a n cap] w fun e w' => e = .returned (.func (.func 117) #[] #[.pointer (some ⟨w.heap.size, 0, none⟩)]) ∧ w' = w.alloc (.cells #[.slice a n cap] 43) := by
  go_enter Try.func91, Try.ntmps91
  go_wp2
  go_returns
  exact ⟨rfl, rfl⟩
end Go.Proofs.Ytoecmoicaklbaaa
