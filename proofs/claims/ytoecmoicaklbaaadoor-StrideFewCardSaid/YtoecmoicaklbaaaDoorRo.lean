
/- Contracts of package table: Routes. -/
import Derived.Test.YtoecmoicaklbaaaDoorEach2
import Derived.RangeFuncBox
import Derived.Maps.AppendAt
import Derived.Test.YtoecmoicaklbaaaDoorMkA
import Derived.Test.YtoecmoicaklbaaaDoorQx
set_option linter.unusedVariables false
set_option linter.unusedSimpArgs false
namespace Go.Proofs.YtoecmoicaklbaaaDoor
open Go Go.RowKit Go.Sort Go.Shelf Wc Wk
attribute [local go_sem] Oper.semAt_some

def routeCells (x : Nat × Nat × Nat) : List Value := [.bool false, .int .u64 (hiOf false x.1), .int .u64 (loOf x.1), .int .i64 x.2.1, .int .i64 x.2.2]
theorem routeCells_one (x : Nat × Nat × Nat) : ∀ u ∈ routeCells x, u.oneCell' = true := by
  intro u hu
  simp [routeCells] at hu
  rcases hu with rfl | rfl | rfl | rfl | rfl <;> rfl
theorem eiRoute : EI Tryd.prog 23 41 5 40 (.agg #[.bool false, .int .u64 0, .int .u64 0, .int .i64 0, .int .i64 0]) := ⟨by kernel_rfl, by kernel_rfl, rfl, by decide⟩
/-- The box of a route. -/
def RB (W : World) (B : Nat) (x : Nat × Nat × Nat) : Prop := W.heap[B]? = some (.cells (routeCells x).toArray 41 (0, 0))
theorem RB.cell {W : World} {B : Nat} {x : Nat × Nat × Nat} (h : RB W B x) {j : Nat} {u : Value} (hu : (routeCells x)[j]? = some u) : W.cell? ⟨B, j, none⟩ = some u := by
  unfold RB at h
  simp [World.cell?, h, hu]
theorem RB.own (B : Nat) (x : Nat × Nat × Nat) : Go.Own (fun (_ : Unit) W => RB W B x) := fun s W W' row hs hg hr => by
  have hs' : W.heap[B]? = some (.cells (routeCells x).toArray 41 (0, 0)) := hs
  exact (grownBy_keeps_cells hg hr hs' rfl).trans hs'
/-- What has been collected behind i rounds. -/
def Coll (n₀ B : Nat) (L : List (Nat × Nat × Nat)) (w1 : World) (i : Nat) (W : World) : Prop :=
  (∃ v, Boxed W B 23 v ∧ W.ownsRow n₀ 41 5 v i ((L.take i).map routeCells).flatten ∧ True) ∧ Below n₀ w1 W
theorem take_len_flat (L : List (Nat × Nat × Nat)) (i : Nat) (x : Nat × Nat × Nat) (h : L[i]? = some x) : ((L.take (i + 1)).map routeCells).flatten = ((L.take i).map routeCells).flatten ++ routeCells x := by
  rw [List.take_add_one, h, List.map_append, List.flatten_append]; simp


set_option maxRecDepth 100000 in
set_option maxHeartbeats 1000000 in
theorem routes_any (a : Option Addr) (cap : Nat) (al : List ActD) (w : World) (hs : Sl w 9 (.slice a al.length cap) (al.map actCells)) (hl : al.length ≤ 100) (hok : ∀ x ∈ al, ActD.fit x) :
    Calls Tryd.prog 18 #[.slice a al.length cap] w fun e w' => ∃ v, e = .returned (.tuple #[v, .int .i64 0]) ∧ Wk.Own w' w.heap.size 41 5 v ((tend [] al).map routeCells) ∧ Below w.heap.size w w' := by
  have PL := Lib.hid (play_any a cap al w hs hl hok)
  have hdd : ∀ k : Nat, (Fence.wide.depth.isSome = true → 1 ≤ k) := fun k h => by cases h
  have HOK := Lib.hid (tend_ok TabOk.nil hok)
  have hlw1 := hs.lens.2.1
  have hlw2 := hs.lens.2.2
  clear hs hok
  refine (callsIn_wide (n := 3)).1 (callsIn_of_wp_marks Tryd.func18 rfl trivial ?_ rfl)
  simp only [Tryd.ntmps18, List.size_toArray, List.length_cons, List.length_nil, Nat.reduceAdd, Nat.reduceSub, Array.replicate_succ, Array.replicate_zero, List.push_toArray, List.append_toArray, List.nil_append, List.cons_append]
  gi_wp2_with (first | ((first | refine ⟨trivial, hdd _, ?_⟩ | refine ⟨trivial, ?_⟩ | skip); refine (callsIn_wide.2 PL.out).mono ?_; rintro e w1 ⟨tb, v, rfl, hp⟩; obtain ⟨va, vc, rfl⟩ := hp.own.shape; have HP := Lib.hid hp; clear hp))
  obtain ⟨F, ht, hF, hown, hnF, hbw⟩ := HP.out
  obtain ⟨T, tr, htw, htl, hTF⟩ := ht
  have HBW := Lib.hid hbw
  have HTL := Lib.hid htl
  have hlow : ∀ b ∈ tb :: T.blocks, b < w1.heap.size := fun b hb => (hF b (hTF b hb)).2
  have hb1 : Below w1.heap.size w1 (w1.alloc (.cells #[.slice none 0 0] 23)) := (Below.refl _ _).alloc (Nat.le_refl _) _
  have IT := Each_in tb _ w1.heap.size T _ (tr.below hb1) hlow (3 - 1)
  clear hF hown hnF hTF htl hbw HP PL
  refine range_list rfl (by decide) (gf := 30) (bs := #[.pointer (some ⟨tb, 0, none⟩)]) rfl trivial (enters_of Tryd.func30 (by kernel_rfl) rfl) (encs := encR) (fun _ => rfl) (n₀ := w1.heap.size) (by simp) IT
    (Coll w1.heap.size w1.heap.size T.list w1)
    (OwnFrom.and (Own.from (holdsRow_own w1.heap.size w1.heap.size 23 41 5 (fun i => i) (fun i => ((T.list.take i).map routeCells).flatten) (fun _ _ => True)) _) (ownFrom_below (Nat.le_refl _) (by simp)))
    ⟨⟨_, Boxed.new w1 _ _, by simpa using World.ownsRow_nil _ _ _ _, trivial⟩, hb1⟩
    (fun x a' W => ∃ Bx, RB W Bx x ∧ a' = { tmps := #[.slice a al.length cap, undef, .slice none 0 0, .int .i64 0, .pointer (some ⟨tb, 0, none⟩), .slice va (trun [] al).length vc, .int .i64 0, .pointer (some ⟨w1.heap.size, 0, none⟩), .pointer (some ⟨Bx, 0, none⟩), .tuple #[.pointer (some ⟨tb, 0, none⟩), .slice va (trun [] al).length vc, .int .i64 0], .slice a al.length cap, .tuple #[.pointer (some ⟨tb, 0, none⟩), .slice va (trun [] al).length vc, .int .i64 0], .pointer (some ⟨tb, 0, none⟩), .slice va (trun [] al).length vc, .int .i64 0, .int .i64 0, .bool false, undef, .pointer (some ⟨tb, 0, none⟩), .func (.func 30) #[.pointer (some ⟨tb, 0, none⟩)] #[], .agg (routeCells x).toArray, undef, undef, undef, undef, undef], defers := [] })
    ?hax ?assign ?body ?done
  case hax =>
    rintro x a' s W W' row ⟨Bx, hx, he⟩ hg hr
    exact ⟨Bx, RB.own Bx x s W W' row hx hg (fun r e => (hr r e).2), he⟩
  case assign =>
    intro l i x W K hx hi hK
    obtain ⟨⟨v, hv, hr, _⟩, hb⟩ := hi
    simp only [encR]
    gi_wp2
    exact hK _ _ ((KeepsOthers.alloc _ _).from _) ((Below.refl _ W).alloc hb.size _) ⟨⟨v, hv.alloc _, hr.alloc _, trivial⟩, hb.alloc hb.size _⟩ ⟨W.heap.size, World.alloc_heap_new W _, rfl⟩
  case body =>
    rintro l i x a' W hl hx ⟨⟨v, hv, hrow, _⟩, hB⟩ ⟨Bx, hrb, rfl⟩
    have hil : i < T.list.length := (List.getElem?_eq_some_iff.1 hx).1
    have h60 : T.list.length ≤ 60 := by have := HOK.out.len; rw [← HTL.out] at this; exact this
    have c0 := hrb.cell (j := 0) rfl
    have c1 := hrb.cell (j := 1) rfl
    have c2 := hrb.cell (j := 2) rfl
    have c3 := hrb.cell (j := 3) rfl
    have c4 := hrb.cell (j := 4) rfl
    have cv := hv.cell
    obtain ⟨ht0, hi0, hzs, hsz⟩ := eiRoute
    obtain ⟨ii, hii, hi1⟩ := Option.map_eq_some_iff.1 hi0
    simp only [Prod.mk.injEq] at hi1
    obtain ⟨hz, hsize, hby⟩ := hi1
    have hN : T.list.length ≤ 60 := h60
    gi_wp2_with (gi_at_builtin; refine wpListIn_append_own _ rfl _ _ 23 rfl w1.heap.size 41 ii _ 5 40 ht0 hii hz hsize hby hzs hsz _ _ _ rfl (hrow.alloc _) ⟨W.heap.size, 0, none⟩ 1 1 (routeCells x) rfl rfl (by intro j u hu; rw [addr_add_none, Nat.zero_add, World.cell?_alloc_new]; simpa [routeCells] using hu) (routeCells_one x) (by unfold maxLen; omega) (by omega) (by have := hB.size; simp; omega) ?_; intro v' w2 hown' hgrow _; obtain ⟨g', cap', rfl⟩ := ownsRow_succ hown'; obtain ⟨hv1, hv2, hr2, hk2, hb2⟩ := hv.appended (by decide) hrow hB.size (Nat.le_refl _) hown' hgrow; have hc1 := hv1.cell; have hf1 := hv1.frozen)
    exact ⟨hk2.from _, hb2, ⟨_, hv2, by rw [take_len_flat _ _ _ hx]; exact hr2, trivial⟩, hB.trans hb2⟩
  case done =>
    rintro D W hD ⟨⟨v, hv, hrow, _⟩, hB⟩ hK
    have cv := hv.cell
    have hfin : Wk.Own (W.putObj D (.deferred none)) w1.heap.size 41 5 v ((tend [] al).map routeCells) := by
      rw [List.take_of_length_le (Nat.le_refl _)] at hrow
      refine ⟨fun c hc => ?_, ?_⟩
      · obtain ⟨r, _, rfl⟩ := List.mem_map.1 hc; rfl
      · rw [← HTL.out, List.length_map]
        exact ownsRow_putObj hrow _ hK rfl
    have hz := HBW.out.size
    gi_wp2
    refine ⟨by simp, .inl ⟨_, _, rfl, run_takeDeferred hK, ?_⟩⟩
    exact ⟨_, results_tmp2 rfl _ _ _, v, rfl, hfin.base hz, (HBW.out.trans (hB.mono hz)).trans (belowK_b (w := w) (Nat.le_refl _) W D _ _ (by simp at hD; omega) hK rfl rfl)⟩
end Go.Proofs.YtoecmoicaklbaaaDoor

/- The laws' routesOf. -/
set_option linter.unusedVariables false
set_option linter.unusedSimpArgs false
namespace Go.Proofs.YtoecmoicaklbaaaDoor
open Go Go.RowKit Go.Sort Wc Wk

theorem Routes_n (a : Option Addr) (cap n : Nat) (al : List ActD) (w : World) (hn : n = al.length) (hs : Sl w 9 (.slice a n cap) (al.map actCells)) (hl : al.length ≤ 100) (hok : ∀ x ∈ al, ActD.fit x) :
    Calls Tryd.prog 18 #[.slice a n cap] w fun e w' => ∃ v, e = .returned (.tuple #[v, .int .i64 0]) ∧ Wk.Own w' w.heap.size 41 5 v ((tend [] al).map routeCells) ∧ Below w.heap.size w w' := by
  subst hn; exact routes_any a cap al w hs hl hok
def oneA : List ActD := [⟨1, 0, 0, 7, 0⟩]
theorem oneA_fit : ∀ x ∈ oneA, ActD.fit x := by
  intro x hx
  simp [oneA] at hx
  subst hx
  exact ⟨vp00, fits0, (by decide : 1 ≤ 1 ∧ 1 ≤ 4), fun _ => (by decide : 1 ≤ 7), (by decide : 7 ≤ 999)⟩
theorem oneA_end : tend [] oneA = [(0, 0, 7)] := by rfl
/-- What it hands back: the routes, and that all is told. -/
def RetRts (w : World) (L : List (Nat × Nat × Nat)) (e : Ending) (w' : World) : Prop :=
  ∃ v, e = .returned (.tuple #[v, .bool true]) ∧ Wk.Own w' w.heap.size 41 5 v (L.map routeCells) ∧ Below w.heap.size w w'


set_option maxRecDepth 100000 in
set_option maxHeartbeats 1000000 in
theorem routesOf_any (a : Option Addr) (cap n : Nat) (al : List ActD) (w : World) (hn : n = al.length) (hs : Sl w 9 (.slice a n cap) (al.map actCells)) (hl : al.length ≤ 100) (hok : ∀ x ∈ al, ActD.fit x) :
    Calls Tryd.prog 7 #[.slice a n cap] w (RetRts w (tend [] al)) := by
  subst hn
  have HS := Lib.hid hs
  have HOK := Lib.hid hok
  clear hs hok
  go_enter Tryd.func7, Tryd.ntmps7
  go_wp2_with (at_builtin; refine stop_at ?_; intro G hG)
  rw [← hG.out]; clear hG G
  refine wpList_append_any rfl _ _ 26 59 9 72 _ rfl eiAct (w.heap.size) _ ((([] : List ActD)).map actCells) rfl (Wk.Own.nil _ _ _ _) _ ((al).map actCells) rfl (HS.out) (by intro c hc; obtain ⟨r, _, rfl⟩ := List.mem_map.1 hc; exact actCells_one r) (by skip; first | omega | (simp; omega)) (by decide) (by first | omega | (simp; done) | (simp; omega)) ?_
  intro v1 w1 hown1 hb1
  rw [← List.map_append] at hown1
  obtain ⟨xs1, hxs1⟩ : ∃ x : List ActD, x = (([] : List ActD)) ++ (al) := ⟨_, rfl⟩
  rw [← hxs1] at hown1
  have hl1 : xs1.length = (([] : List ActD)).length + (al).length := by rw [hxs1, List.length_append]
  have HX1 := Lib.hid hxs1
  clear hxs1
  have HL1 := Lib.hid hl1
  clear hl1
  obtain ⟨a1, cap1, rfl⟩ := hown1.shape
  rw [List.length_map] at hown1 ⊢
  have HO1 := Lib.hid hown1
  clear hown1
  obtain ⟨hc1, hf1⟩ := bcellB hb1; have hz1 := hb1.size; (repeat (first | rw [World.size_alloc] at hz1 | rw [World.size_drew] at hz1 | rw [World.size_setCell] at hz1)); (try have : w.heap.size < w1.heap.size := by omega); (try have : w.heap.size < w1.heap.size + 1 := by omega); (try have : w.heap.size < w1.heap.size + 1 + 1 := by omega); (try have : w.heap.size < w1.heap.size + 1 + 1 + 1 := by omega)
  have hx := HX1.out
  rw [List.nil_append] at hx
  replace hx := hx.symm
  subst hx
  go_wp2_with fail
  refine (routes_any _ _ al _ HO1.out.sl hl HOK.out).mono ?_
  rintro e w2 ⟨v, rfl, HD, hb2⟩
  (repeat (with_reducible (replace hb2 := Below.undrew hb2))); obtain ⟨hc2, hf2⟩ := bcell hb2; have hz2 := hb2.size; (repeat (first | rw [World.size_alloc] at hz2 | rw [World.size_drew] at hz2 | rw [World.size_setCell] at hz2)); (try have : w.heap.size < w2.heap.size := by omega); (try have : w.heap.size < w2.heap.size + 1 := by omega); (try have : w.heap.size < w2.heap.size + 1 + 1 := by omega); (try have : w.heap.size < w2.heap.size + 1 + 1 + 1 := by omega); (try have : w1.heap.size < w2.heap.size := by omega); (try have : w1.heap.size < w2.heap.size + 1 := by omega); (try have : w1.heap.size < w2.heap.size + 1 + 1 := by omega); (try have : w1.heap.size < w2.heap.size + 1 + 1 + 1 := by omega)
  obtain ⟨va, vc, rfl⟩ := HD.shape
  have HD1 := Lib.hid HD
  have HW2 := Lib.hid (show Below w.heap.size w w2 by (repeat' (first | (with_reducible exact Below.refl _ _) | (with_reducible assumption) | (with_reducible refine Below.al ?_ _) | (with_reducible refine Below.dr ?_) | (with_reducible refine Below.step ?_ (by assumption)) | (with_reducible refine Below.set ?_ ?_ _) | omega | (dsimp only; omega) | (simp; done) | (simp; omega))))
  clear HD
  rw [List.length_map] at HD1 ⊢
  go_wp2_with fail
  have HJ := Lib.hid (sl_many (W := w2) (sz := 9) (n := 1) (xs := oneA.map actCells) (cs := #[.int .i64 1, .bool false, .int .u64 0, .int .u64 0, .int .i64 0, .int .i64 7, .bool false, .int .u64 0, .int .u64 0]) (E := 59) rfl (by intro c hc; obtain ⟨j, _, rfl⟩ := List.mem_map.1 hc; rfl) rfl rfl (by decide))
  refine (Routes_n _ _ _ oneA _ rfl HJ.out (by decide) oneA_fit).mono ?_
  rintro e w3 ⟨v2, rfl, HD2, hb3⟩
  clear HJ
  rw [oneA_end] at HD2
  obtain ⟨ua, uc, rfl⟩ := HD2.shape
  obtain ⟨g, gc, hv, hg1, hg2, _, _, _, hcells⟩ := HD2.at (by simp)
  simp only [Value.slice.injEq] at hv
  obtain ⟨rfl, _, rfl⟩ := hv
  have c1 := hcells 0 _ rfl 4 _ rfl
  have hb23 : Below w2.heap.size w2 w3 := ((Below.refl _ _).alloc (Nat.le_refl _) _).trans (hb3.mono (by simp))
  have HD3 := Lib.hid (HD1.out.below hb23)
  have HF := Lib.hid (HW2.out.trans (hb23.mono HW2.out.size))
  clear HD2 hcells hb23 hc1 hf1 hc2 hf2 HD1 HW2 hb3
  go_wp2_with fail
  go_quiet (fail)
  go_wp2
  go_returns
  exact ⟨_, rfl, (HD3.out.below (below_drewN (Below.refl _ _) _)).base hz1, HF.out.trans (below_drewN (Below.refl _ _) _)⟩
end Go.Proofs.YtoecmoicaklbaaaDoor
