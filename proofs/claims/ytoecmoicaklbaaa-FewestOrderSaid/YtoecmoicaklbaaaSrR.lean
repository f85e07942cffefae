
/- slices.SortFunc, slices.SortedFunc of routes by their lengths. -/
import Derived.Test.YtoecmoicaklbaaaVaR
import Derived.Test.YtoecmoicaklbaaaGw
import Derived.Test.YtoecmoicaklbaaaSrtK
import Derived.Test.YtoecmoicaklbaaaSrtL
import Derived.Shelf.SlSortCmp.WholeK
set_option linter.unusedVariables false
set_option linter.unusedSimpArgs false
namespace Go.Proofs.Ytoecmoicaklbaaa
open Go.RowKit Go.Sort Wc Wk

theorem grow1G (x y : Nat × Nat × Nat) (w : World) (hx : x.2.1 ≤ 32) (hy : y.2.1 ≤ 32) :
    Calls Try.prog 92 #[.agg #[.bool false, .int .u64 (hiOf false x.1), .int .u64 (loOf x.1), .int .i64 x.2.1, .int .i64 x.2.2], .agg #[.bool false, .int .u64 (hiOf false y.1), .int .u64 (loOf y.1), .int .i64 y.2.1, .int .i64 y.2.2]] w fun e w' => e = .returned (.int .i64 ((x.2.1 : Int) - y.2.1)) ∧ Grw w w' := by
  have ew : IntKind.i64.wrap ((x.2.1 : Int) - y.2.1) = (x.2.1 : Int) - y.2.1 := by rw [IntKind.wrap_i64]; omega
  go_enter Try.func92, Try.ntmps92
  go_wp2_with fail
  go_returns
  exact ⟨by first | rfl | rw [ew], ((Grw.refl w).alloc _).alloc _⟩
/-- A route whose length is in its bounds. -/
abbrev OkRt := { x : Nat × Nat × Nat // x.2.1 ≤ 32 }
instance : Inhabited OkRt := ⟨⟨(0, 0, 0), Nat.zero_le _⟩⟩
def encRt (x : OkRt) : List Value := routeCells x.1
def cmpR (x y : OkRt) : Int := (x.1.2.1 : Int) - y.1.2.1
theorem ltR (x y : OkRt) : ltOf cmpR x y = decide (x.1.2.1 < y.1.2.1) := by
  unfold ltOf cmpR
  by_cases h : x.1.2.1 < y.1.2.1 <;> simp [h] <;> omega
theorem swoR : SWO (ltOf cmpR) where
  irrefl x := by rw [ltR]; simp
  trans x y z h1 h2 := by rw [ltR] at *; simp at *; omega
  ntrans x y z h1 h2 := by rw [ltR] at *; simp at *; omega
theorem lift_rt : ∀ xs : List (Nat × Nat × Nat), (∀ x ∈ xs, x.2.1 ≤ 32) → ∃ zs : List OkRt, zs.map (·.1) = xs
  | [], _ => ⟨[], rfl⟩
  | x :: xs, h => by
    obtain ⟨zs, hz⟩ := lift_rt xs (fun y hy => h y (List.mem_cons_of_mem _ hy))
    exact ⟨⟨x, h x (by simp)⟩ :: zs, by rw [List.map_cons, hz]⟩
theorem permR {d d' : Array OkRt} (h : PermIn 0 d.size d d') : d'.toList.Perm d.toList := by
  obtain ⟨h1, _, h3⟩ := h
  have e1 : d'.extract 0 d.size = d' := by rw [← h1]; simp
  have e2 : d.extract 0 d.size = d := by simp
  rwa [e1, e2] at h3
theorem sortedR {d' : Array OkRt} {n : Nat} (hn : d'.size = n) (h : SortedIn (ltOf cmpR) 0 n d') : d'.toList.Pairwise (fun a b => ¬ (b.1.2.1 < a.1.2.1)) := by
  rw [List.pairwise_iff_getElem]
  intro i j hi hj hij
  have hi' : i < d'.size := by simpa using hi
  have hj' : j < d'.size := by simpa using hj
  have := h i j (Nat.zero_le _) hij (by omega)
  rw [ltR, getElem!_pos d' i hi', getElem!_pos d' j hj', decide_eq_false_iff_not] at this
  simpa using this
theorem enterR : ∀ args w, (callFunc 92 args).run Try.prog w = .ok (.enter 92 args) w := enters_of Try.func92 (by kernel_rfl) rfl
theorem laysR (blk off size : Nat) (w : World) : CmpLays Try.prog 92 #[] encRt 5 cmpR blk off size w := fun _ _ _ _ x y => grow1G x.1 y.1 _ x.2 y.2
set_option maxHeartbeats 1000000 in
theorem insR_none (fv : Value) (w : World) : Calls Try.prog 141 #[.slice none 0 0, .int .i64 0, .int .i64 0, fv] w fun e w' => e = .returned (.tuple #[]) ∧ w = w' := by
  go_enter Try.func141, Try.ntmps141
  go_wp2
  refine wp_loop_rounds 1 ?_
  rw [rounds_succ]
  go_wp2
  go_end0
  exact ⟨rfl, rfl⟩
set_option maxHeartbeats 1000000 in
theorem pdqR_none (fv : Value) (lim : Int) (w : World) : Calls Try.prog 130 #[.slice none 0 0, .int .i64 0, .int .i64 0, .int .i64 lim, fv] w fun e w' => e = .returned (.tuple #[]) ∧ w = w' := by
  have I := Lib.hid (fun w => insR_none fv w)
  go_enter Try.func130, Try.ntmps130
  go_wp2
  refine wp_loop_rounds 1 ?_
  rw [rounds_succ]
  go_wp2_with ((with_reducible refine (I.out _).mono ?_); rintro e w' ⟨rfl, rfl⟩)
  (try simp only [Exit.inBlock, Exit.then]); refine bodyPost_ret (results_none rfl _ _ _) rfl ?_
  exact ⟨rfl, rfl⟩
set_option maxHeartbeats 1000000 in
theorem sortR_none (fv : Value) (w : World) : Calls Try.prog 116 #[.slice none 0 0, fv] w fun e w' => e = .returned (.tuple #[]) ∧ w = w' := by
  have I := Lib.hid (fun lim w => pdqR_none fv lim w)
  have L := Lib.hid (fun w => Try.bits_Len 0 w (by decide) (by decide))
  go_enter Try.func116, Try.ntmps116
  go_wp2_with (first | ((with_reducible refine (L.out _).mono ?_); rintro e w' ⟨rfl, rfl⟩) | ((with_reducible refine (I.out _ _).mono ?_); rintro e w' ⟨rfl, rfl⟩))
  go_end0
  exact ⟨rfl, rfl⟩


theorem sort_rt (B : Nat) (v : Value) (xs : List (Nat × Nat × Nat)) (w : World) (hl : xs.length ≤ 1000) (hok : ∀ x ∈ xs, x.2.1 ≤ 32) (ho : Wk.Own w B 49 5 v (xs.map routeCells)) :
    Calls Try.prog 116 #[v, .func (.func 92) #[] #[]] w fun e w' => e = .returned (.tuple #[]) ∧ ∃ ys : List (Nat × Nat × Nat), ys.Perm xs ∧ ys.Pairwise (fun a b => ¬ (b.2.1 < a.2.1)) ∧ Wk.Own w' B 49 5 v (ys.map routeCells) ∧ w.grownBy w' v.ownBlock := by
  obtain ⟨zs, rfl⟩ := lift_rt xs hok
  rw [List.map_map] at ho
  rw [List.length_map] at hl
  replace ho : Wk.Own w B 49 5 v (zs.map encRt) := ho
  rcases ho.2.2 with ⟨rfl, h0⟩ | ⟨g, cap, cur, rfl, hB, hg, hn, hm, hs, ht⟩
  · have hx : zs = [] := by simpa using h0
    subst hx
    exact (sortR_none _ w).mono fun e w' ⟨he, hw⟩ => ⟨he, [], List.Perm.nil, .nil, by rw [← hw]; exact ho, by rw [← hw]; exact ⟨rfl, rfl, rfl, Nat.le_refl _, fun _ _ _ => rfl⟩⟩
  · rw [List.length_map] at ho ⊢
    obtain ⟨hH, hlt, _⟩ := holds_own (enc := encRt) (k := 5) (fun _ => rfl) (d := zs.toArray) ho
    have e1 : zs.toArray.size = zs.length := by simp
    have hcon := AnyQ.slices_SortFunc Try.sortRoute 5 Try.isAgg49 Try.sizeOf49 encRt (fun _ => rfl) (fun x => routeCells_one x.1) cmpR swoR 92 #[] g 0 cap zs.toArray w enterR (laysR g 0 _ w) hH hlt (by rw [e1]; omega)
    change Calls Try.prog 116 _ _ _ at hcon
    rw [e1] at hcon
    refine Calls.mono hcon ?_
    rintro e w' ⟨rfl, d', n, os, hp, hs2, rfl⟩
    have hp2 : PermIn 0 zs.toArray.size zs.toArray d' := by rw [e1]; exact hp
    refine ⟨rfl, d'.toList.map (·.1), (permR hp2).map _, ?_, ?_, grown_sortK⟩
    · exact List.pairwise_map.2 (sortedR (by rw [hp2.1, e1]) hs2)
    · rw [List.map_map]
      exact own_sortK (enc := encRt) (k := 5) (fun _ => rfl) (d := zs.toArray) ho hp2.1 n os

/-- Routes, shorter prefixes first. -/
def SortL (xs ys : List (Nat × Nat × Nat)) : Prop := ys.Perm xs ∧ ys.Pairwise (fun a b => ¬ (b.2.1 < a.2.1))

set_option maxHeartbeats 1000000 in
theorem sortedRt_any (sb : Nat) (a : Option Addr) (len cap : Nat) (xs : List (Nat × Nat × Nat)) (w : World) (hs : Sl w 5 (.slice a len cap) (xs.map routeCells)) (hlen : len = xs.length) (h60 : xs.length ≤ 1000) (hok : ∀ x ∈ xs, x.2.1 ≤ 32) (hc : w.cell? ⟨sb, 0, none⟩ = some (.slice a len cap)) (hsb : sb < w.heap.size) (ha : ∀ x, a = some x → x.block < w.heap.size) :
    Calls Try.prog 90 #[.func (.func 117) #[] #[.pointer (some ⟨sb, 0, none⟩)], .func (.func 92) #[] #[]] w fun e w' => ∃ v ys, e = .returned v ∧ Wk.Own w' w.heap.size 49 5 v (ys.map routeCells) ∧ SortL xs ys ∧ Below w.heap.size w w' := by
  have C := Lib.hid (collectRV_any sb a len cap xs w hs hlen h60 hc hsb ha)
  have HOK := Lib.hid hok
  clear hs hc ha hok hlen
  go_enter Try.func90, Try.ntmps90
  go_wp2_with fail
  refine C.out.mono ?_
  rintro e w1 ⟨v, rfl, ho, hb1⟩; (repeat (with_reducible (replace hb1 := Below.undrew hb1))); obtain ⟨hc1, hf1⟩ := bcell hb1; have hz1 := hb1.size; (repeat (first | rw [World.size_alloc] at hz1 | rw [World.size_drew] at hz1 | rw [World.size_setCell] at hz1)); (try have : w.heap.size < w1.heap.size := by omega); (try have : w.heap.size < w1.heap.size + 1 := by omega); (try have : w.heap.size < w1.heap.size + 1 + 1 := by omega); (try have : w.heap.size < w1.heap.size + 1 + 1 + 1 := by omega)
  have SF := Lib.hid (sort_rt w.heap.size v xs w1 h60 HOK.out ho)
  have HO := Lib.hid ho
  clear ho
  go_wp2_with fail
  refine SF.out.mono ?_
  rintro e w2 ⟨rfl, ys, hp, hsr, ho2, hg2⟩
  have HR : Hid (SortL xs ys) := ⟨hp, hsr⟩
  have hB2 : Below w.heap.size w1 w2 := (Below.refl w.heap.size w1).grown hg2 hz1 (fun k hk => (HO.out.lt k hk).1)
  clear hp hsr hg2 SF
  go_wp2
  go_returns
  exact ⟨v, ys, rfl, ho2, HR.out, hb1.trans hB2⟩
theorem valuesRt_any (a : Option Addr) (n cap : Nat) (w : World) : Calls Try.prog 91 #[.slice a n cap] w fun e w' => e = .returned (.func (.func 117) #[] #[.pointer (some ⟨w.heap.size, 0, none⟩)]) ∧ w' = w.alloc (.cells #[.slice a n cap] 43) := by
  go_enter Try.func91, Try.ntmps91
  go_wp2
  go_returns
  exact ⟨rfl, rfl⟩
end Go.Proofs.Ytoecmoicaklbaaa
