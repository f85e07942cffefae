
/- addr.Less and cidr.Order with the world behind them told to the letter (for slices.SortFunc). -/
import Derived.Test.YtllemhknmleklaaOf1
import Derived.Shelf.SlSortCmp.WholeK
set_option linter.unusedVariables false
set_option linter.unusedSimpArgs false
namespace Go.Proofs.Ytllemhknmleklaa
open Go.RowKit Go.Sort Wc Wk

/-- The world has grown by draws and blocks alone. -/
def Grw (W w' : World) : Prop := ∃ q os, w' = grow (W.drewN q) os
theorem Grw.refl (W : World) : Grw W W := ⟨0, #[], by rw [grow_empty]; rfl⟩
theorem Grw.alloc {W w' : World} (h : Grw W w') (o : Obj) : Grw W (w'.alloc o) := by
  obtain ⟨q, os, rfl⟩ := h
  exact ⟨q, os ++ #[o], by rw [alloc_eq_grow, grow_grow]⟩
theorem Grw.drewN {W w' : World} (h : Grw W w') (n : Nat) : Grw W (w'.drewN n) := by
  obtain ⟨q, os, rfl⟩ := h
  exact ⟨q + n, os, by show grow ((W.drewN q).drewN n) os = _; rw [World.drewN_drewN]⟩
theorem Grw.trans {a b c : World} (h : Grw a b) (k : Grw b c) : Grw a c := by
  obtain ⟨q, os, rfl⟩ := h
  obtain ⟨r, os', rfl⟩ := k
  exact ⟨q + r, os ++ os', by show grow (grow ((a.drewN q).drewN r) os) os' = _; rw [grow_grow, World.drewN_drewN]⟩
theorem Grw.below {W w' : World} (h : Grw W w') : Below W.heap.size W w' := by
  obtain ⟨q, os, rfl⟩ := h
  refine ⟨rfl, rfl, rfl, ?_, fun k hk => ?_⟩
  · show W.heap.size ≤ (W.heap ++ os).size
    simp
  · show (W.heap ++ os)[k]? = _
    exact Array.getElem?_append_left hk

set_option maxHeartbeats 1000000 in
theorem lessG (a b : Nat) (w : World) (ha : Fits false a) (hb : Fits false b) :
    Calls Try.prog 72 #[Value.agg #[.bool false, .int .u64 (hiOf false a), .int .u64 (loOf a)], Value.agg #[.bool false, .int .u64 (hiOf false b), .int .u64 (loOf b)]] w fun e w' => e = .returned (.bool (decide (a < b))) ∧ Grw w w' := by
  have e1 : hiOf false a = 0 := rfl
  have e2 : hiOf false b = 0 := rfl
  have e3 := loOf_false ha
  have e4 := loOf_false hb
  rw [e1, e2, e3, e4]
  have hd : decide ((a : Int) < b) = decide (a < b) := by
    by_cases h : a < b
    · rw [decide_eq_true h]; simp; exact h
    · rw [decide_eq_false h]; simp; omega
  rw [← hd]
  clear hd e1 e2 e3 e4
  go_enter Try.func72, Try.ntmps72
  go_wp2
  go_returns
  exact ⟨by simp, ((Grw.refl w).alloc _).alloc _⟩

def ordI (n k m l : Nat) : Int := if n < m then -1 else if m < n then 1 else (k : Int) - l

set_option maxHeartbeats 1000000 in
theorem orderG (n k m l : Nat) (w : World) (hx : VP false n k) (hy : VP false m l) :
    Calls Try.prog 102 #[Value.agg #[.bool false, .int .u64 (hiOf false n), .int .u64 (loOf n), .int .i64 k], Value.agg #[.bool false, .int .u64 (hiOf false m), .int .u64 (loOf m), .int .i64 l]] w fun e w' => e = .returned (.int .i64 (ordI n k m l)) ∧ Grw w w' := by
  have hk := hx.2.1
  have hl := hy.2.1
  have L1 := Lib.hid (fun w => lessG n m w hx.1 hy.1)
  have L2 := Lib.hid (fun w => lessG m n w hy.1 hx.1)
  unfold wd at hk hl
  simp at hk hl
  clear hx hy
  by_cases c1 : n < m
  · have e : ordI n k m l = -1 := by unfold ordI; rw [if_pos c1]
    have d1 : decide (n < m) = true := decide_eq_true c1
    rw [d1] at L1
    rw [e]
    clear e d1 c1 L2
    go_enter Try.func102, Try.ntmps102
    go_wp2_with ((with_reducible refine (L1.out _).mono ?_); rintro e w1 ⟨rfl, g1⟩)
    go_returns
    exact ⟨rfl, (((Grw.refl w).alloc _).alloc _).trans g1⟩
  · have d1 : decide (n < m) = false := decide_eq_false c1
    rw [d1] at L1
    by_cases c2 : m < n
    · have e : ordI n k m l = 1 := by unfold ordI; rw [if_neg c1, if_pos c2]
      have d2 : decide (m < n) = true := decide_eq_true c2
      rw [d2] at L2
      rw [e]
      clear e d1 d2 c1 c2
      go_enter Try.func102, Try.ntmps102
      go_wp2_with (first | ((with_reducible refine (L1.out _).mono ?_); rintro e w1 ⟨rfl, g1⟩; have hb1 := g1.below; (repeat (with_reducible (replace hb1 := Below.undrew hb1))); obtain ⟨hc1, hf1⟩ := bcell hb1; have hz1 := hb1.size; (repeat (first | rw [World.size_alloc] at hz1 | rw [World.size_drew] at hz1 | rw [World.size_setCell] at hz1)); (try have : w.heap.size < w1.heap.size := by omega); (try have : w.heap.size < w1.heap.size + 1 := by omega); (try have : w.heap.size < w1.heap.size + 1 + 1 := by omega); (try have : w.heap.size < w1.heap.size + 1 + 1 + 1 := by omega); (try have : w.heap.size + 1 < w1.heap.size := by omega); (try have : w.heap.size + 1 < w1.heap.size + 1 := by omega); (try have : w.heap.size + 1 < w1.heap.size + 1 + 1 := by omega); (try have : w.heap.size + 1 < w1.heap.size + 1 + 1 + 1 := by omega)) | ((with_reducible refine (L2.out _).mono ?_); rintro e w2 ⟨rfl, g2⟩; have hb2 := g2.below; (repeat (with_reducible (replace hb2 := Below.undrew hb2))); obtain ⟨hc2, hf2⟩ := bcell hb2; have hz2 := hb2.size; (repeat (first | rw [World.size_alloc] at hz2 | rw [World.size_drew] at hz2 | rw [World.size_setCell] at hz2)); (try have : w.heap.size < w2.heap.size := by omega); (try have : w.heap.size < w2.heap.size + 1 := by omega); (try have : w.heap.size < w2.heap.size + 1 + 1 := by omega); (try have : w.heap.size < w2.heap.size + 1 + 1 + 1 := by omega); (try have : w.heap.size + 1 < w2.heap.size := by omega); (try have : w.heap.size + 1 < w2.heap.size + 1 := by omega); (try have : w.heap.size + 1 < w2.heap.size + 1 + 1 := by omega); (try have : w.heap.size + 1 < w2.heap.size + 1 + 1 + 1 := by omega); (try have : w1.heap.size < w2.heap.size := by omega); (try have : w1.heap.size < w2.heap.size + 1 := by omega); (try have : w1.heap.size < w2.heap.size + 1 + 1 := by omega); (try have : w1.heap.size < w2.heap.size + 1 + 1 + 1 := by omega)))
      go_returns
      exact ⟨rfl, ((((Grw.refl w).alloc _).alloc _).trans g1).trans g2⟩
    · have e : ordI n k m l = (k : Int) - l := by unfold ordI; rw [if_neg c1, if_neg c2]
      have d2 : decide (m < n) = false := decide_eq_false c2
      rw [d2] at L2
      rw [e]
      have ew : IntKind.i64.wrap ((k : Int) - l) = (k : Int) - l := by rw [IntKind.wrap_i64]; omega
      clear e d1 d2 c1 c2
      go_enter Try.func102, Try.ntmps102
      go_wp2_with (first | ((with_reducible refine (L1.out _).mono ?_); rintro e w1 ⟨rfl, g1⟩; have hb1 := g1.below; (repeat (with_reducible (replace hb1 := Below.undrew hb1))); obtain ⟨hc1, hf1⟩ := bcell hb1; have hz1 := hb1.size; (repeat (first | rw [World.size_alloc] at hz1 | rw [World.size_drew] at hz1 | rw [World.size_setCell] at hz1)); (try have : w.heap.size < w1.heap.size := by omega); (try have : w.heap.size < w1.heap.size + 1 := by omega); (try have : w.heap.size < w1.heap.size + 1 + 1 := by omega); (try have : w.heap.size < w1.heap.size + 1 + 1 + 1 := by omega); (try have : w.heap.size + 1 < w1.heap.size := by omega); (try have : w.heap.size + 1 < w1.heap.size + 1 := by omega); (try have : w.heap.size + 1 < w1.heap.size + 1 + 1 := by omega); (try have : w.heap.size + 1 < w1.heap.size + 1 + 1 + 1 := by omega)) | ((with_reducible refine (L2.out _).mono ?_); rintro e w2 ⟨rfl, g2⟩; have hb2 := g2.below; (repeat (with_reducible (replace hb2 := Below.undrew hb2))); obtain ⟨hc2, hf2⟩ := bcell hb2; have hz2 := hb2.size; (repeat (first | rw [World.size_alloc] at hz2 | rw [World.size_drew] at hz2 | rw [World.size_setCell] at hz2)); (try have : w.heap.size < w2.heap.size := by omega); (try have : w.heap.size < w2.heap.size + 1 := by omega); (try have : w.heap.size < w2.heap.size + 1 + 1 := by omega); (try have : w.heap.size < w2.heap.size + 1 + 1 + 1 := by omega); (try have : w.heap.size + 1 < w2.heap.size := by omega); (try have : w.heap.size + 1 < w2.heap.size + 1 := by omega); (try have : w.heap.size + 1 < w2.heap.size + 1 + 1 := by omega); (try have : w.heap.size + 1 < w2.heap.size + 1 + 1 + 1 := by omega); (try have : w1.heap.size < w2.heap.size := by omega); (try have : w1.heap.size < w2.heap.size + 1 := by omega); (try have : w1.heap.size < w2.heap.size + 1 + 1 := by omega); (try have : w1.heap.size < w2.heap.size + 1 + 1 + 1 := by omega)))
      go_returns
      exact ⟨by first | rfl | rw [ew], ((((Grw.refl w).alloc _).alloc _).trans g1).trans g2⟩
end Go.Proofs.Ytllemhknmleklaa
