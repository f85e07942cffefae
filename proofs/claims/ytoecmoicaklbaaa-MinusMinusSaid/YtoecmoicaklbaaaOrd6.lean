
/- cidr.Order at prefixes of either family, with the world behind it told to the letter; slices.SortFunc and SortedFunc by it. -/
import Derived.Test.YtoecmoicaklbaaaCol
import Derived.Test.YtoecmoicaklbaaaRg1
import Derived.Test.YtoecmoicaklbaaaGw
import Derived.Test.YtoecmoicaklbaaaSrtK
import Derived.Test.YtoecmoicaklbaaaSrtL
import Derived.Shelf.SlSortCmp.WholeK
set_option linter.unusedVariables false
set_option linter.unusedSimpArgs false
namespace Go.Proofs.Ytoecmoicaklbaaa
open Go.RowKit Go.Sort Wc Wk

theorem lessGs (six : Bool) (a b : Nat) (w : World) (ha : Fits six a) (hb : Fits six b) :
    Calls Try.prog 84 #[Value.agg #[.bool six, .int .u64 (hiOf six a), .int .u64 (loOf a)], Value.agg #[.bool six, .int .u64 (hiOf six b), .int .u64 (loOf b)]] w fun e w' => e = .returned (.bool (decide (a < b))) ∧ Grw w w' := by
  have L := lt_words ha hb
  have E := addr_eq ha hb
  generalize hiOf six a = h1 at *
  generalize hiOf six b = h2 at *
  generalize loOf a = l1 at *
  generalize loOf b = l2 at *
  by_cases c1 : h1 < h2
  · have d := L.1 (.inl c1)
    rw [decide_eq_true d]
    clear L E d
    go_enter Try.func84, Try.ntmps84
    go_wp2
    go_returns
    exact ⟨rfl, ((Grw.refl w).alloc _).alloc _⟩
  · by_cases c2 : h1 = h2
    · subst c2
      by_cases c3 : l1 < l2
      · have d := L.1 (.inr ⟨rfl, c3⟩)
        rw [decide_eq_true d]
        clear L E d
        go_enter Try.func84, Try.ntmps84
        go_wp2
        go_returns
        exact ⟨rfl, ((Grw.refl w).alloc _).alloc _⟩
      · have d : ¬ a < b := fun h => by rcases L.2 h with h | h <;> omega
        rw [decide_eq_false d]
        clear L E d
        go_enter Try.func84, Try.ntmps84
        go_wp2
        go_returns
        exact ⟨rfl, ((Grw.refl w).alloc _).alloc _⟩
    · have d : ¬ a < b := fun h => by rcases L.2 h with h | h <;> omega
      rw [decide_eq_false d]
      clear L E d
      go_enter Try.func84, Try.ntmps84
      go_wp2
      go_returns
      exact ⟨rfl, ((Grw.refl w).alloc _).alloc _⟩



set_option maxHeartbeats 1000000 in
theorem orderGs (six : Bool) (n k m l : Nat) (w : World) (hx : VP six n k) (hy : VP six m l) :
    Calls Try.prog 82 #[Value.agg #[.bool six, .int .u64 (hiOf six n), .int .u64 (loOf n), .int .i64 k], Value.agg #[.bool six, .int .u64 (hiOf six m), .int .u64 (loOf m), .int .i64 l]] w fun e w' => e = .returned (.int .i64 (ordI n k m l)) ∧ Grw w w' := by
  have hk := hx.2.1
  have hl := hy.2.1
  have L1 := Lib.hid (fun w => lessGs six n m w hx.1 hy.1)
  have L2 := Lib.hid (fun w => lessGs six m n w hy.1 hx.1)
  have hw := (pwide_range six).2.1
  have hw1 := (pwide_range six).1
  clear hx hy
  by_cases c1 : n < m
  · have e : ordI n k m l = -1 := by unfold ordI; rw [if_pos c1]
    have d1 : decide (n < m) = true := decide_eq_true c1
    rw [d1] at L1
    rw [e]
    clear e d1 c1 L2
    go_enter Try.func82, Try.ntmps82
    go_wp2_with ((with_reducible refine (L1.out _).mono ?_); rintro e w1 ⟨rfl, g1⟩)
    go_returns
    exact ⟨rfl, (((Grw.refl w).alloc _).alloc _).trans g1⟩
  · have d1 : decide (n < m) = false := decide_eq_false c1
    rw [d1] at L1
    by_cases c2 : m < n
    · have e : ordI n k m l = 1 := by unfold ordI; rw [if_neg c1, if_pos c2]
      have d2 : decide (m < n) = true := decide_eq_true c2
      rw [d2] at L2
      rw [e]
      clear e d1 d2 c1 c2
      go_enter Try.func82, Try.ntmps82
      go_wp2_with (first | ((with_reducible refine (L1.out _).mono ?_); rintro e w1 ⟨rfl, g1⟩; have hb1 := g1.below; (repeat (with_reducible (replace hb1 := Below.undrew hb1))); obtain ⟨hc1, hf1⟩ := bcell hb1; have hz1 := hb1.size; (repeat (first | rw [World.size_alloc] at hz1 | rw [World.size_drew] at hz1 | rw [World.size_setCell] at hz1)); (try have : w.heap.size < w1.heap.size := by omega); (try have : w.heap.size < w1.heap.size + 1 := by omega); (try have : w.heap.size < w1.heap.size + 1 + 1 := by omega); (try have : w.heap.size < w1.heap.size + 1 + 1 + 1 := by omega); (try have : w.heap.size + 1 < w1.heap.size := by omega); (try have : w.heap.size + 1 < w1.heap.size + 1 := by omega); (try have : w.heap.size + 1 < w1.heap.size + 1 + 1 := by omega); (try have : w.heap.size + 1 < w1.heap.size + 1 + 1 + 1 := by omega)) | ((with_reducible refine (L2.out _).mono ?_); rintro e w2 ⟨rfl, g2⟩; have hb2 := g2.below; (repeat (with_reducible (replace hb2 := Below.undrew hb2))); obtain ⟨hc2, hf2⟩ := bcell hb2; have hz2 := hb2.size; (repeat (first | rw [World.size_alloc] at hz2 | rw [World.size_drew] at hz2 | rw [World.size_setCell] at hz2)); (try have : w.heap.size < w2.heap.size := by omega); (try have : w.heap.size < w2.heap.size + 1 := by omega); (try have : w.heap.size < w2.heap.size + 1 + 1 := by omega); (try have : w.heap.size < w2.heap.size + 1 + 1 + 1 := by omega); (try have : w.heap.size + 1 < w2.heap.size := by omega); (try have : w.heap.size + 1 < w2.heap.size + 1 := by omega); (try have : w.heap.size + 1 < w2.heap.size + 1 + 1 := by omega); (try have : w.heap.size + 1 < w2.heap.size + 1 + 1 + 1 := by omega); (try have : w1.heap.size < w2.heap.size := by omega); (try have : w1.heap.size < w2.heap.size + 1 := by omega); (try have : w1.heap.size < w2.heap.size + 1 + 1 := by omega); (try have : w1.heap.size < w2.heap.size + 1 + 1 + 1 := by omega)))
      go_returns
      exact ⟨rfl, ((((Grw.refl w).alloc _).alloc _).trans g1).trans g2⟩
    · have e : ordI n k m l = (k : Int) - l := by unfold ordI; rw [if_neg c1, if_neg c2]
      have d2 : decide (m < n) = false := decide_eq_false c2
      rw [d2] at L2
      rw [e]
      have ew : IntKind.i64.wrap ((k : Int) - l) = (k : Int) - l := by rw [IntKind.wrap_i64]; omega
      clear e d1 d2 c1 c2
      go_enter Try.func82, Try.ntmps82
      go_wp2_with (first | ((with_reducible refine (L1.out _).mono ?_); rintro e w1 ⟨rfl, g1⟩; have hb1 := g1.below; (repeat (with_reducible (replace hb1 := Below.undrew hb1))); obtain ⟨hc1, hf1⟩ := bcell hb1; have hz1 := hb1.size; (repeat (first | rw [World.size_alloc] at hz1 | rw [World.size_drew] at hz1 | rw [World.size_setCell] at hz1)); (try have : w.heap.size < w1.heap.size := by omega); (try have : w.heap.size < w1.heap.size + 1 := by omega); (try have : w.heap.size < w1.heap.size + 1 + 1 := by omega); (try have : w.heap.size < w1.heap.size + 1 + 1 + 1 := by omega); (try have : w.heap.size + 1 < w1.heap.size := by omega); (try have : w.heap.size + 1 < w1.heap.size + 1 := by omega); (try have : w.heap.size + 1 < w1.heap.size + 1 + 1 := by omega); (try have : w.heap.size + 1 < w1.heap.size + 1 + 1 + 1 := by omega)) | ((with_reducible refine (L2.out _).mono ?_); rintro e w2 ⟨rfl, g2⟩; have hb2 := g2.below; (repeat (with_reducible (replace hb2 := Below.undrew hb2))); obtain ⟨hc2, hf2⟩ := bcell hb2; have hz2 := hb2.size; (repeat (first | rw [World.size_alloc] at hz2 | rw [World.size_drew] at hz2 | rw [World.size_setCell] at hz2)); (try have : w.heap.size < w2.heap.size := by omega); (try have : w.heap.size < w2.heap.size + 1 := by omega); (try have : w.heap.size < w2.heap.size + 1 + 1 := by omega); (try have : w.heap.size < w2.heap.size + 1 + 1 + 1 := by omega); (try have : w.heap.size + 1 < w2.heap.size := by omega); (try have : w.heap.size + 1 < w2.heap.size + 1 := by omega); (try have : w.heap.size + 1 < w2.heap.size + 1 + 1 := by omega); (try have : w.heap.size + 1 < w2.heap.size + 1 + 1 + 1 := by omega); (try have : w1.heap.size < w2.heap.size := by omega); (try have : w1.heap.size < w2.heap.size + 1 := by omega); (try have : w1.heap.size < w2.heap.size + 1 + 1 := by omega); (try have : w1.heap.size < w2.heap.size + 1 + 1 + 1 := by omega)))
      go_returns
      exact ⟨by first | rfl | rw [ew], ((((Grw.refl w).alloc _).alloc _).trans g1).trans g2⟩
end Go.Proofs.Ytoecmoicaklbaaa
