
/- Contracts: cidr.Order; delta.sorted, delta.Of, delta.Diff, delta.Apply. -/
import Derived.Test.YteadfobfenopkaaOTab
import Derived.Test.YteadfobfenopkaaDifP
import Derived.Test.YteadfobfenopkaaAp
import Derived.Test.YteadfobfenopkaaRg1
set_option linter.unusedVariables false
set_option linter.unusedSimpArgs false
namespace Go.Proofs.Yteadfobfenopkaa
open Go Go.RowKit Go.Sort Wc Wk

def ordV (x y : Nat × Nat × Nat) : Int := if x.1 < y.1 then -1 else if y.1 < x.1 then 1 else (x.2.1 : Int) - y.2.1
theorem ordV_bd {x y : Nat × Nat × Nat} (hx : VP false x.1 x.2.1) (hy : VP false y.1 y.2.1) : -100 ≤ ordV x y ∧ ordV x y ≤ 100 := by
  have := hx.2.1
  have := hy.2.1
  unfold wd at *
  unfold ordV
  simp at *
  split <;> (try split) <;> omega

set_option maxHeartbeats 1000000 in
theorem order_any (x y : Nat × Nat × Nat) (w : World) (hx : VP false x.1 x.2.1) (hy : VP false y.1 y.2.1) :
    Calls Try.prog 71 #[Value.agg #[.bool false, .int .u64 (hiOf false x.1), .int .u64 (loOf x.1), .int .i64 x.2.1], Value.agg #[.bool false, .int .u64 (hiOf false y.1), .int .u64 (loOf y.1), .int .i64 y.2.1]] w fun e w' => e = .returned (.int .i64 (ordV x y)) ∧ Below w.heap.size w w' := by
  obtain ⟨n, k, h⟩ := x
  obtain ⟨m, l, g⟩ := y
  dsimp only at hx hy ⊢
  have hk := hx.2.1
  have hl := hy.2.1
  have L1 := Lib.hid (fun w => less_any false n m w hx.1 hy.1)
  have L2 := Lib.hid (fun w => less_any false m n w hy.1 hx.1)
  unfold wd at hk hl
  simp at hk hl
  clear hx hy
  by_cases c1 : n < m
  · have e : ordV (n, k, h) (m, l, g) = -1 := by unfold ordV; rw [if_pos c1]
    have d1 : decide (n < m) = true := decide_eq_true c1
    rw [d1] at L1
    rw [e]
    clear e d1 c1 L2
    go_enter Try.func71, Try.ntmps71
    go_wp2_with ((with_reducible refine (L1.out _).mono ?_); rintro e w1 ⟨rfl, hb1⟩; (repeat (with_reducible (replace hb1 := Below.undrew hb1))); obtain ⟨hc1, hf1⟩ := bcell hb1; have hz1 := hb1.size; (repeat (first | rw [World.size_alloc] at hz1 | rw [World.size_drew] at hz1 | rw [World.size_setCell] at hz1)); (try have : w.heap.size < w1.heap.size := by omega); (try have : w.heap.size < w1.heap.size + 1 := by omega); (try have : w.heap.size < w1.heap.size + 1 + 1 := by omega); (try have : w.heap.size < w1.heap.size + 1 + 1 + 1 := by omega); (try have : w.heap.size + 1 < w1.heap.size := by omega); (try have : w.heap.size + 1 < w1.heap.size + 1 := by omega); (try have : w.heap.size + 1 < w1.heap.size + 1 + 1 := by omega); (try have : w.heap.size + 1 < w1.heap.size + 1 + 1 + 1 := by omega))
    go_returns
    exact ⟨rfl, by (repeat' (first | (with_reducible exact Below.refl _ _) | (with_reducible assumption) | (with_reducible refine Below.al ?_ _) | (with_reducible refine Below.dr ?_) | (with_reducible refine Below.step ?_ (by assumption)) | (with_reducible refine Below.set ?_ ?_ _) | omega | (dsimp only; omega) | (simp; done) | (simp; omega)))⟩
  · have d1 : decide (n < m) = false := decide_eq_false c1
    rw [d1] at L1
    by_cases c2 : m < n
    · have e : ordV (n, k, h) (m, l, g) = 1 := by unfold ordV; rw [if_neg c1, if_pos c2]
      have d2 : decide (m < n) = true := decide_eq_true c2
      rw [d2] at L2
      rw [e]
      clear e d1 d2 c1 c2
      go_enter Try.func71, Try.ntmps71
      go_wp2_with fail; ((with_reducible refine (L1.out _).mono ?_); rintro e w1 ⟨rfl, hb1⟩; (repeat (with_reducible (replace hb1 := Below.undrew hb1))); obtain ⟨hc1, hf1⟩ := bcell hb1; have hz1 := hb1.size; (repeat (first | rw [World.size_alloc] at hz1 | rw [World.size_drew] at hz1 | rw [World.size_setCell] at hz1)); (try have : w.heap.size < w1.heap.size := by omega); (try have : w.heap.size < w1.heap.size + 1 := by omega); (try have : w.heap.size < w1.heap.size + 1 + 1 := by omega); (try have : w.heap.size < w1.heap.size + 1 + 1 + 1 := by omega); (try have : w.heap.size + 1 < w1.heap.size := by omega); (try have : w.heap.size + 1 < w1.heap.size + 1 := by omega); (try have : w.heap.size + 1 < w1.heap.size + 1 + 1 := by omega); (try have : w.heap.size + 1 < w1.heap.size + 1 + 1 + 1 := by omega)); go_wp2_with fail; ((with_reducible refine (L2.out _).mono ?_); rintro e w2 ⟨rfl, hb2⟩; (repeat (with_reducible (replace hb2 := Below.undrew hb2))); obtain ⟨hc2, hf2⟩ := bcell hb2; have hz2 := hb2.size; (repeat (first | rw [World.size_alloc] at hz2 | rw [World.size_drew] at hz2 | rw [World.size_setCell] at hz2)); (try have : w.heap.size < w2.heap.size := by omega); (try have : w.heap.size < w2.heap.size + 1 := by omega); (try have : w.heap.size < w2.heap.size + 1 + 1 := by omega); (try have : w.heap.size < w2.heap.size + 1 + 1 + 1 := by omega); (try have : w.heap.size + 1 < w2.heap.size := by omega); (try have : w.heap.size + 1 < w2.heap.size + 1 := by omega); (try have : w.heap.size + 1 < w2.heap.size + 1 + 1 := by omega); (try have : w.heap.size + 1 < w2.heap.size + 1 + 1 + 1 := by omega); (try have : w1.heap.size < w2.heap.size := by omega); (try have : w1.heap.size < w2.heap.size + 1 := by omega); (try have : w1.heap.size < w2.heap.size + 1 + 1 := by omega); (try have : w1.heap.size < w2.heap.size + 1 + 1 + 1 := by omega))
      go_wp2
      go_returns
      exact ⟨rfl, by (repeat' (first | (with_reducible exact Below.refl _ _) | (with_reducible assumption) | (with_reducible refine Below.al ?_ _) | (with_reducible refine Below.dr ?_) | (with_reducible refine Below.step ?_ (by assumption)) | (with_reducible refine Below.set ?_ ?_ _) | omega | (dsimp only; omega) | (simp; done) | (simp; omega)))⟩
    · have e : ordV (n, k, h) (m, l, g) = (k : Int) - l := by unfold ordV; rw [if_neg c1, if_neg c2]
      have d2 : decide (m < n) = false := decide_eq_false c2
      rw [d2] at L2
      rw [e]
      clear e d1 d2 c1 c2
      go_enter Try.func71, Try.ntmps71
      go_wp2_with fail; ((with_reducible refine (L1.out _).mono ?_); rintro e w1 ⟨rfl, hb1⟩; (repeat (with_reducible (replace hb1 := Below.undrew hb1))); obtain ⟨hc1, hf1⟩ := bcell hb1; have hz1 := hb1.size; (repeat (first | rw [World.size_alloc] at hz1 | rw [World.size_drew] at hz1 | rw [World.size_setCell] at hz1)); (try have : w.heap.size < w1.heap.size := by omega); (try have : w.heap.size < w1.heap.size + 1 := by omega); (try have : w.heap.size < w1.heap.size + 1 + 1 := by omega); (try have : w.heap.size < w1.heap.size + 1 + 1 + 1 := by omega); (try have : w.heap.size + 1 < w1.heap.size := by omega); (try have : w.heap.size + 1 < w1.heap.size + 1 := by omega); (try have : w.heap.size + 1 < w1.heap.size + 1 + 1 := by omega); (try have : w.heap.size + 1 < w1.heap.size + 1 + 1 + 1 := by omega)); go_wp2_with fail; ((with_reducible refine (L2.out _).mono ?_); rintro e w2 ⟨rfl, hb2⟩; (repeat (with_reducible (replace hb2 := Below.undrew hb2))); obtain ⟨hc2, hf2⟩ := bcell hb2; have hz2 := hb2.size; (repeat (first | rw [World.size_alloc] at hz2 | rw [World.size_drew] at hz2 | rw [World.size_setCell] at hz2)); (try have : w.heap.size < w2.heap.size := by omega); (try have : w.heap.size < w2.heap.size + 1 := by omega); (try have : w.heap.size < w2.heap.size + 1 + 1 := by omega); (try have : w.heap.size < w2.heap.size + 1 + 1 + 1 := by omega); (try have : w.heap.size + 1 < w2.heap.size := by omega); (try have : w.heap.size + 1 < w2.heap.size + 1 := by omega); (try have : w.heap.size + 1 < w2.heap.size + 1 + 1 := by omega); (try have : w.heap.size + 1 < w2.heap.size + 1 + 1 + 1 := by omega); (try have : w1.heap.size < w2.heap.size := by omega); (try have : w1.heap.size < w2.heap.size + 1 := by omega); (try have : w1.heap.size < w2.heap.size + 1 + 1 := by omega); (try have : w1.heap.size < w2.heap.size + 1 + 1 + 1 := by omega))
      go_wp2
      go_returns
      exact ⟨rfl, by (repeat' (first | (with_reducible exact Below.refl _ _) | (with_reducible assumption) | (with_reducible refine Below.al ?_ _) | (with_reducible refine Below.dr ?_) | (with_reducible refine Below.step ?_ (by assumption)) | (with_reducible refine Below.set ?_ ?_ _) | omega | (dsimp only; omega) | (simp; done) | (simp; omega)))⟩
def SideOk (L M : List (Nat × Nat × Nat)) (i j : Nat) (s : Int) : Prop :=
  (s < 0 ∧ ∃ x, L[i]? = some x ∧ ∀ y, M[j]? = some y → lt3 x y) ∨ (0 < s ∧ ∃ y, M[j]? = some y ∧ ∀ x, L[i]? = some x → lt3 y x) ∨ (s = 0 ∧ ∃ x y, L[i]? = some x ∧ M[j]? = some y ∧ x.1 = y.1 ∧ x.2.1 = y.2.1)
theorem sideOk_ord {L M : List (Nat × Nat × Nat)} {i j : Nat} {x y : Nat × Nat × Nat} (hx : L[i]? = some x) (hy : M[j]? = some y) : SideOk L M i j (ordV x y) := by
  unfold ordV SideOk
  by_cases c1 : x.1 < y.1
  · rw [if_pos c1]
    exact .inl ⟨by decide, x, hx, fun z hz => by rw [hy] at hz; cases hz; exact .inl c1⟩
  · rw [if_neg c1]
    by_cases c2 : y.1 < x.1
    · rw [if_pos c2]
      exact .inr (.inl ⟨by decide, y, hy, fun z hz => by rw [hx] at hz; cases hz; exact .inl c2⟩)
    · rw [if_neg c2]
      have e : x.1 = y.1 := by omega
      by_cases c3 : x.2.1 < y.2.1
      · exact .inl ⟨by omega, x, hx, fun z hz => by rw [hy] at hz; cases hz; exact .inr ⟨e, c3⟩⟩
      · by_cases c4 : y.2.1 < x.2.1
        · exact .inr (.inl ⟨by omega, y, hy, fun z hz => by rw [hx] at hz; cases hz; exact .inr ⟨e.symm, c4⟩⟩)
        · exact .inr (.inr ⟨by omega, x, y, hx, hy, e, by omega⟩)
theorem sorted_any {w wr : World} {tb : Nat} {L : List (Nat × Nat × Nat)} (h : OwnTab w wr tb L) (h60 : L.length ≤ 60) :
    Calls Try.prog 46 #[.pointer (some ⟨tb, 0, none⟩)] wr fun e w' => ∃ v, e = .returned v ∧ Wk.Own w' wr.heap.size 53 5 v (L.map routeCells) ∧ Below wr.heap.size wr w' := by
  have C := Lib.hid (h.collect h60)
  clear h
  go_enter Try.func46, Try.ntmps46
  go_wp2_with ((with_reducible refine C.out.mono ?_); rintro e w5 ⟨v, rfl, ho, hb⟩)
  go_returns
  exact ⟨v, rfl, ho, hb⟩
theorem run_tail_one (b off : Nat) (W : World) : (Instr.slice 41 (.slice (some ⟨b, off, none⟩) 1 1) (some (.int .i64 1)) none none).run Try.prog W = .ok (.slice (some ⟨b, off, none⟩) 0 0) W := by
  go_simp
theorem run_tail_more (b off la c : Nat) (hp : 1 ≤ la) (h1 : la ≤ c) (h2 : c ≤ 9223372036854775807) (hne : c ≠ 1) (W : World) : (Instr.slice 41 (.slice (some ⟨b, off, none⟩) la c) (some (.int .i64 1)) none none).run Try.prog W = .ok (.slice (some ⟨b, off + 1 * 5, none⟩) (la - 1) (c - 1)) W := by
  have h3 : ¬ (la : Int) < 1 := by omega
  go_simp
/-- The first of a list of routes; what lies behind it. -/
theorem route_tail {w : World} {a : Option Addr} {la c : Nat} {xs : List (Nat × Nat × Nat)} (h : Sl w 5 (.slice a la c) (xs.map routeCells)) (hp : 0 < la) :
    ∃ a' c', (∀ W : World, (Instr.slice 41 (.slice a la c) (some (.int .i64 1)) none none).run Try.prog W = .ok (.slice a' (la - 1) c') W) ∧ Sl w 5 (.slice a' (la - 1) c') ((xs.drop 1).map routeCells) := by
  obtain ⟨hl, hc1, hc2⟩ := h.lens
  rw [List.length_map] at hl
  obtain ⟨x, hx⟩ : ∃ x, xs[0]? = some x := ⟨_, List.getElem?_eq_getElem (by omega)⟩
  obtain ⟨b, off, rfl, _⟩ := Sl.at h (i := 0) (c := routeCells x) (by rw [List.getElem?_map, hx]; rfl)
  rcases h.behind 1 (by rw [List.length_map]; omega) with ⟨rfl, rfl, hn, hs⟩ | ⟨hne, hs⟩
  · exact ⟨_, _, fun W => run_tail_one b off W, by rw [List.map_drop]; exact hs⟩
  · exact ⟨_, _, fun W => run_tail_more b off la c hp hc1 hc2 hne W, by rw [List.map_drop]; exact hs⟩
end Go.Proofs.Yteadfobfenopkaa
