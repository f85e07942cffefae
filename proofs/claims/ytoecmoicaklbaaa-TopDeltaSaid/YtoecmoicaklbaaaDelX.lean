
/- Contracts: cidr.Order; delta.sorted, delta.Of, delta.Diff, delta.Apply. -/
import Derived.Test.YtoecmoicaklbaaaOTab
import Derived.Test.YtoecmoicaklbaaaDifP
import Derived.Test.YtoecmoicaklbaaaAp
import Derived.Test.YtoecmoicaklbaaaRg2
import Derived.Test.YtoecmoicaklbaaaMkA
set_option linter.unusedVariables false
set_option linter.unusedSimpArgs false
namespace Go.Proofs.Ytoecmoicaklbaaa
open Go Go.RowKit Go.Sort Wc Wk

def ordV (x y : Nat × Nat × Nat) : Int := if x.1 < y.1 then -1 else if y.1 < x.1 then 1 else (x.2.1 : Int) - y.2.1
theorem ordV_bd {x y : Nat × Nat × Nat} (hx : VP false x.1 x.2.1) (hy : VP false y.1 y.2.1) : -100 ≤ ordV x y ∧ ordV x y ≤ 100 := by
  have := hx.2.1
  have := hy.2.1
  unfold wd at *
  unfold ordV
  simp at *
  split <;> (try split) <;> omega

set_option maxHeartbeats 1000000 in
theorem order_any (x y : Nat × Nat × Nat) (w : World) (hx : VP false x.1 x.2.1) (hy : VP false y.1 y.2.1) :
    Calls Try.prog 82 #[Value.agg #[.bool false, .int .u64 (hiOf false x.1), .int .u64 (loOf x.1), .int .i64 x.2.1], Value.agg #[.bool false, .int .u64 (hiOf false y.1), .int .u64 (loOf y.1), .int .i64 y.2.1]] w fun e w' => e = .returned (.int .i64 (ordV x y)) ∧ Below w.heap.size w w' := by
  obtain ⟨n, k, h⟩ := x
  obtain ⟨m, l, g⟩ := y
  dsimp only at hx hy ⊢
  have hk := hx.2.1
  have hl := hy.2.1
  have L1 := Lib.hid (fun w => less_any false n m w hx.1 hy.1)
  have L2 := Lib.hid (fun w => less_any false m n w hy.1 hx.1)
  unfold wd at hk hl
  simp at hk hl
  clear hx hy
  by_cases c1 : n < m
  · have e : ordV (n, k, h) (m, l, g) = -1 := by unfold ordV; rw [if_pos c1]
    have d1 : decide (n < m) = true := decide_eq_true c1
    rw [d1] at L1
    rw [e]
    clear e d1 c1 L2
    go_enter Try.func82, Try.ntmps82
    go_wp2_with ((with_reducible refine (L1.out _).mono ?_); rintro e w1 ⟨rfl, hb1⟩; (repeat (with_reducible (replace hb1 := Below.undrew hb1))); obtain ⟨hc1, hf1⟩ := bcell hb1; have hz1 := hb1.size; (repeat (first | rw [World.size_alloc] at hz1 | rw [World.size_drew] at hz1 | rw [World.size_setCell] at hz1)); (try have : w.heap.size < w1.heap.size := by omega); (try have : w.heap.size < w1.heap.size + 1 := by omega); (try have : w.heap.size < w1.heap.size + 1 + 1 := by omega); (try have : w.heap.size < w1.heap.size + 1 + 1 + 1 := by omega); (try have : w.heap.size + 1 < w1.heap.size := by omega); (try have : w.heap.size + 1 < w1.heap.size + 1 := by omega); (try have : w.heap.size + 1 < w1.heap.size + 1 + 1 := by omega); (try have : w.heap.size + 1 < w1.heap.size + 1 + 1 + 1 := by omega))
    go_returns
    exact ⟨rfl, by (repeat' (first | (with_reducible exact Below.refl _ _) | (with_reducible assumption) | (with_reducible refine Below.al ?_ _) | (with_reducible refine Below.dr ?_) | (with_reducible refine Below.step ?_ (by assumption)) | (with_reducible refine Below.set ?_ ?_ _) | omega | (dsimp only; omega) | (simp; done) | (simp; omega)))⟩
  · have d1 : decide (n < m) = false := decide_eq_false c1
    rw [d1] at L1
    by_cases c2 : m < n
    · have e : ordV (n, k, h) (m, l, g) = 1 := by unfold ordV; rw [if_neg c1, if_pos c2]
      have d2 : decide (m < n) = true := decide_eq_true c2
      rw [d2] at L2
      rw [e]
      clear e d1 d2 c1 c2
      go_enter Try.func82, Try.ntmps82
      go_wp2_with fail; ((with_reducible refine (L1.out _).mono ?_); rintro e w1 ⟨rfl, hb1⟩; (repeat (with_reducible (replace hb1 := Below.undrew hb1))); obtain ⟨hc1, hf1⟩ := bcell hb1; have hz1 := hb1.size; (repeat (first | rw [World.size_alloc] at hz1 | rw [World.size_drew] at hz1 | rw [World.size_setCell] at hz1)); (try have : w.heap.size < w1.heap.size := by omega); (try have : w.heap.size < w1.heap.size + 1 := by omega); (try have : w.heap.size < w1.heap.size + 1 + 1 := by omega); (try have : w.heap.size < w1.heap.size + 1 + 1 + 1 := by omega); (try have : w.heap.size + 1 < w1.heap.size := by omega); (try have : w.heap.size + 1 < w1.heap.size + 1 := by omega); (try have : w.heap.size + 1 < w1.heap.size + 1 + 1 := by omega); (try have : w.heap.size + 1 < w1.heap.size + 1 + 1 + 1 := by omega)); go_wp2_with fail; ((with_reducible refine (L2.out _).mono ?_); rintro e w2 ⟨rfl, hb2⟩; (repeat (with_reducible (replace hb2 := Below.undrew hb2))); obtain ⟨hc2, hf2⟩ := bcell hb2; have hz2 := hb2.size; (repeat (first | rw [World.size_alloc] at hz2 | rw [World.size_drew] at hz2 | rw [World.size_setCell] at hz2)); (try have : w.heap.size < w2.heap.size := by omega); (try have : w.heap.size < w2.heap.size + 1 := by omega); (try have : w.heap.size < w2.heap.size + 1 + 1 := by omega); (try have : w.heap.size < w2.heap.size + 1 + 1 + 1 := by omega); (try have : w.heap.size + 1 < w2.heap.size := by omega); (try have : w.heap.size + 1 < w2.heap.size + 1 := by omega); (try have : w.heap.size + 1 < w2.heap.size + 1 + 1 := by omega); (try have : w.heap.size + 1 < w2.heap.size + 1 + 1 + 1 := by omega); (try have : w1.heap.size < w2.heap.size := by omega); (try have : w1.heap.size < w2.heap.size + 1 := by omega); (try have : w1.heap.size < w2.heap.size + 1 + 1 := by omega); (try have : w1.heap.size < w2.heap.size + 1 + 1 + 1 := by omega))
      go_wp2
      go_returns
      exact ⟨rfl, by (repeat' (first | (with_reducible exact Below.refl _ _) | (with_reducible assumption) | (with_reducible refine Below.al ?_ _) | (with_reducible refine Below.dr ?_) | (with_reducible refine Below.step ?_ (by assumption)) | (with_reducible refine Below.set ?_ ?_ _) | omega | (dsimp only; omega) | (simp; done) | (simp; omega)))⟩
    · have e : ordV (n, k, h) (m, l, g) = (k : Int) - l := by unfold ordV; rw [if_neg c1, if_neg c2]
      have d2 : decide (m < n) = false := decide_eq_false c2
      rw [d2] at L2
      rw [e]
      clear e d1 d2 c1 c2
      go_enter Try.func82, Try.ntmps82
      go_wp2_with fail; ((with_reducible refine (L1.out _).mono ?_); rintro e w1 ⟨rfl, hb1⟩; (repeat (with_reducible (replace hb1 := Below.undrew hb1))); obtain ⟨hc1, hf1⟩ := bcell hb1; have hz1 := hb1.size; (repeat (first | rw [World.size_alloc] at hz1 | rw [World.size_drew] at hz1 | rw [World.size_setCell] at hz1)); (try have : w.heap.size < w1.heap.size := by omega); (try have : w.heap.size < w1.heap.size + 1 := by omega); (try have : w.heap.size < w1.heap.size + 1 + 1 := by omega); (try have : w.heap.size < w1.heap.size + 1 + 1 + 1 := by omega); (try have : w.heap.size + 1 < w1.heap.size := by omega); (try have : w.heap.size + 1 < w1.heap.size + 1 := by omega); (try have : w.heap.size + 1 < w1.heap.size + 1 + 1 := by omega); (try have : w.heap.size + 1 < w1.heap.size + 1 + 1 + 1 := by omega)); go_wp2_with fail; ((with_reducible refine (L2.out _).mono ?_); rintro e w2 ⟨rfl, hb2⟩; (repeat (with_reducible (replace hb2 := Below.undrew hb2))); obtain ⟨hc2, hf2⟩ := bcell hb2; have hz2 := hb2.size; (repeat (first | rw [World.size_alloc] at hz2 | rw [World.size_drew] at hz2 | rw [World.size_setCell] at hz2)); (try have : w.heap.size < w2.heap.size := by omega); (try have : w.heap.size < w2.heap.size + 1 := by omega); (try have : w.heap.size < w2.heap.size + 1 + 1 := by omega); (try have : w.heap.size < w2.heap.size + 1 + 1 + 1 := by omega); (try have : w.heap.size + 1 < w2.heap.size := by omega); (try have : w.heap.size + 1 < w2.heap.size + 1 := by omega); (try have : w.heap.size + 1 < w2.heap.size + 1 + 1 := by omega); (try have : w.heap.size + 1 < w2.heap.size + 1 + 1 + 1 := by omega); (try have : w1.heap.size < w2.heap.size := by omega); (try have : w1.heap.size < w2.heap.size + 1 := by omega); (try have : w1.heap.size < w2.heap.size + 1 + 1 := by omega); (try have : w1.heap.size < w2.heap.size + 1 + 1 + 1 := by omega))
      go_wp2
      go_returns
      exact ⟨rfl, by (repeat' (first | (with_reducible exact Below.refl _ _) | (with_reducible assumption) | (with_reducible refine Below.al ?_ _) | (with_reducible refine Below.dr ?_) | (with_reducible refine Below.step ?_ (by assumption)) | (with_reducible refine Below.set ?_ ?_ _) | omega | (dsimp only; omega) | (simp; done) | (simp; omega)))⟩
def SideOk (L M : List (Nat × Nat × Nat)) (i j : Nat) (s : Int) : Prop :=
  (s < 0 ∧ ∃ x, L[i]? = some x ∧ ∀ y, M[j]? = some y → lt3 x y) ∨ (0 < s ∧ ∃ y, M[j]? = some y ∧ ∀ x, L[i]? = some x → lt3 y x) ∨ (s = 0 ∧ ∃ x y, L[i]? = some x ∧ M[j]? = some y ∧ x.1 = y.1 ∧ x.2.1 = y.2.1)
theorem sideOk_ord {L M : List (Nat × Nat × Nat)} {i j : Nat} {x y : Nat × Nat × Nat} (hx : L[i]? = some x) (hy : M[j]? = some y) : SideOk L M i j (ordV x y) := by
  unfold ordV SideOk
  by_cases c1 : x.1 < y.1
  · rw [if_pos c1]
    exact .inl ⟨by decide, x, hx, fun z hz => by rw [hy] at hz; cases hz; exact .inl c1⟩
  · rw [if_neg c1]
    by_cases c2 : y.1 < x.1
    · rw [if_pos c2]
      exact .inr (.inl ⟨by decide, y, hy, fun z hz => by rw [hx] at hz; cases hz; exact .inl c2⟩)
    · rw [if_neg c2]
      have e : x.1 = y.1 := by omega
      by_cases c3 : x.2.1 < y.2.1
      · exact .inl ⟨by omega, x, hx, fun z hz => by rw [hy] at hz; cases hz; exact .inr ⟨e, c3⟩⟩
      · by_cases c4 : y.2.1 < x.2.1
        · exact .inr (.inl ⟨by omega, y, hy, fun z hz => by rw [hx] at hz; cases hz; exact .inr ⟨e.symm, c4⟩⟩)
        · exact .inr (.inr ⟨by omega, x, y, hx, hy, e, by omega⟩)
theorem sorted_any {w wr : World} {tb : Nat} {L : List (Nat × Nat × Nat)} (h : OwnTab w wr tb L) (h60 : L.length ≤ 60) :
    Calls Try.prog 58 #[.pointer (some ⟨tb, 0, none⟩)] wr fun e w' => ∃ v, e = .returned v ∧ Wk.Own w' wr.heap.size 49 5 v (L.map routeCells) ∧ Below wr.heap.size wr w' := by
  have C := Lib.hid (h.collect h60)
  clear h
  go_enter Try.func58, Try.ntmps58
  go_wp2_with ((with_reducible refine C.out.mono ?_); rintro e w5 ⟨v, rfl, ho, hb⟩)
  go_returns
  exact ⟨v, rfl, ho, hb⟩
theorem run_tail_one (b off : Nat) (W : World) : (Instr.slice 43 (.slice (some ⟨b, off, none⟩) 1 1) (some (.int .i64 1)) none none).run Try.prog W = .ok (.slice (some ⟨b, off, none⟩) 0 0) W := by
  go_simp
theorem run_tail_more (b off la c : Nat) (hp : 1 ≤ la) (h1 : la ≤ c) (h2 : c ≤ 9223372036854775807) (hne : c ≠ 1) (W : World) : (Instr.slice 43 (.slice (some ⟨b, off, none⟩) la c) (some (.int .i64 1)) none none).run Try.prog W = .ok (.slice (some ⟨b, off + 1 * 5, none⟩) (la - 1) (c - 1)) W := by
  have h3 : ¬ (la : Int) < 1 := by omega
  go_simp
/-- The first of a list of routes; what lies behind it. -/
theorem route_tail {w : World} {a : Option Addr} {la c : Nat} {xs : List (Nat × Nat × Nat)} (h : Sl w 5 (.slice a la c) (xs.map routeCells)) (hp : 0 < la) :
    ∃ a' c', (∀ W : World, (Instr.slice 43 (.slice a la c) (some (.int .i64 1)) none none).run Try.prog W = .ok (.slice a' (la - 1) c') W) ∧ Sl w 5 (.slice a' (la - 1) c') ((xs.drop 1).map routeCells) := by
  obtain ⟨hl, hc1, hc2⟩ := h.lens
  rw [List.length_map] at hl
  obtain ⟨x, hx⟩ : ∃ x, xs[0]? = some x := ⟨_, List.getElem?_eq_getElem (by omega)⟩
  obtain ⟨b, off, rfl, _⟩ := Sl.at h (i := 0) (c := routeCells x) (by rw [List.getElem?_map, hx]; rfl)
  rcases h.behind 1 (by rw [List.length_map]; omega) with ⟨rfl, rfl, hn, hs⟩ | ⟨hne, hs⟩
  · exact ⟨_, _, fun W => run_tail_one b off W, by rw [List.map_drop]; exact hs⟩
  · exact ⟨_, _, fun W => run_tail_more b off la c hp hc1 hc2 hne W, by rw [List.map_drop]; exact hs⟩
end Go.Proofs.Ytoecmoicaklbaaa

/- Contract: delta.Of: what two tables part by. -/
set_option linter.unusedVariables false
set_option linter.unusedSimpArgs false
namespace Go.Proofs.Ytoecmoicaklbaaa
open Go Go.RowKit Go.Sort Wc Wk

def lenOfV : Value → Nat | .slice _ n _ => n | _ => 0
structure OfSt (w : World) (L M : List (Nat × Nat × Nat)) (i j : Nat) (a0 : Option Addr) (la c0 : Nat) (b0 : Option Addr) (lb d0 : Nat) : Prop where
  il : i + la = L.length
  jm : j + lb = M.length
  mg : Mrg L M i j
  sa : Sl w 5 (.slice a0 la c0) ((L.drop i).map routeCells)
  sb : Sl w 5 (.slice b0 lb d0) ((M.drop j).map routeCells)
structure OfOwn (w wr : World) (cs ps : List ActD) (u v : Value) : Prop where
  oc : Wk.Own wr w.heap.size 32 9 u (cs.map actCells)
  op : Wk.Own wr w.heap.size 32 9 v (ps.map actCells)
  ap : Apart u v
  lc : cs.length ≤ 60
  lp : ps.length ≤ 60
  bl : Below w.heap.size w wr
theorem OfOwn.below {w wr w' : World} {cs ps : List ActD} {u v : Value} (h : OfOwn w wr cs ps u v) (hb : Below wr.heap.size wr w') : OfOwn w w' cs ps u v :=
  ⟨h.oc.below hb, h.op.below hb, h.ap, h.lc, h.lp, h.bl.trans (hb.mono h.bl.size)⟩
theorem OfOwn.cut {w wr w' : World} {cs ps : List ActD} {u v u' : Value} {x : ActD} (h : OfOwn w wr cs ps u v) (hl : cs.length < 60) (g : wr.grownBy w' u.ownBlock) (ho : Wk.Own w' w.heap.size 32 9 u' (cs.map actCells ++ [actCells x]))
    (hb : Below w.heap.size wr w') (hv : u'.ownBlock = u.ownBlock ∨ u'.ownBlock = some wr.heap.size) : OfOwn w w' (cs ++ [x]) ps u' v :=
  ⟨by rw [List.map_append]; exact ho, h.ap.symm.keeps h.op g, (h.ap.symm.grown h.op hv).symm, by simp; omega, h.lp, h.bl.trans hb⟩
theorem OfOwn.put {w wr w' : World} {cs ps : List ActD} {u v v' : Value} {x : ActD} (h : OfOwn w wr cs ps u v) (hl : ps.length < 60) (g : wr.grownBy w' v.ownBlock) (ho : Wk.Own w' w.heap.size 32 9 v' (ps.map actCells ++ [actCells x]))
    (hb : Below w.heap.size wr w') (hv : v'.ownBlock = v.ownBlock ∨ v'.ownBlock = some wr.heap.size) : OfOwn w w' cs (ps ++ [x]) u v' :=
  ⟨h.ap.keeps h.oc g, by rw [List.map_append]; exact ho, h.ap.grown h.oc hv, h.lc, by simp; omega, h.bl.trans hb⟩
theorem Sl.first {w w' : World} {a : Option Addr} {n cap : Nat} {xs : List (Nat × Nat × Nat)} {i : Nat} {x : Nat × Nat × Nat} (hs : Sl w 5 (.slice a n cap) ((xs.drop i).map routeCells)) (hb : Below w.heap.size w w') (hx : xs[i]? = some x) :
    ∃ b off, a = some ⟨b, off, none⟩ ∧ b < w.heap.size ∧ w'.cell? ⟨b, off, none⟩ = some (.bool false) ∧ w'.cell? ⟨b, off + 1, none⟩ = some (.int .u64 (hiOf false x.1)) ∧ w'.cell? ⟨b, off + 2, none⟩ = some (.int .u64 (loOf x.1)) ∧ w'.cell? ⟨b, off + 3, none⟩ = some (.int .i64 x.2.1) ∧ w'.cell? ⟨b, off + 4, none⟩ = some (.int .i64 x.2.2) := by
  have h := Sl.route hs hb (i := 0) (r := x) (by rw [List.getElem?_drop]; simpa using hx)
  simpa using h
theorem cuts_len {L M : List (Nat × Nat × Nat)} (i : Nat) (h : L.length ≤ 60) : (cutsOf (L.take i) M).length ≤ i ∧ (cutsOf (L.take i) M).length ≤ 60 := by
  unfold cutsOf
  rw [List.length_map]
  have := List.length_filter_le (fun x : Nat × Nat × Nat => decide (hasL M x.1 x.2.1 = 0)) (L.take i)
  rw [List.length_take] at this
  omega
theorem puts_len {L M : List (Nat × Nat × Nat)} (j : Nat) (h : M.length ≤ 60) : (putsOf L (M.take j)).length ≤ j ∧ (putsOf L (M.take j)).length ≤ 60 := by
  unfold putsOf
  rw [List.length_map]
  have := List.length_filter_le (fun y : Nat × Nat × Nat => decide (hasL L y.1 y.2.1 ≠ y.2.2)) (M.take j)
  rw [List.length_take] at this
  omega


set_option maxRecDepth 100000 in
set_option maxHeartbeats 4000000 in
theorem dof_any (a : Option Addr) (ca n : Nat) (b : Option Addr) (cb m : Nat) (L M : List (Nat × Nat × Nat)) (w : World) (hn : n = L.length) (hm : m = M.length) (ha : Sl w 5 (.slice a n ca) (L.map routeCells)) (hb : Sl w 5 (.slice b m cb) (M.map routeCells)) (t : TabOk L) (s : TabOk M) :
    Calls Try.prog 57 #[.slice a n ca, .slice b m cb] w fun e w' => ∃ v, e = .returned v ∧ Wk.Own w' w.heap.size 32 9 v ((diffL L M).map actCells) ∧ Below w.heap.size w w' := by
  have HL := Lib.hid t
  have HM := Lib.hid s
  have HS0 := Lib.hid (show OfSt w L M 0 0 a n ca b m cb from ⟨by omega, by omega, Mrg.zero L M, ha, hb⟩)
  have l60 := t.len
  have m60 := s.len
  have a1 := ha.lens.2.1
  have a2 := ha.lens.2.2
  have b1 := hb.lens.2.1
  have b2 := hb.lens.2.2
  have hn60 : n ≤ 60 := by omega
  have hm60 : m ≤ 60 := by omega
  clear t s ha hb hn hm
  go_enter Try.func57, Try.ntmps57
  go_wp2_with fail
  go_loopw [0, 1, 5, 6] (fun u0 u1 u5 u6 wr => ∃ (i j la lb : Nat) (a0 : Option Addr) (c0 : Nat) (b0 : Option Addr) (d0 : Nat), u0 = .slice a0 la c0 ∧ u1 = .slice b0 lb d0 ∧ Hid (OfSt w L M i j a0 la c0 b0 lb d0) ∧ la ≤ 60 ∧ lb ≤ 60 ∧ Hid (OfOwn w wr (cutsOf (L.take i) M) (putsOf L (M.take j)) u5 u6)) (fun u0 u1 _ _ _ => lenOfV u0 + lenOfV u1)
  case atStart => exact ⟨0, 0, n, m, a, ca, b, cb, rfl, rfl, HS0, hn60, hm60, ⟨Wk.Own.nil _ _ _ _, Wk.Own.nil _ _ _ _, Apart.nil none _, Nat.zero_le _, Nat.zero_le _, Below.refl _ _⟩⟩
  case round =>
    obtain ⟨i, j, la, lb, a0, c0, b0, d0, rfl, rfl, HS, hla, hlb, HO⟩ := hrel
    have hzr := HO.out.bl.size
    by_cases hend : la = 0 ∧ lb = 0
    · obtain ⟨rfl, rfl⟩ := hend
      go_wp2_with (at_builtin; refine stop_at ?_; intro G hG)
      rw [← hG.out]; clear hG G
      have hi : i = L.length := by have := HS.out.il; omega
      have hj : j = M.length := by have := HS.out.jm; omega
      rw [hi, hj, List.take_of_length_le (Nat.le_refl _), List.take_of_length_le (Nat.le_refl _)] at HO
      have HLC := Lib.hid (HO.out.lc)
      have HLP := Lib.hid (HO.out.lp)
      refine wpList_append_any rfl _ _ 39 32 9 72 _ rfl eiAct w.heap.size u5 ((cutsOf L M).map actCells) rfl HO.out.oc u6 ((putsOf L M).map actCells) rfl HO.out.op.sl (by intro c hc; obtain ⟨r, _, rfl⟩ := List.mem_map.1 hc; exact actCells_one r) (by have := HLC.out; have := HLP.out; simp; omega) (by decide) hzr ?_
      intro v5 w5 hown5 hb5
      obtain ⟨a5, c5, h5⟩ := hown5.shape
      have HO5 := Lib.hid (show Wk.Own w5 w.heap.size 32 9 v5 ((diffL L M).map actCells) by unfold diffL; rw [List.map_append]; exact hown5)
      have HB5 := Lib.hid (HO.out.bl.trans hb5)
      clear hown5 hb5 hi hj
      rw [List.length_append, List.length_map, List.length_map] at h5
      subst h5
      go_wp2_with fail
      go_returns
      exact ⟨_, rfl, HO5.out, HB5.out⟩
    · have hd0 : (0 < la ∨ 0 < lb) := by omega
      go_upto_block 2 with fail
      all_goals
        clear hend hd0
        obtain ⟨W, hW⟩ : ∃ W, W = wr := ⟨_, rfl⟩
        subst hW
        go_cut [7] (fun v7 wx => ∃ sd : Int, v7 = .int .i64 sd ∧ Hid (SideOk L M i j sd) ∧ -100 ≤ sd ∧ sd ≤ 100 ∧ Hid (Below W.heap.size W wx))
        case first =>
          by_cases hb0 : lb = 0
          · subst hb0
            obtain ⟨x, hx⟩ : ∃ x, L[i]? = some x := ⟨_, List.getElem?_eq_getElem (by have := HS.out.il; omega)⟩
            have HSD := Lib.hid (show SideOk L M i j (-1) from .inl ⟨by decide, x, hx, fun y hy => by
              have := (List.getElem?_eq_some_iff.1 hy).1
              have := HS.out.jm
              omega⟩)
            clear hx
            go_wp2_with fail
            go_meet
            exact ⟨-1, rfl, HSD, by decide, by decide, Below.refl _ _⟩
          · by_cases ha0 : la = 0
            · subst ha0
              obtain ⟨y, hy⟩ : ∃ y, M[j]? = some y := ⟨_, List.getElem?_eq_getElem (by have := HS.out.jm; omega)⟩
              have HSD := Lib.hid (show SideOk L M i j 1 from .inr (.inl ⟨by decide, y, hy, fun x hx => by
                have := (List.getElem?_eq_some_iff.1 hx).1
                have := HS.out.il
                omega⟩))
              have hb0' : ¬ ((lb : Int) = 0) := by omega
              have hb0'' : ((lb : Int) == 0) = false := by rw [beq_eq_false_iff_ne]; exact hb0'
              clear hy
              go_wp2_with fail
              go_meet
              exact ⟨1, rfl, HSD, by decide, by decide, Below.refl _ _⟩
            · first
              | (exfalso; omega)
              | (
                obtain ⟨x, hx⟩ : ∃ x, L[i]? = some x := ⟨_, List.getElem?_eq_getElem (by have := HS.out.il; omega)⟩
                obtain ⟨y, hy⟩ : ∃ y, M[j]? = some y := ⟨_, List.getElem?_eq_getElem (by have := HS.out.jm; omega)⟩
                obtain ⟨g1, o1, rfl, hg1, c0', c1', c2', c3', _⟩ := Sl.first HS.out.sa HO.out.bl hx
                obtain ⟨g2, o2, rfl, hg2, e0, e1, e2, e3, _⟩ := Sl.first HS.out.sb HO.out.bl hy
                have vx := HL.out.vp x (List.mem_of_getElem? hx)
                have vy := HM.out.vp y (List.mem_of_getElem? hy)
                have HSD := Lib.hid (sideOk_ord hx hy)
                have OR := Lib.hid (fun w => order_any x y w vx vy)
                obtain ⟨sd1, sd2⟩ := ordV_bd vx vy
                generalize ordV x y = sd at *
                have hb0' : ¬ ((lb : Int) = 0) := by omega
                have hb0'' : ((lb : Int) == 0) = false := by rw [beq_eq_false_iff_ne]; exact hb0'
                have ha0' : ¬ ((la : Int) = 0) := by omega
                have ha0'' : ((la : Int) == 0) = false := by rw [beq_eq_false_iff_ne]; exact ha0'
                have hla1 : 0 < la := by omega
                have hlb1 : 0 < lb := by omega
                have hg1w : g1 < W.heap.size := by omega
                have hg2w : g2 < W.heap.size := by omega
                clear hx hy vx vy ha0 hb0
                go_wp2_with fail
                refine wp_region_qb (by kernel_rfl) (by kernel_rfl) (fun kq => ?_)
                repeat (quiet_step (first | (with_reducible exact Calls.regrown_of (OR.out _))))
                clear kq
                refine wpQuiet_nil ?_; intro w4 hb4; (repeat (with_reducible (replace hb4 := Below.undrew hb4))); obtain ⟨hc4, hf4⟩ := bcell hb4; have hz4 := hb4.size; (repeat (first | rw [World.size_alloc] at hz4 | rw [World.size_drew] at hz4 | rw [World.size_setCell] at hz4)); (try have : wr.heap.size < w4.heap.size := by omega); (try have : wr.heap.size < w4.heap.size + 1 := by omega); (try have : wr.heap.size < w4.heap.size + 1 + 1 := by omega); (try have : wr.heap.size < w4.heap.size + 1 + 1 + 1 := by omega); (try have : wr.heap.size + 1 < w4.heap.size := by omega); (try have : wr.heap.size + 1 < w4.heap.size + 1 := by omega); (try have : wr.heap.size + 1 < w4.heap.size + 1 + 1 := by omega); (try have : wr.heap.size + 1 < w4.heap.size + 1 + 1 + 1 := by omega)
                go_wp2_with fail
                go_meet
                exact ⟨sd, rfl, HSD, sd1, sd2, hb4⟩)
        case rest =>
          obtain ⟨sd, rfl, HSD, sd1, sd2, HBX⟩ := hcut
          obtain ⟨X, hX⟩ : ∃ X, X = wc := ⟨_, rfl⟩
          subst hX
          have HOX := Lib.hid (HO.out.below HBX.out)
          have hzx := HOX.out.bl.size
          clear HO HBX
          rcases HSD.out with ⟨h, x, hx, hxy⟩ | ⟨h, y, hy, hyx⟩ | ⟨h, x, y, hx, hy, e1, e2⟩
          · obtain ⟨hmg, hno⟩ := HS.out.mg.left HL.out HM.out hx hxy
            have hla1 : 0 < la := by have := (List.getElem?_eq_some_iff.1 hx).1; have := HS.out.il; omega
            first
            | (exfalso; omega)
            | (
              obtain ⟨g1, o1, rfl, hg1, c0', c1', c2', c3', _⟩ := Sl.first HS.out.sa HOX.out.bl hx
              obtain ⟨a2', c2'', htl, hsl⟩ := route_tail HS.out.sa hla1
              have HCS := Lib.hid (cutsOf_snoc M hx)
              rw [if_pos hno] at HCS
              have HLC := Lib.hid (show (cutsOf (L.take i) M).length < 60 by
                have := (cuts_len (M := M) i l60).1
                have := (List.getElem?_eq_some_iff.1 hx).1
                omega)
              have HS2 := Lib.hid (show OfSt w L M (i + 1) j a2' (la - 1) c2'' b0 lb d0 from ⟨by have := HS.out.il; omega, HS.out.jm, hmg, by
                have := hsl
                rw [List.drop_drop] at this
                exact this, HS.out.sb⟩)
              clear hx hxy hmg hno hsl HSD HS
              generalize cutsOf (L.take i) M = cs at *
              have hs1 : decide (sd < 0) = true := decide_eq_true h
              go_wp2_with (at_builtin; refine stop_at ?_; intro G hG)
              rw [← hG.out]; clear hG G
              refine wpList_append_at rfl _ _ 39 32 9 72 _ rfl eiAct w.heap.size u5 (cs.map actCells) rfl (HOX.out.oc.alloc _) _ [actCells (cutAct x)] rfl (sl_new (c := actCells (cutAct x)) (by simp) rfl) (by intro c hc; simp at hc; subst hc; exact actCells_one _) (by have := HLC.out; simp; omega) (by decide) (by simp; omega) (by simp) ?_
              intro v' w5 hown' hgr hb5 hat
              have HO5 := Lib.hid (OfOwn.cut (HOX.out.below ((Below.refl _ _).alloc (Nat.le_refl _) _)) HLC.out hgr hown' hb5 hat)
              clear hown' hgr hb5 hat
              go_wp2_with fail
              go_roundw
              case rel => exact ⟨i + 1, j, la - 1, lb, a2', c2'', b0, d0, rfl, rfl, HS2, by omega, hlb, by rw [HCS.out]; exact HO5⟩
              case measure => simp [lenOfV]; omega)
          · obtain ⟨hmg, hno⟩ := HS.out.mg.swap.left HM.out HL.out hy hyx
            have hlb1 : 0 < lb := by have := (List.getElem?_eq_some_iff.1 hy).1; have := HS.out.jm; omega
            obtain ⟨g2, o2, rfl, hg2, e0, e1, e2, e3, e4⟩ := Sl.first HS.out.sb HOX.out.bl hy
            obtain ⟨b2', d2'', htl, hsl⟩ := route_tail HS.out.sb hlb1
            have HPS := Lib.hid (putsOf_snoc L hy)
            have hy0 := HM.out.hops y (List.mem_of_getElem? hy)
            rw [hno, if_pos (fun e => hy0 e.symm)] at HPS
            have HLP := Lib.hid (show (putsOf L (M.take j)).length < 60 by
              have := (puts_len (L := L) j m60).1
              have := (List.getElem?_eq_some_iff.1 hy).1
              omega)
            have HS2 := Lib.hid (show OfSt w L M i (j + 1) a0 la c0 b2' (lb - 1) d2'' from ⟨HS.out.il, by have := HS.out.jm; omega, hmg.swap, HS.out.sa, by
              have := hsl
              rw [List.drop_drop] at this
              exact this⟩)
            clear hy hyx hmg hno hsl HSD HS hy0
            generalize putsOf L (M.take j) = ps at *
            have hs1 : decide (sd < 0) = false := decide_eq_false (by omega)
            have hs2 : decide (0 < sd) = true := decide_eq_true h
            have hs3 : (sd == 0) = false := by rw [beq_eq_false_iff_ne]; omega
            go_wp2_with fail
            go_quiet (fail)
            generalize hZ : X.drewN _ = Z
            have HOZ := Lib.hid (show OfOwn w Z (cutsOf (L.take i) M) ps u5 u6 from by rw [← hZ]; exact HOX.out.below (below_drewN (Below.refl _ _) _))
            have f0 : Z.cell? ⟨g2, o2, none⟩ = some (.bool false) := by rw [← hZ, World.cell?_drewN]; exact e0
            have f1 : Z.cell? ⟨g2, o2 + 1, none⟩ = some (.int .u64 (hiOf false y.1)) := by rw [← hZ, World.cell?_drewN]; exact e1
            have f2 : Z.cell? ⟨g2, o2 + 2, none⟩ = some (.int .u64 (loOf y.1)) := by rw [← hZ, World.cell?_drewN]; exact e2
            have f3 : Z.cell? ⟨g2, o2 + 3, none⟩ = some (.int .i64 y.2.1) := by rw [← hZ, World.cell?_drewN]; exact e3
            have f4 : Z.cell? ⟨g2, o2 + 4, none⟩ = some (.int .i64 y.2.2) := by rw [← hZ, World.cell?_drewN]; exact e4
            have hzz := HOZ.out.bl.size
            clear hZ e0 e1 e2 e3 e4 HOX hzx
            go_upto_region 13 with fail
            refine wp_region_held_drew (S := (fun w' => Below w.heap.size Z w')) (by kernel_rfl) ?_ (fun hHeld => ?_)
            · ((try dsimp only); (repeat' (first | (with_reducible exact Below.refl _ _) | (with_reducible assumption) | (with_reducible refine Below.alloc ?_ ?_ _) | (with_reducible refine Below.drew ?_) | (with_reducible refine Below.stepG ?_ (by assumption) ?_) | (with_reducible refine Below.setCell ?_ ?_ _) | omega | (dsimp only; omega) | (simp; done) | (simp; omega))))
            (refine wpAnyH_take (i := 0) (oi := _) (v := ?_) (by simp only [List.getElem?_toArray, List.getElem?_cons_zero, List.getElem?_cons_succ]; rfl) (by kernel_rfl) (by decide +kernel) (by decide +kernel) (by exact fun _ _ _ h => h) (Or.inl ⟨by rfl, ?_⟩) (by assumption) ?_; rotate_left; (· ((intro w hSw); (have hSc := Below.cellAt hSw); clear hSw; go_simp; (try with_reducible rfl))); (try simp only [Act.put, List.setIfInBounds_toArray, List.set_cons_zero, List.set_cons_succ]))
            (refine wpAnyH_take (i := 1) (oi := _) (v := ?_) (by simp only [List.getElem?_toArray, List.getElem?_cons_zero, List.getElem?_cons_succ]; rfl) (by kernel_rfl) (by decide +kernel) (by decide +kernel) (by exact fun _ _ _ h => h) (Or.inl ⟨by rfl, ?_⟩) (by assumption) ?_; rotate_left; (· ((intro w hSw); (have hSc := Below.cellAt hSw); clear hSw; go_simp; (try with_reducible rfl))); (try simp only [Act.put, List.setIfInBounds_toArray, List.set_cons_zero, List.set_cons_succ]))
            (refine wpAnyH_take (i := 2) (oi := _) (v := ?_) (by simp only [List.getElem?_toArray, List.getElem?_cons_zero, List.getElem?_cons_succ]; rfl) (by kernel_rfl) (by decide +kernel) (by decide +kernel) (by exact fun _ _ _ h => h) (Or.inl ⟨by rfl, ?_⟩) (by assumption) ?_; rotate_left; (· ((intro w hSw); (have hSc := Below.cellAt hSw); clear hSw; go_simp; (try with_reducible rfl))); (try simp only [Act.put, List.setIfInBounds_toArray, List.set_cons_zero, List.set_cons_succ]))
            (refine wpAnyH_take (i := 3) (oi := _) (v := ?_) (by simp only [List.getElem?_toArray, List.getElem?_cons_zero, List.getElem?_cons_succ]; rfl) (by kernel_rfl) (by decide +kernel) (by decide +kernel) (by exact fun _ _ _ h => h) (Or.inl ⟨by rfl, ?_⟩) (by assumption) ?_; rotate_left; (· ((intro w hSw); (have hSc := Below.cellAt hSw); clear hSw; go_simp; (try with_reducible rfl))); (try simp only [Act.put, List.setIfInBounds_toArray, List.set_cons_zero, List.set_cons_succ]))
            (refine wpAnyH_take (i := 4) (oi := _) (v := ?_) (by simp only [List.getElem?_toArray, List.getElem?_cons_zero, List.getElem?_cons_succ]; rfl) (by kernel_rfl) (by decide +kernel) (by decide +kernel) (by exact fun _ _ _ h => h) (Or.inl ⟨by rfl, ?_⟩) (by assumption) ?_; rotate_left; (· ((intro w hSw); (have hSc := Below.cellAt hSw); clear hSw; go_simp; (try with_reducible rfl))); (try simp only [Act.put, List.setIfInBounds_toArray, List.set_cons_zero, List.set_cons_succ]))
            (refine wpAnyH_take (i := 5) (oi := _) (v := ?_) (by simp only [List.getElem?_toArray, List.getElem?_cons_zero, List.getElem?_cons_succ]; rfl) (by kernel_rfl) (by decide +kernel) (by decide +kernel) (by exact fun _ _ _ h => h) (Or.inl ⟨by rfl, ?_⟩) (by assumption) ?_; rotate_left; (· ((intro w hSw); (have hSc := Below.cellAt hSw); clear hSw; go_simp; (try with_reducible rfl))); (try simp only [Act.put, List.setIfInBounds_toArray, List.set_cons_zero, List.set_cons_succ]))
            (refine wpAnyH_take (i := 6) (oi := _) (v := ?_) (by simp only [List.getElem?_toArray, List.getElem?_cons_zero, List.getElem?_cons_succ]; rfl) (by kernel_rfl) (by decide +kernel) (by decide +kernel) (by exact fun _ _ _ h => h) (Or.inl ⟨by rfl, ?_⟩) (by assumption) ?_; rotate_left; (· ((intro w hSw); (have hSc := Below.cellAt hSw); clear hSw; go_simp; (try with_reducible rfl))); (try simp only [Act.put, List.setIfInBounds_toArray, List.set_cons_zero, List.set_cons_succ]))
            (refine wpAnyH_take (i := 7) (oi := _) (v := ?_) (by simp only [List.getElem?_toArray, List.getElem?_cons_zero, List.getElem?_cons_succ]; rfl) (by kernel_rfl) (by decide +kernel) (by decide +kernel) (by exact fun _ _ _ h => h) (Or.inl ⟨by rfl, ?_⟩) (by assumption) ?_; rotate_left; (· ((intro w hSw); (have hSc := Below.cellAt hSw); clear hSw; go_simp; (try with_reducible rfl))); (try simp only [Act.put, List.setIfInBounds_toArray, List.set_cons_zero, List.set_cons_succ]))
            (refine wpAnyH_take (i := 8) (oi := _) (v := ?_) (by simp only [List.getElem?_toArray, List.getElem?_cons_zero, List.getElem?_cons_succ]; rfl) (by kernel_rfl) (by decide +kernel) (by decide +kernel) (by exact fun _ _ _ h => h) (Or.inl ⟨by rfl, ?_⟩) (by assumption) ?_; rotate_left; (· ((intro w hSw); (have hSc := Below.cellAt hSw); clear hSw; go_simp; (try with_reducible rfl))); (try simp only [Act.put, List.setIfInBounds_toArray, List.set_cons_zero, List.set_cons_succ]))
            (refine wpAnyH_take (i := 9) (oi := _) (v := ?_) (by simp only [List.getElem?_toArray, List.getElem?_cons_zero, List.getElem?_cons_succ]; rfl) (by kernel_rfl) (by decide +kernel) (by decide +kernel) (by exact fun _ _ _ h => h) (Or.inl ⟨by rfl, ?_⟩) (by assumption) ?_; rotate_left; (· ((intro w hSw); (have hSc := Below.cellAt hSw); clear hSw; go_simp; (try with_reducible rfl))); (try simp only [Act.put, List.setIfInBounds_toArray, List.set_cons_zero, List.set_cons_succ]))
            repeat' (first
              | (refine wpAnyH_take (i := 12) (oi := _) (v := ?_) (by simp only [List.getElem?_toArray, List.getElem?_cons_zero, List.getElem?_cons_succ]; rfl) (by kernel_rfl) (by decide +kernel) (by decide +kernel) (by exact fun _ _ _ h => h) (Or.inl ⟨by rfl, ?_⟩) (by assumption) ?_; rotate_left; (· ((intro w hSw); (have hSc := Below.cellAt hSw); clear hSw; go_simp; (try with_reducible rfl))); (try simp only [Act.put, List.setIfInBounds_toArray, List.set_cons_zero, List.set_cons_succ]))
              | (refine wpAnyH_ready (rs := [10]) (by decide +kernel) (by simp) (AllReadyH.cons (by simp only [List.getElem?_toArray, List.getElem?_cons_zero, List.getElem?_cons_succ]; rfl) (fun K hK => ?_) AllReadyH.nil); all_goals ((first | (refine step_append_at rfl (.tmp 58) (.tmp 68) 39 32 9 72 _ rfl eiAct w.heap.size u6 (ps.map actCells) rfl ((HOZ.out.op.dr).alloc _) (.slice (some ⟨_, 0, none⟩) 1 1) [actCells (putAct y)] rfl (sl_new (c := actCells (putAct y)) (by first | rfl | simp) rfl) (by intro c hc; simp at hc; subst hc; exact actCells_one _) (by have := HLP.out; simp; omega) (by decide) (by simp; omega) (by simp) ?_; intro vC wC hownC hgrC hbC hatC) | (go_simp; (first | fail | skip))); (refine hK.out _ _ ?_ (fun hHeld => ?_)); (· ((try dsimp only); (repeat' (first | (with_reducible exact Below.refl _ _) | (with_reducible assumption) | (with_reducible refine Below.alloc ?_ ?_ _) | (with_reducible refine Below.drew ?_) | (with_reducible refine Below.stepG ?_ (by assumption) ?_) | (with_reducible refine Below.setCell ?_ ?_ _) | omega | (dsimp only; omega) | (simp; done) | (simp; omega))))); (clear hK K; (try simp only [Act.put, List.setIfInBounds_toArray, List.set_cons_zero, List.set_cons_succ]))))
              | (refine wpAnyH_ready (rs := [11]) (by decide +kernel) (by simp) (AllReadyH.cons (by simp only [List.getElem?_toArray, List.getElem?_cons_zero, List.getElem?_cons_succ]; rfl) (fun K hK => ?_) AllReadyH.nil); all_goals ((first | (refine step_append_at rfl (.tmp 58) (.tmp 68) 39 32 9 72 _ rfl eiAct w.heap.size u6 (ps.map actCells) rfl ((HOZ.out.op.dr).alloc _) (.slice (some ⟨_, 0, none⟩) 1 1) [actCells (putAct y)] rfl (sl_new (c := actCells (putAct y)) (by first | rfl | simp) rfl) (by intro c hc; simp at hc; subst hc; exact actCells_one _) (by have := HLP.out; simp; omega) (by decide) (by simp; omega) (by simp) ?_; intro vC wC hownC hgrC hbC hatC) | (go_simp; (first | fail | skip))); (refine hK.out _ _ ?_ (fun hHeld => ?_)); (· ((try dsimp only); (repeat' (first | (with_reducible exact Below.refl _ _) | (with_reducible assumption) | (with_reducible refine Below.alloc ?_ ?_ _) | (with_reducible refine Below.drew ?_) | (with_reducible refine Below.stepG ?_ (by assumption) ?_) | (with_reducible refine Below.setCell ?_ ?_ _) | omega | (dsimp only; omega) | (simp; done) | (simp; omega))))); (clear hK K; (try simp only [Act.put, List.setIfInBounds_toArray, List.set_cons_zero, List.set_cons_succ]))))
              | (refine wpAnyH_ready (rs := [12]) (by decide +kernel) (by simp) (AllReadyH.cons (by simp only [List.getElem?_toArray, List.getElem?_cons_zero, List.getElem?_cons_succ]; rfl) (fun K hK => ?_) AllReadyH.nil); all_goals ((first | (refine step_append_at rfl (.tmp 58) (.tmp 68) 39 32 9 72 _ rfl eiAct w.heap.size u6 (ps.map actCells) rfl ((HOZ.out.op.dr).alloc _) (.slice (some ⟨_, 0, none⟩) 1 1) [actCells (putAct y)] rfl (sl_new (c := actCells (putAct y)) (by first | rfl | simp) rfl) (by intro c hc; simp at hc; subst hc; exact actCells_one _) (by have := HLP.out; simp; omega) (by decide) (by simp; omega) (by simp) ?_; intro vC wC hownC hgrC hbC hatC) | (go_simp; (first | fail | skip))); (refine hK.out _ _ ?_ (fun hHeld => ?_)); (· ((try dsimp only); (repeat' (first | (with_reducible exact Below.refl _ _) | (with_reducible assumption) | (with_reducible refine Below.alloc ?_ ?_ _) | (with_reducible refine Below.drew ?_) | (with_reducible refine Below.stepG ?_ (by assumption) ?_) | (with_reducible refine Below.setCell ?_ ?_ _) | omega | (dsimp only; omega) | (simp; done) | (simp; omega))))); (clear hK K; (try simp only [Act.put, List.setIfInBounds_toArray, List.set_cons_zero, List.set_cons_succ]))))
              | (refine wpAnyH_done (by decide +kernel) ?_ _)
              | fail)
            have HO5 := Lib.hid (OfOwn.put (x := putAct y) (HOZ.out.below (((Below.refl _ _).drew).alloc (by simp) _)) HLP.out hgrC hownC hbC hatC)
            clear hownC hgrC hbC hatC
            go_wp2_with fail
            go_roundw
            case rel => exact ⟨i, j + 1, la, lb - 1, a0, c0, b2', d2'', (by first | rfl | rw [show la = 0 by omega]), rfl, HS2, hla, by omega, by rw [HPS.out]; exact HO5⟩
            case measure => simp [lenOfV]; omega
          · subst h
            have e12 : x.1 = y.1 ∧ x.2.1 = y.2.1 := ⟨e1, e2⟩
            obtain ⟨hmg, hno, hny, hy0⟩ := HS.out.mg.both HL.out HM.out hx hy e12
            have hla1 : 0 < la := by have := (List.getElem?_eq_some_iff.1 hx).1; have := HS.out.il; omega
            have hlb1 : 0 < lb := by have := (List.getElem?_eq_some_iff.1 hy).1; have := HS.out.jm; omega
            first
            | (exfalso; omega)
            | (
              obtain ⟨g1, o1, rfl, hg1, c0', c1', c2', c3', c4'⟩ := Sl.first HS.out.sa HOX.out.bl hx
              obtain ⟨g2, o2, rfl, hg2, e0, e1', e2', e3, e4⟩ := Sl.first HS.out.sb HOX.out.bl hy
              obtain ⟨a2', c2'', htla, hsla⟩ := route_tail HS.out.sa hla1
              obtain ⟨b2', d2'', htl, hsl⟩ := route_tail HS.out.sb hlb1
              have HPS := Lib.hid (putsOf_snoc L hy)
              have HCS := Lib.hid (cutsOf_snoc M hx)
              rw [hny] at HPS
              rw [if_neg (by rw [hno]; exact hy0), List.append_nil] at HCS
              have HLP := Lib.hid (show (putsOf L (M.take j)).length < 60 by
                have := (puts_len (L := L) j m60).1
                have := (List.getElem?_eq_some_iff.1 hy).1
                omega)
              have HS2 := Lib.hid (show OfSt w L M (i + 1) (j + 1) a2' (la - 1) c2'' b2' (lb - 1) d2'' from ⟨by have := HS.out.il; omega, by have := HS.out.jm; omega, hmg, by
                have := hsla
                rw [List.drop_drop] at this
                exact this, by
                have := hsl
                rw [List.drop_drop] at this
                exact this⟩)
              clear hx hy hmg hno hny hsl hsla HSD HS hy0 e12 e1 e2
              generalize putsOf L (M.take j) = ps at *
              by_cases hh : x.2.2 = y.2.2
              · rw [if_neg (fun h => h hh), List.append_nil] at HPS
                have hd : ((x.2.2 : Int) != y.2.2) = false := by rw [bne_eq_false_iff_eq]; omega
                rw [hh] at c4'
                clear hh
                go_wp2_with fail
                go_quiet (fail)
                generalize hZ : X.drewN _ = Z
                have HOZ := Lib.hid (show OfOwn w Z (cutsOf (L.take i) M) ps u5 u6 from by rw [← hZ]; exact HOX.out.below (below_drewN (Below.refl _ _) _))
                clear hZ c0' c1' c2' c3' c4' e0 e1' e2' e3 e4
                go_wp2_with fail
                go_roundw
                case rel => exact ⟨i + 1, j + 1, la - 1, lb - 1, a2', c2'', b2', d2'', rfl, rfl, HS2, by omega, by omega, by rw [HPS.out, HCS.out]; exact HOZ.out⟩
                case measure => simp [lenOfV]; omega
              · rw [if_pos hh] at HPS
                have hd : ((x.2.2 : Int) != y.2.2) = true := by rw [bne_iff_ne]; omega
                have hd' : ¬ ((x.2.2 : Int) = y.2.2) := by omega
                clear hh
                go_wp2_with fail
                go_quiet (fail)
                generalize hZ : X.drewN _ = Z
                have HOZ := Lib.hid (show OfOwn w Z (cutsOf (L.take i) M) ps u5 u6 from by rw [← hZ]; exact HOX.out.below (below_drewN (Below.refl _ _) _))
                have f0 : Z.cell? ⟨g2, o2, none⟩ = some (.bool false) := by rw [← hZ, World.cell?_drewN]; exact e0
                have f1 : Z.cell? ⟨g2, o2 + 1, none⟩ = some (.int .u64 (hiOf false y.1)) := by rw [← hZ, World.cell?_drewN]; exact e1'
                have f2 : Z.cell? ⟨g2, o2 + 2, none⟩ = some (.int .u64 (loOf y.1)) := by rw [← hZ, World.cell?_drewN]; exact e2'
                have f3 : Z.cell? ⟨g2, o2 + 3, none⟩ = some (.int .i64 y.2.1) := by rw [← hZ, World.cell?_drewN]; exact e3
                have f4 : Z.cell? ⟨g2, o2 + 4, none⟩ = some (.int .i64 y.2.2) := by rw [← hZ, World.cell?_drewN]; exact e4
                have hzz := HOZ.out.bl.size
                clear hZ c0' c1' c2' c3' c4' e0 e1' e2' e3 e4 HOX hzx hd hd'
                go_upto_region 13 with fail
                refine wp_region_held_drew (S := (fun w' => Below w.heap.size Z w')) (by kernel_rfl) ?_ (fun hHeld => ?_)
                · ((try dsimp only); (repeat' (first | (with_reducible exact Below.refl _ _) | (with_reducible assumption) | (with_reducible refine Below.alloc ?_ ?_ _) | (with_reducible refine Below.drew ?_) | (with_reducible refine Below.stepG ?_ (by assumption) ?_) | (with_reducible refine Below.setCell ?_ ?_ _) | omega | (dsimp only; omega) | (simp; done) | (simp; omega))))
                (refine wpAnyH_take (i := 0) (oi := _) (v := ?_) (by simp only [List.getElem?_toArray, List.getElem?_cons_zero, List.getElem?_cons_succ]; rfl) (by kernel_rfl) (by decide +kernel) (by decide +kernel) (by exact fun _ _ _ h => h) (Or.inl ⟨by rfl, ?_⟩) (by assumption) ?_; rotate_left; (· ((intro w hSw); (have hSc := Below.cellAt hSw); clear hSw; go_simp; (try with_reducible rfl))); (try simp only [Act.put, List.setIfInBounds_toArray, List.set_cons_zero, List.set_cons_succ]))
                (refine wpAnyH_take (i := 1) (oi := _) (v := ?_) (by simp only [List.getElem?_toArray, List.getElem?_cons_zero, List.getElem?_cons_succ]; rfl) (by kernel_rfl) (by decide +kernel) (by decide +kernel) (by exact fun _ _ _ h => h) (Or.inl ⟨by rfl, ?_⟩) (by assumption) ?_; rotate_left; (· ((intro w hSw); (have hSc := Below.cellAt hSw); clear hSw; go_simp; (try with_reducible rfl))); (try simp only [Act.put, List.setIfInBounds_toArray, List.set_cons_zero, List.set_cons_succ]))
                (refine wpAnyH_take (i := 2) (oi := _) (v := ?_) (by simp only [List.getElem?_toArray, List.getElem?_cons_zero, List.getElem?_cons_succ]; rfl) (by kernel_rfl) (by decide +kernel) (by decide +kernel) (by exact fun _ _ _ h => h) (Or.inl ⟨by rfl, ?_⟩) (by assumption) ?_; rotate_left; (· ((intro w hSw); (have hSc := Below.cellAt hSw); clear hSw; go_simp; (try with_reducible rfl))); (try simp only [Act.put, List.setIfInBounds_toArray, List.set_cons_zero, List.set_cons_succ]))
                (refine wpAnyH_take (i := 3) (oi := _) (v := ?_) (by simp only [List.getElem?_toArray, List.getElem?_cons_zero, List.getElem?_cons_succ]; rfl) (by kernel_rfl) (by decide +kernel) (by decide +kernel) (by exact fun _ _ _ h => h) (Or.inl ⟨by rfl, ?_⟩) (by assumption) ?_; rotate_left; (· ((intro w hSw); (have hSc := Below.cellAt hSw); clear hSw; go_simp; (try with_reducible rfl))); (try simp only [Act.put, List.setIfInBounds_toArray, List.set_cons_zero, List.set_cons_succ]))
                (refine wpAnyH_take (i := 4) (oi := _) (v := ?_) (by simp only [List.getElem?_toArray, List.getElem?_cons_zero, List.getElem?_cons_succ]; rfl) (by kernel_rfl) (by decide +kernel) (by decide +kernel) (by exact fun _ _ _ h => h) (Or.inl ⟨by rfl, ?_⟩) (by assumption) ?_; rotate_left; (· ((intro w hSw); (have hSc := Below.cellAt hSw); clear hSw; go_simp; (try with_reducible rfl))); (try simp only [Act.put, List.setIfInBounds_toArray, List.set_cons_zero, List.set_cons_succ]))
                (refine wpAnyH_take (i := 5) (oi := _) (v := ?_) (by simp only [List.getElem?_toArray, List.getElem?_cons_zero, List.getElem?_cons_succ]; rfl) (by kernel_rfl) (by decide +kernel) (by decide +kernel) (by exact fun _ _ _ h => h) (Or.inl ⟨by rfl, ?_⟩) (by assumption) ?_; rotate_left; (· ((intro w hSw); (have hSc := Below.cellAt hSw); clear hSw; go_simp; (try with_reducible rfl))); (try simp only [Act.put, List.setIfInBounds_toArray, List.set_cons_zero, List.set_cons_succ]))
                (refine wpAnyH_take (i := 6) (oi := _) (v := ?_) (by simp only [List.getElem?_toArray, List.getElem?_cons_zero, List.getElem?_cons_succ]; rfl) (by kernel_rfl) (by decide +kernel) (by decide +kernel) (by exact fun _ _ _ h => h) (Or.inl ⟨by rfl, ?_⟩) (by assumption) ?_; rotate_left; (· ((intro w hSw); (have hSc := Below.cellAt hSw); clear hSw; go_simp; (try with_reducible rfl))); (try simp only [Act.put, List.setIfInBounds_toArray, List.set_cons_zero, List.set_cons_succ]))
                (refine wpAnyH_take (i := 7) (oi := _) (v := ?_) (by simp only [List.getElem?_toArray, List.getElem?_cons_zero, List.getElem?_cons_succ]; rfl) (by kernel_rfl) (by decide +kernel) (by decide +kernel) (by exact fun _ _ _ h => h) (Or.inl ⟨by rfl, ?_⟩) (by assumption) ?_; rotate_left; (· ((intro w hSw); (have hSc := Below.cellAt hSw); clear hSw; go_simp; (try with_reducible rfl))); (try simp only [Act.put, List.setIfInBounds_toArray, List.set_cons_zero, List.set_cons_succ]))
                (refine wpAnyH_take (i := 8) (oi := _) (v := ?_) (by simp only [List.getElem?_toArray, List.getElem?_cons_zero, List.getElem?_cons_succ]; rfl) (by kernel_rfl) (by decide +kernel) (by decide +kernel) (by exact fun _ _ _ h => h) (Or.inl ⟨by rfl, ?_⟩) (by assumption) ?_; rotate_left; (· ((intro w hSw); (have hSc := Below.cellAt hSw); clear hSw; go_simp; (try with_reducible rfl))); (try simp only [Act.put, List.setIfInBounds_toArray, List.set_cons_zero, List.set_cons_succ]))
                (refine wpAnyH_take (i := 9) (oi := _) (v := ?_) (by simp only [List.getElem?_toArray, List.getElem?_cons_zero, List.getElem?_cons_succ]; rfl) (by kernel_rfl) (by decide +kernel) (by decide +kernel) (by exact fun _ _ _ h => h) (Or.inl ⟨by rfl, ?_⟩) (by assumption) ?_; rotate_left; (· ((intro w hSw); (have hSc := Below.cellAt hSw); clear hSw; go_simp; (try with_reducible rfl))); (try simp only [Act.put, List.setIfInBounds_toArray, List.set_cons_zero, List.set_cons_succ]))
                repeat' (first
                  | (refine wpAnyH_take (i := 12) (oi := _) (v := ?_) (by simp only [List.getElem?_toArray, List.getElem?_cons_zero, List.getElem?_cons_succ]; rfl) (by kernel_rfl) (by decide +kernel) (by decide +kernel) (by exact fun _ _ _ h => h) (Or.inl ⟨by rfl, ?_⟩) (by assumption) ?_; rotate_left; (· ((intro w hSw); (have hSc := Below.cellAt hSw); clear hSw; go_simp; (try with_reducible rfl))); (try simp only [Act.put, List.setIfInBounds_toArray, List.set_cons_zero, List.set_cons_succ]))
                  | (refine wpAnyH_ready (rs := [10]) (by decide +kernel) (by simp) (AllReadyH.cons (by simp only [List.getElem?_toArray, List.getElem?_cons_zero, List.getElem?_cons_succ]; rfl) (fun K hK => ?_) AllReadyH.nil); all_goals ((first | (refine step_append_at rfl (.tmp 58) (.tmp 68) 39 32 9 72 _ rfl eiAct w.heap.size u6 (ps.map actCells) rfl ((HOZ.out.op.dr).alloc _) (.slice (some ⟨_, 0, none⟩) 1 1) [actCells (putAct y)] rfl (sl_new (c := actCells (putAct y)) (by first | rfl | simp) rfl) (by intro c hc; simp at hc; subst hc; exact actCells_one _) (by have := HLP.out; simp; omega) (by decide) (by simp; omega) (by simp) ?_; intro vC wC hownC hgrC hbC hatC) | (go_simp; (first | fail | skip))); (refine hK.out _ _ ?_ (fun hHeld => ?_)); (· ((try dsimp only); (repeat' (first | (with_reducible exact Below.refl _ _) | (with_reducible assumption) | (with_reducible refine Below.alloc ?_ ?_ _) | (with_reducible refine Below.drew ?_) | (with_reducible refine Below.stepG ?_ (by assumption) ?_) | (with_reducible refine Below.setCell ?_ ?_ _) | omega | (dsimp only; omega) | (simp; done) | (simp; omega))))); (clear hK K; (try simp only [Act.put, List.setIfInBounds_toArray, List.set_cons_zero, List.set_cons_succ]))))
                  | (refine wpAnyH_ready (rs := [11]) (by decide +kernel) (by simp) (AllReadyH.cons (by simp only [List.getElem?_toArray, List.getElem?_cons_zero, List.getElem?_cons_succ]; rfl) (fun K hK => ?_) AllReadyH.nil); all_goals ((first | (refine step_append_at rfl (.tmp 58) (.tmp 68) 39 32 9 72 _ rfl eiAct w.heap.size u6 (ps.map actCells) rfl ((HOZ.out.op.dr).alloc _) (.slice (some ⟨_, 0, none⟩) 1 1) [actCells (putAct y)] rfl (sl_new (c := actCells (putAct y)) (by first | rfl | simp) rfl) (by intro c hc; simp at hc; subst hc; exact actCells_one _) (by have := HLP.out; simp; omega) (by decide) (by simp; omega) (by simp) ?_; intro vC wC hownC hgrC hbC hatC) | (go_simp; (first | fail | skip))); (refine hK.out _ _ ?_ (fun hHeld => ?_)); (· ((try dsimp only); (repeat' (first | (with_reducible exact Below.refl _ _) | (with_reducible assumption) | (with_reducible refine Below.alloc ?_ ?_ _) | (with_reducible refine Below.drew ?_) | (with_reducible refine Below.stepG ?_ (by assumption) ?_) | (with_reducible refine Below.setCell ?_ ?_ _) | omega | (dsimp only; omega) | (simp; done) | (simp; omega))))); (clear hK K; (try simp only [Act.put, List.setIfInBounds_toArray, List.set_cons_zero, List.set_cons_succ]))))
                  | (refine wpAnyH_ready (rs := [12]) (by decide +kernel) (by simp) (AllReadyH.cons (by simp only [List.getElem?_toArray, List.getElem?_cons_zero, List.getElem?_cons_succ]; rfl) (fun K hK => ?_) AllReadyH.nil); all_goals ((first | (refine step_append_at rfl (.tmp 58) (.tmp 68) 39 32 9 72 _ rfl eiAct w.heap.size u6 (ps.map actCells) rfl ((HOZ.out.op.dr).alloc _) (.slice (some ⟨_, 0, none⟩) 1 1) [actCells (putAct y)] rfl (sl_new (c := actCells (putAct y)) (by first | rfl | simp) rfl) (by intro c hc; simp at hc; subst hc; exact actCells_one _) (by have := HLP.out; simp; omega) (by decide) (by simp; omega) (by simp) ?_; intro vC wC hownC hgrC hbC hatC) | (go_simp; (first | fail | skip))); (refine hK.out _ _ ?_ (fun hHeld => ?_)); (· ((try dsimp only); (repeat' (first | (with_reducible exact Below.refl _ _) | (with_reducible assumption) | (with_reducible refine Below.alloc ?_ ?_ _) | (with_reducible refine Below.drew ?_) | (with_reducible refine Below.stepG ?_ (by assumption) ?_) | (with_reducible refine Below.setCell ?_ ?_ _) | omega | (dsimp only; omega) | (simp; done) | (simp; omega))))); (clear hK K; (try simp only [Act.put, List.setIfInBounds_toArray, List.set_cons_zero, List.set_cons_succ]))))
                  | (refine wpAnyH_done (by decide +kernel) ?_ _)
                  | fail)
                have HO5 := Lib.hid (OfOwn.put (x := putAct y) (HOZ.out.below (((Below.refl _ _).drew).alloc (by simp) _)) HLP.out hgrC hownC hbC hatC)
                clear hownC hgrC hbC hatC
                go_wp2_with fail
                go_roundw
                case rel => exact ⟨i + 1, j + 1, la - 1, lb - 1, a2', c2'', b2', d2'', rfl, rfl, HS2, by omega, by omega, by rw [HPS.out, HCS.out]; exact HO5⟩
                case measure => simp [lenOfV]; omega)
end Go.Proofs.Ytoecmoicaklbaaa

/- Contracts: delta.Diff, delta.Apply. -/
set_option linter.unusedVariables false
set_option linter.unusedSimpArgs false
namespace Go.Proofs.Ytoecmoicaklbaaa
open Go Go.RowKit Go.Sort Wc Wk

theorem putAll_tab {l : List (Nat × Nat × Nat)} (h : RtOk l) : TabOk (putAll l) := by
  obtain ⟨s, hh, hm, hl⟩ := putAll_ok _ h rfl
  exact ⟨s, hh, fun x hx => h.vp x ((hm x).1 hx), fun x hx => h.hi x ((hm x).1 hx), by rw [hl]; exact h.len⟩

set_option maxRecDepth 100000 in
set_option maxHeartbeats 1000000 in
theorem ddiff_any (a : Option Addr) (ca n : Nat) (b : Option Addr) (cb m : Nat) (l k : List (Nat × Nat × Nat)) (w : World) (hn : n = l.length) (hm : m = k.length) (ha : Sl w 5 (.slice a n ca) (l.map routeCells)) (hb : Sl w 5 (.slice b m cb) (k.map routeCells)) (hl : RtOk l) (hk : RtOk k) :
    Calls Try.prog 23 #[.slice a n ca, .slice b m cb] w fun e w' => ∃ v, e = .returned (.tuple #[v, .int .i64 0]) ∧ Wk.Own w' w.heap.size 32 9 v ((diffL (putAll l) (putAll k)).map actCells) ∧ Below w.heap.size w w' := by
  have HN := Lib.hid hn
  have HM := Lib.hid hm
  have HA := Lib.hid ha
  have HB := Lib.hid hb
  have HL := Lib.hid hl
  have HK := Lib.hid hk
  clear hn hm ha hb hl hk
  go_enter Try.func23, Try.ntmps23
  go_wp2_with fail
  refine (new_any a ca n l w HN.out HA.out HL.out).mono ?_
  rintro e w1 ⟨t1, rfl, ht1⟩
  have hz1 := ht1.bel.size
  have HT1 := Lib.hid ht1
  clear ht1
  go_wp2_with fail
  refine (new_any b cb m k w1 HM.out (HB.out.below HT1.out.bel) HK.out).mono ?_
  rintro e w2 ⟨t2, rfl, ht2⟩
  have hz2 := ht2.bel.size
  have HT2 := Lib.hid ht2
  have HT12 := Lib.hid (HT1.out.below ht2.bel)
  clear ht2
  go_wp2_with fail
  refine (sorted_any HT12.out (putAll_tab HL.out).len).mono ?_
  rintro e w3 ⟨v3, rfl, ho3, hb3⟩
  have hz3 := hb3.size
  obtain ⟨a3, c3, rfl⟩ := ho3.shape
  rw [List.length_map] at ho3 ⊢
  have HO3 := Lib.hid ho3.sl
  have l31 := ho3.sl.lens.2.1
  have l32 := ho3.sl.lens.2.2
  have HT3 := Lib.hid (HT2.out.below hb3)
  have HW3 := Lib.hid (HT12.out.bel.trans (hb3.mono HT12.out.bel.size))
  clear ho3 hb3
  go_wp2_with fail
  refine (sorted_any HT3.out (putAll_tab HK.out).len).mono ?_
  rintro e w4 ⟨v4, rfl, ho4, hb4⟩
  have hz4 := hb4.size
  obtain ⟨a4, c4, rfl⟩ := ho4.shape
  rw [List.length_map] at ho4 ⊢
  have HO4 := Lib.hid ho4.sl
  have l41 := ho4.sl.lens.2.1
  have l42 := ho4.sl.lens.2.2
  have HO34 := Lib.hid (HO3.out.below hb4)
  have HW4 := Lib.hid (HW3.out.trans (hb4.mono HW3.out.size))
  clear ho4 hb4
  go_wp2_with fail
  refine (dof_any a3 c3 _ a4 c4 _ (putAll l) (putAll k) w4 rfl rfl HO34.out HO4.out (putAll_tab HL.out) (putAll_tab HK.out)).mono ?_
  rintro e w5 ⟨v5, rfl, ho5, hb5⟩
  obtain ⟨a5, c5, rfl⟩ := ho5.shape
  rw [List.length_map] at ho5 ⊢
  have HO5 := Lib.hid ho5
  have HB5 := Lib.hid hb5
  clear ho5 hb5
  go_wp2_with fail
  go_returns
  exact ⟨_, rfl, HO5.out.base HW4.out.size, HW4.out.trans (HB5.out.mono HW4.out.size)⟩


set_option maxRecDepth 100000 in
set_option maxHeartbeats 2000000 in
theorem dapply_any (a : Option Addr) (ca n : Nat) (b : Option Addr) (cb m : Nat) (l : List (Nat × Nat × Nat)) (q : List ActD) (w : World) (hn : n = l.length) (hm : m = q.length) (ha : Sl w 5 (.slice a n ca) (l.map routeCells)) (hb : Sl w 9 (.slice b m cb) (q.map actCells)) (hl : RtOk l)
    (hq : q.length ≤ 120) (hf : ∀ x ∈ q, x.fit ∧ (x.kind = 1 ∨ x.kind = 2)) (hok : AllOk (putAll l) q) :
    Calls Try.prog 24 #[.slice a n ca, .slice b m cb] w fun e w' => ∃ v, e = .returned (.tuple #[v, .int .i64 0]) ∧ Wk.Own w' w.heap.size 49 5 v ((tend (putAll l) q).map routeCells) ∧ Below w.heap.size w w' := by
  have HN := Lib.hid hn
  have HM := Lib.hid hm
  have HA := Lib.hid ha
  have HB := Lib.hid hb
  have HL := Lib.hid hl
  have HF := Lib.hid hf
  have HK := Lib.hid hok
  have hm120 : m ≤ 120 := by omega
  have d1 : decide ((120 : Int) < m) = false := by simp; omega
  have hlw1 := hb.lens.2.1
  have hlw2 := hb.lens.2.2
  clear hn hm ha hb hl hf hok
  go_enter Try.func24, Try.ntmps24
  go_wp2_with fail
  refine (new_any a ca n l w HN.out HA.out HL.out).mono ?_
  rintro e w1 ⟨tb, rfl, ht1⟩
  have hz1 := ht1.bel.size
  have HT1 := Lib.hid ht1
  clear ht1
  go_wp2_with fail
  go_loopw [26] (fun i wr => ∃ (k : Nat), k ≤ m ∧ i = .int .i64 k ∧ Hid (OwnTab w wr tb (tend (putAll l) (q.take k)))) (fun i _ => m - (intOf i).toNat)
  case atStart => exact ⟨0, Nat.zero_le _, rfl, HT1⟩
  case round =>
    obtain ⟨k, hk, rfl, HP⟩ := hrel
    have hzr := HP.out.bel.size
    by_cases hlt : k < m
    · obtain ⟨x, hx⟩ : ∃ x, q[k]? = some x := ⟨_, List.getElem?_eq_getElem (by rw [← HM.out]; exact hlt)⟩
      obtain ⟨g, off, rfl, hg, c0, c1, c2, c3, c4, c5, c6, c7, c8⟩ := Sl.act HB.out HP.out.bel hx
      have HX := Lib.hid (HF.out x (List.mem_of_getElem? hx))
      have HC := Lib.hid (HK.out.at hx)
      have HT := Lib.hid (show tend (putAll l) (q.take (k + 1)) = (tstep (tend (putAll l) (q.take k)) x).1 by rw [take_one hx, tend_app]; rfl)
      have H60 := Lib.hid (tend_ok (putAll_tab HL.out) (l := q.take k) (fun y hy => (HF.out y (List.mem_of_mem_take hy)).1)).len
      generalize tend (putAll l) (q.take k) = L0 at *
      have hYB : Below wr.heap.size wr (wr.alloc (.cells (actCells x).toArray 32)) := (Below.refl _ _).alloc (Nat.le_refl _) _
      have HPY := Lib.hid (HP.out.below hYB)
      have hkd : ((x.kind : Int) != 1) = false ∨ (((x.kind : Int) != 1) = true ∧ ((x.kind : Int) != 2) = false) := by
        rcases HX.out.2 with h | h
        · left; rw [h]; rfl
        · right; rw [h]; exact ⟨rfl, rfl⟩
      clear hx hYB
      rcases hkd with hk1 | ⟨hk1, hk2⟩
      all_goals
        go_wp2_with fail
        refine (OwnTab.act (x := x) HPY.out H60.out HX.out.1).mono ?_
        rintro e w2 ⟨rfl, hp2, hz2⟩
        rw [HC.out]
        have HP2 := Lib.hid hp2
        rw [← HT.out] at HP2
        have hz2' : wr.heap.size + 1 ≤ w2.heap.size := by simpa using hz2
        generalize (tstep L0 x).2.hop = h1
        generalize (tstep L0 x).2.len = h2
        clear hp2 hz2
        go_wp2_with fail
        go_roundw
        case rel => exact ⟨k + 1, by omega, by go_num, Lib.hid (HP2.out.below ((Below.refl _ _).alloc (Nat.le_refl _) _))⟩
        case measure => simp [intOf]; omega
    · obtain rfl : k = m := by omega
      rw [HM.out, List.take_of_length_le (Nat.le_refl _)] at HP
      have H60 := Lib.hid (tend_ok (putAll_tab HL.out) (l := q) (fun y hy => (HF.out y hy).1)).len
      go_wp2_with fail
      refine (sorted_any HP.out H60.out).mono ?_
      rintro e w5 ⟨v5, rfl, ho5, hb5⟩
      obtain ⟨a5, c5, rfl⟩ := ho5.shape
      rw [List.length_map] at ho5 ⊢
      have HO5 := Lib.hid ho5
      have HB5 := Lib.hid hb5
      clear ho5 hb5
      go_wp2_with fail
      go_returns
      exact ⟨_, rfl, HO5.out.base hzr, HP.out.bel.trans (HB5.out.mono hzr)⟩
end Go.Proofs.Ytoecmoicaklbaaa

/- Contracts: sameRoutes of two lists of routes; parts of slices of acts. -/
set_option linter.unusedVariables false
set_option linter.unusedSimpArgs false
namespace Go.Proofs.Ytoecmoicaklbaaa
open Go Go.RowKit Go.Sort Wc Wk

theorem diff_ok {L M : List (Nat × Nat × Nat)} (t : TabOk L) (s : TabOk M) : ∀ x ∈ diffL L M, x.fit ∧ (x.kind = 1 ∨ x.kind = 2) := by
  intro x hx
  refine ⟨diff_fit t s x hx, ?_⟩
  rcases List.mem_append.1 hx with hx | hx
  · obtain ⟨u, _, _, rfl⟩ := mem_cutsOf.1 hx
    exact .inr rfl
  · obtain ⟨v, _, _, rfl⟩ := mem_putsOf.1 hx
    exact .inl rfl

theorem run_act_take (g p n c : Nat) (h1 : p ≤ n) (h2 : n ≤ c) (h3 : c ≤ 9223372036854775807) (W : World) : (Instr.slice 39 (.slice (some ⟨g, 0, none⟩) n c) none (some (.int .i64 (p : Int))) none).run Try.prog W = .ok (.slice (some ⟨g, 0, none⟩) p c) W := by
  have h4 : p ≤ c := by omega
  have h5 : (0 : Int) ≤ p := by omega
  go_simp
theorem run_act_drop (g p n c : Nat) (h1 : p ≤ n) (h2 : n ≤ c) (h3 : c ≤ 9223372036854775807) (hne : c ≠ p) (W : World) : (Instr.slice 39 (.slice (some ⟨g, 0, none⟩) n c) (some (.int .i64 (p : Int))) none none).run Try.prog W = .ok (.slice (some ⟨g, 0 + p * 9, none⟩) (n - p) (c - p)) W := by
  have h4 : p ≤ c := by omega
  have h5 : (0 : Int) ≤ p := by omega
  go_simp
theorem run_act_end (g p : Nat) (h3 : p ≤ 9223372036854775807) (W : World) : (Instr.slice 39 (.slice (some ⟨g, 0, none⟩) p p) (some (.int .i64 (p : Int))) none none).run Try.prog W = .ok (.slice (some ⟨g, 0, none⟩) 0 0) W := by
  have h5 : (0 : Int) ≤ p := by omega
  go_simp
set_option maxRecDepth 100000 in
/-- The first acts of a list; those behind. -/
theorem act_take {w : World} {B : Nat} {a : Option Addr} {n c : Nat} {xs : List ActD} (h : Wk.Own w B 32 9 (.slice a n c) (xs.map actCells)) (p : Nat) (hp : p ≤ n) :
    (∀ W : World, (Instr.slice 39 (.slice a n c) none (some (.int .i64 (p : Int))) none).run Try.prog W = .ok (.slice a p c) W) ∧ Sl w 9 (.slice a p c) ((xs.take p).map actCells) := by
  obtain ⟨hl, hc1, hc2⟩ := h.sl.lens
  rw [List.length_map] at hl
  refine ⟨fun W => ?_, by rw [List.map_take]; exact h.sl.take p (by rw [List.length_map]; omega)⟩
  rcases h.2.2 with ⟨hv, h0⟩ | ⟨g, cap, cur, hv, _⟩
  · simp only [Value.slice.injEq] at hv
    obtain ⟨rfl, rfl, rfl⟩ := hv
    obtain rfl : p = 0 := by omega
    first | rfl | kernel_rfl
  · simp only [Value.slice.injEq] at hv
    obtain ⟨rfl, _, rfl⟩ := hv
    exact run_act_take g p n c hp hc1 hc2 W
set_option maxRecDepth 100000 in
theorem act_drop {w : World} {B : Nat} {a : Option Addr} {n c : Nat} {xs : List ActD} (h : Wk.Own w B 32 9 (.slice a n c) (xs.map actCells)) (p : Nat) (hp : p ≤ n) :
    ∃ a' c', (∀ W : World, (Instr.slice 39 (.slice a n c) (some (.int .i64 (p : Int))) none none).run Try.prog W = .ok (.slice a' (n - p) c') W) ∧ Sl w 9 (.slice a' (n - p) c') ((xs.drop p).map actCells) := by
  obtain ⟨hl, hc1, hc2⟩ := h.sl.lens
  rw [List.length_map] at hl
  rcases h.2.2 with ⟨hv, h0⟩ | ⟨g, cap, cur, hv, _⟩
  · simp only [Value.slice.injEq] at hv
    obtain ⟨rfl, rfl, rfl⟩ := hv
    obtain rfl : p = 0 := by omega
    have hx : xs = [] := List.eq_nil_of_length_eq_zero (by omega)
    subst hx
    exact ⟨none, 0, fun W => by first | rfl | kernel_rfl, Sl.empty _ _ _ _ (by decide)⟩
  · simp only [Value.slice.injEq] at hv
    obtain ⟨rfl, _, rfl⟩ := hv
    have hs := h.sl
    rcases hs.behind p (by rw [List.length_map]; omega) with ⟨rfl, rfl, hn, hs'⟩ | ⟨hne, hs'⟩
    · exact ⟨_, _, fun W => by rw [Nat.sub_self]; exact run_act_end g _ hc2 W, by rw [Nat.sub_self, List.map_drop]; exact hs'⟩
    · exact ⟨_, _, fun W => run_act_drop g p n c hp hc1 hc2 hne W, by rw [List.map_drop]; exact hs'⟩
end Go.Proofs.Ytoecmoicaklbaaa
