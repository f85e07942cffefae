
/- Contracts: sameRoutes of two lists of routes; parts of slices of acts. -/
import Derived.Test.YteadfobfenopkaaDel3
import Derived.Test.YteadfobfenopkaaMkA
set_option linter.unusedVariables false
set_option linter.unusedSimpArgs false
namespace Go.Proofs.Yteadfobfenopkaa
open Go Go.RowKit Go.Sort Wc Wk

theorem diff_ok {L M : List (Nat × Nat × Nat)} (t : TabOk L) (s : TabOk M) : ∀ x ∈ diffL L M, x.fit ∧ (x.kind = 1 ∨ x.kind = 2) := by
  intro x hx
  refine ⟨diff_fit t s x hx, ?_⟩
  rcases List.mem_append.1 hx with hx | hx
  · obtain ⟨u, _, _, rfl⟩ := mem_cutsOf.1 hx
    exact .inr rfl
  · obtain ⟨v, _, _, rfl⟩ := mem_putsOf.1 hx
    exact .inl rfl

set_option maxHeartbeats 1000000 in
/-- Two lists of routes: are they the same? -/
theorem same_any (a b : Option Addr) (ca cb n m : Nat) (L M : List (Nat × Nat × Nat)) (w : World) (hn : n = L.length) (hm : m = M.length) (ha : Sl w 5 (.slice a n ca) (L.map routeCells)) (hb : Sl w 5 (.slice b m cb) (M.map routeCells)) (hL : ∀ x ∈ L, VP false x.1 x.2.1) (hM : ∀ x ∈ M, VP false x.1 x.2.1) :
    Calls Try.prog 22 #[.slice a n ca, .slice b m cb] w fun e w' => e = .returned (.bool (decide (L = M))) ∧ Below w.heap.size w w' := by
  by_cases hLM : L = M
  · subst hLM
    rw [decide_eq_true rfl]
    exact same_yes a b ca cb n m L w hn hm ha hb
  · rw [decide_eq_false hLM]
    have HA := Lib.hid ha
    have HB := Lib.hid hb
    have l1 := ha.lens.2.1
    have l2 := ha.lens.2.2
    have l3 := hb.lens.2.1
    have l4 := hb.lens.2.2
    have HN := Lib.hid hn
    have HM := Lib.hid hm
    have HNE := Lib.hid hLM
    have HL := Lib.hid hL
    have HMv := Lib.hid hM
    clear ha hb hn hm hLM hL hM
    by_cases hnm : n = m
    · subst hnm
      go_enter Try.func22, Try.ntmps22
      go_wp2_with fail
      go_loopw [5] (fun i wr => ∃ k : Nat, k ≤ n ∧ i = .int .i64 k ∧ Hid (L.take k = M.take k) ∧ Hid (Below w.heap.size w wr)) (fun i _ => n - (intOf i).toNat)
      case atStart => exact ⟨0, Nat.zero_le _, rfl, rfl, Below.refl _ _⟩
      case round =>
        obtain ⟨k, hk, rfl, HE, HW⟩ := hrel
        by_cases hlt : k < n
        · obtain ⟨x, hx⟩ : ∃ x, L[k]? = some x := ⟨_, List.getElem?_eq_getElem (by have := HN.out; omega)⟩
          obtain ⟨y, hy⟩ : ∃ y, M[k]? = some y := ⟨_, List.getElem?_eq_getElem (by have := HM.out; omega)⟩
          obtain ⟨b1, o1, rfl, _, c0, c1, c2, c3, c4⟩ := Sl.route HA.out HW.out hx
          obtain ⟨b2, o2, rfl, _, d0, d1, d2, d3, d4⟩ := Sl.route HB.out HW.out hy
          have vx := HL.out x (List.mem_of_getElem? hx)
          have vy := HMv.out y (List.mem_of_getElem? hy)
          by_cases he : x = y
          · subst he
            have HE2 := Lib.hid (show L.take (k + 1) = M.take (k + 1) by rw [take_one hx, take_one hy, HE.out])
            clear hx hy vx vy
            go_wp2_with fail
            go_quiet (fail)
            go_wp2
            go_roundw
            case rel => exact ⟨k + 1, by omega, by go_num, HE2, below_drewN HW.out _⟩
            case measure => simp [intOf]; omega
          · have hne : ¬ ((x.2.2 : Int) = y.2.2) ∨ ¬ ((x.2.1 : Int) = y.2.1) ∨ ¬ (loOf x.1 = loOf y.1) := by
              by_cases h1 : x.2.2 = y.2.2
              · by_cases h2 : x.2.1 = y.2.1
                · refine .inr (.inr fun h3 => he ?_)
                  rw [loOf_false vx.1, loOf_false vy.1] at h3
                  have h3 : x.1 = y.1 := by omega
                  obtain ⟨xn, xk, xh⟩ := x
                  obtain ⟨yn, yk, yh⟩ := y
                  dsimp only at h1 h2 h3
                  rw [h1, h2, h3]
                · exact .inr (.inl (by omega))
              · exact .inl (by omega)
            clear hx hy vx vy he
            rcases hne with hne | hne | hne
            all_goals
              go_wp2_with fail
              go_quiet (fail)
              go_wp2
              go_returns
              exact ⟨rfl, below_drewN HW.out _⟩
        · exfalso
          obtain rfl : k = n := by omega
          have h1 := HE.out
          rw [List.take_of_length_le (by rw [← HN.out]; exact Nat.le_refl _), List.take_of_length_le (by rw [← HM.out]; exact Nat.le_refl _)] at h1
          exact HNE.out h1
    · have hnm' : ((n : Int) != m) = true := by rw [bne_iff_ne]; omega
      go_enter Try.func22, Try.ntmps22
      go_wp2
      go_returns
      exact ⟨rfl, Below.refl _ _⟩

theorem run_act_take (g p n c : Nat) (h1 : p ≤ n) (h2 : n ≤ c) (h3 : c ≤ 9223372036854775807) (W : World) : (Instr.slice 28 (.slice (some ⟨g, 0, none⟩) n c) none (some (.int .i64 (p : Int))) none).run Try.prog W = .ok (.slice (some ⟨g, 0, none⟩) p c) W := by
  have h4 : p ≤ c := by omega
  have h5 : (0 : Int) ≤ p := by omega
  go_simp
theorem run_act_drop (g p n c : Nat) (h1 : p ≤ n) (h2 : n ≤ c) (h3 : c ≤ 9223372036854775807) (hne : c ≠ p) (W : World) : (Instr.slice 28 (.slice (some ⟨g, 0, none⟩) n c) (some (.int .i64 (p : Int))) none none).run Try.prog W = .ok (.slice (some ⟨g, 0 + p * 9, none⟩) (n - p) (c - p)) W := by
  have h4 : p ≤ c := by omega
  have h5 : (0 : Int) ≤ p := by omega
  go_simp
theorem run_act_end (g p : Nat) (h3 : p ≤ 9223372036854775807) (W : World) : (Instr.slice 28 (.slice (some ⟨g, 0, none⟩) p p) (some (.int .i64 (p : Int))) none none).run Try.prog W = .ok (.slice (some ⟨g, 0, none⟩) 0 0) W := by
  have h5 : (0 : Int) ≤ p := by omega
  go_simp
set_option maxRecDepth 100000 in
/-- The first acts of a list; those behind. -/
theorem act_take {w : World} {B : Nat} {a : Option Addr} {n c : Nat} {xs : List ActD} (h : Wk.Own w B 35 9 (.slice a n c) (xs.map actCells)) (p : Nat) (hp : p ≤ n) :
    (∀ W : World, (Instr.slice 28 (.slice a n c) none (some (.int .i64 (p : Int))) none).run Try.prog W = .ok (.slice a p c) W) ∧ Sl w 9 (.slice a p c) ((xs.take p).map actCells) := by
  obtain ⟨hl, hc1, hc2⟩ := h.sl.lens
  rw [List.length_map] at hl
  refine ⟨fun W => ?_, by rw [List.map_take]; exact h.sl.take p (by rw [List.length_map]; omega)⟩
  rcases h.2.2 with ⟨hv, h0⟩ | ⟨g, cap, cur, hv, _⟩
  · simp only [Value.slice.injEq] at hv
    obtain ⟨rfl, rfl, rfl⟩ := hv
    obtain rfl : p = 0 := by omega
    first | rfl | kernel_rfl
  · simp only [Value.slice.injEq] at hv
    obtain ⟨rfl, _, rfl⟩ := hv
    exact run_act_take g p n c hp hc1 hc2 W
set_option maxRecDepth 100000 in
theorem act_drop {w : World} {B : Nat} {a : Option Addr} {n c : Nat} {xs : List ActD} (h : Wk.Own w B 35 9 (.slice a n c) (xs.map actCells)) (p : Nat) (hp : p ≤ n) :
    ∃ a' c', (∀ W : World, (Instr.slice 28 (.slice a n c) (some (.int .i64 (p : Int))) none none).run Try.prog W = .ok (.slice a' (n - p) c') W) ∧ Sl w 9 (.slice a' (n - p) c') ((xs.drop p).map actCells) := by
  obtain ⟨hl, hc1, hc2⟩ := h.sl.lens
  rw [List.length_map] at hl
  rcases h.2.2 with ⟨hv, h0⟩ | ⟨g, cap, cur, hv, _⟩
  · simp only [Value.slice.injEq] at hv
    obtain ⟨rfl, rfl, rfl⟩ := hv
    obtain rfl : p = 0 := by omega
    have hx : xs = [] := List.eq_nil_of_length_eq_zero (by omega)
    subst hx
    exact ⟨none, 0, fun W => by first | rfl | kernel_rfl, Sl.empty _ _ _ _ (by decide)⟩
  · simp only [Value.slice.injEq] at hv
    obtain ⟨rfl, _, rfl⟩ := hv
    have hs := h.sl
    rcases hs.behind p (by rw [List.length_map]; omega) with ⟨rfl, rfl, hn, hs'⟩ | ⟨hne, hs'⟩
    · exact ⟨_, _, fun W => by rw [Nat.sub_self]; exact run_act_end g _ hc2 W, by rw [Nat.sub_self, List.map_drop]; exact hs'⟩
    · exact ⟨_, _, fun W => run_act_drop g p n c hp hc1 hc2 hne W, by rw [List.map_drop]; exact hs'⟩
end Go.Proofs.Yteadfobfenopkaa
