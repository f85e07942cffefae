
/- Shares: dealtOne, sameInts. -/
import Derived.Test.YticfcigkldkhmaaSh11
set_option linter.unusedVariables false
set_option linter.unusedSimpArgs false
namespace Go.Proofs.Yticfcigkldkhmaa
open Go Go.RowKit Go.Sort Wc Wk

theorem same_any (a1 a2 : Option Addr) (cap1 cap2 n : Nat) (xs : List Nat) (w : World) (hn : n = xs.length) (h1 : Sl w 1 (.slice a1 n cap1) (xs.map nC)) (h2 : Sl w 1 (.slice a2 n cap2) (xs.map nC)) (hb : n ≤ 1000) :
    Calls Try.prog 36 #[.slice a1 n cap1, .slice a2 n cap2] w fun e w' => e = .returned (.bool true) ∧ Below w.heap.size w w' := by
  have H1 := Lib.hid h1
  have H2 := Lib.hid h2
  have HN := Lib.hid hn
  have k1 := h1.lens.2.1
  have k2 := h1.lens.2.2
  have k3 := h2.lens.2.1
  have k4 := h2.lens.2.2
  clear h1 h2 hn
  go_enter Try.func36, Try.ntmps36
  go_wp2_with fail
  go_loopw [5] (fun i wr => ∃ m : Nat, m ≤ n ∧ i = .int .i64 m ∧ Hid (Below w.heap.size w wr)) (fun i _ => n - (intOf i).toNat)
  case atStart => exact ⟨0, Nat.zero_le _, rfl, Below.refl _ _⟩
  case round =>
    obtain ⟨m, hm, rfl, HB⟩ := hrel
    by_cases hlt : m < n
    · obtain ⟨b1, o1, rfl, hb1, c1⟩ := Sl.nat H1.out HB.out (i := m) (by have := HN.out; omega)
      obtain ⟨b2, o2, rfl, hb2, c2⟩ := Sl.nat H2.out HB.out (i := m) (by have := HN.out; omega)
      generalize xs.getD m 0 = x at *
      go_wp2_with fail
      go_big_region
      all_goals go_wp2_with fail
      go_roundw
      case rel => exact ⟨m + 1, by omega, by go_num, Lib.hid (Below.drew HB.out)⟩
      case measure => simp [intOf]; omega
    · obtain rfl : m = n := by omega
      go_wp2_with fail
      go_returns
      exact ⟨rfl, HB.out⟩

theorem one_three (x : Nat × Nat) (hx : 1 ≤ x.2) : dealtL [x] 3 = [x.1, x.1, x.1] := by
  have h : partsL [x.2] 3 = [3] := by
    have := parts_exact [x.2]
    have e : ∀ p : Nat, 1 ≤ p → partsL [p] 3 = [3] := fun p hp => by
      have hb : baseL [p] 3 = [3] := by
        unfold baseL
        simp only [List.map_cons, List.map_nil, List.sum_cons, List.sum_nil, Nat.add_zero]
        rw [Nat.mul_div_cancel _ (by omega)]
      have hl : leftN [p] 3 = 0 := by unfold leftN; rw [hb]; rfl
      unfold partsL
      rw [hl, hb]; rfl
    exact e x.2 hx
  unfold dealtL
  show dealL [x.1] (partsL [x.2] 3) = _
  rw [h]; rfl


set_option maxHeartbeats 1000000 in
theorem dealtOne_any (a : Option Addr) (cap : Nat) (x : Nat × Nat) (w : World) (hs : Sl w 2 (.slice a 1 cap) ([x].map shCells)) (hok : ShOk [x]) :
    Calls Try.prog 35 #[.slice a 1 cap] w fun e w' => e = .returned (.bool true) ∧ Below w.heap.size w w' := by
  have hx := hok.wt x (by simp)
  have DL : Hid (Calls Try.prog 32 #[.slice a 1 cap, .int .i64 3] w fun e w' => ∃ v, e = .returned (.tuple #[v, .bool true]) ∧ Below w.heap.size w w' ∧ Wk.Own w' w.heap.size 3 1 v ([x.1, x.1, x.1].map nC)) := by
    have d := dealt_any a cap 1 [x] 3 w rfl hs hok (by omega) (by omega)
    rw [one_three x hx.1] at d
    exact d
  have HS := Lib.hid hs
  have k1 : 1 ≤ cap := hs.lens.2.1
  have k2 := hs.lens.2.2
  clear hs hok
  go_enter Try.func35, Try.ntmps35
  obtain ⟨bl, off, rfl, hbl, d0, d1⟩ := Sl.share HS.out (Below.refl _ _) (i := 0) (r := x) rfl
  rw [Nat.zero_mul, Nat.add_zero] at d0
  clear d1
  go_wp2_with ((with_reducible refine DL.out.mono ?_); rintro e w3 ⟨v3, rfl, hb3, ho3⟩; obtain ⟨a3, cap3, rfl⟩ := ho3.shape; rw [show ([x.1, x.1, x.1].map nC).length = 3 from rfl] at ho3 ⊢; have d3 := (hb3.cell (p := ⟨bl, off, none⟩) hbl).trans d0; clear d0)
  have CN : Hid (Calls Try.prog 34 #[.slice a3 3 cap3, .int .i64 x.1] w3 fun e w' => e = .returned (.int .i64 3) ∧ w3 = w') := by
    have c := counted_any a3 cap3 3 x.1 [x.1, x.1, x.1] w3 rfl ho3.sl (by omega)
    have e : [x.1, x.1, x.1].count x.1 = 3 := by simp
    rw [e] at c
    exact c
  have HB3 := Lib.hid hb3
  clear ho3 hb3
  go_wp2_with ((with_reducible refine CN.out.mono ?_); rintro e w' ⟨rfl, rfl⟩)
  go_returns
  exact ⟨rfl, HB3.out⟩
end Go.Proofs.Yticfcigkldkhmaa
