
/- Package stride: drafts of nodes: data; contracts of part, inner. -/
import Derived.Test.YtoecmoicaklbaaaDoorSt0
import Derived.Test.YtoecmoicaklbaaaDoorTk
import Derived.Test.YtoecmoicaklbaaaDoorAp
import Derived.Shelf.Spec.TrailingZeros
set_option linter.unusedVariables false
set_option linter.unusedSimpArgs false
namespace Go.Proofs.YtoecmoicaklbaaaDoor
open Go Go.RowKit Go.Sort Wc Wk

/-- The bits of a prefix from its node on, so far. -/
def pinN (n j i : Nat) : Nat := 2 ^ (i - 4 * j) + tp n i % 2 ^ (i - 4 * j)
theorem pin_start (n j : Nat) : pinN n j (4 * j) = 1 := by
  unfold pinN
  rw [Nat.sub_self]
  simp [Nat.mod_one]
theorem pin_end {n j k : Nat} (h : k / 4 = j) : pinN n j k = innN n k := by
  unfold pinN innN
  rw [show k - 4 * j = k % 4 by omega]
theorem pin_succ {n j i : Nat} (h1 : 4 * j ≤ i) (h2 : i < 32) : pinN n j (i + 1) = 2 * pinN n j i + bitAt false n i := by
  have hb := bitAt_le false n i
  have hs := tp_succ n i h2
  unfold pinN
  rw [show i + 1 - 4 * j = (i - 4 * j) + 1 by omega, Nat.pow_succ, hs]
  generalize tp n i = t at *
  generalize bitAt false n i = b at *
  have hp := Nat.two_pow_pos (i - 4 * j)
  have hm := Nat.mod_lt t hp
  have hd := Nat.div_add_mod t (2 ^ (i - 4 * j))
  have key : (2 * t + b) % (2 ^ (i - 4 * j) * 2) = 2 * (t % 2 ^ (i - 4 * j)) + b := by
    generalize hP : 2 ^ (i - 4 * j) = P at *
    have e : 2 * t + b = (2 * (t % P) + b) + (P * 2) * (t / P) := by
      have : P * 2 * (t / P) = 2 * (P * (t / P)) := by rw [Nat.mul_comm P 2, Nat.mul_assoc]
      omega
    rw [e, Nat.add_mul_mod_self_left]
    exact Nat.mod_eq_of_lt (by omega)
  rw [key]
  omega
theorem pin_lt {n j i : Nat} (h : i < 4 * j + 4) : pinN n j i < 16 := by
  unfold pinN
  have hp := Nat.two_pow_pos (i - 4 * j)
  have hm := Nat.mod_lt (tp n i) hp
  have : 2 ^ (i - 4 * j) ≤ 8 := Nat.le_trans (Nat.pow_le_pow_right (by decide) (show i - 4 * j ≤ 3 by omega)) (by decide)
  omega
/-- The part of an address at a level. -/
def partN (n j : Nat) : Nat := n / 2 ^ (28 - 4 * j) % 16
theorem part_tp {n j : Nat} (hj : j ≤ 7) : partN n j = tp n (4 * (j + 1)) % 16 := by
  unfold partN tp
  rw [show 32 - 4 * (j + 1) = 28 - 4 * j by omega]
theorem tp_kid {n j : Nat} (hj : j ≤ 7) : tp n (4 * (j + 1)) = 16 * tp n (4 * j) + partN n j := by
  rw [part_tp hj, tp_div n (show 4 * j ≤ 4 * (j + 1) by omega) (by omega), show 4 * (j + 1) - 4 * j = 4 by omega]
  omega
theorem part_lt (n j : Nat) : partN n j < 16 := Nat.mod_lt _ (by decide)

set_option maxHeartbeats 1000000 in
theorem inner_any (n k j : Nat) (w : World) (hv : VP false n k) (hj : k / 4 = j) :
    Calls Tryd.prog 73 #[Value.agg #[.bool false, .int .u64 (hiOf false n), .int .u64 (loOf n), .int .i64 k], .int .i64 j] w fun e w' => e = .returned (.int .i64 (innN n k : Nat)) ∧ Below w.heap.size w w' := by
  have hk : k ≤ 32 := hv.2.1
  have hf : Fits false n := hv.1
  have AT := Lib.hid (fun (i : Nat) (hi : i < 32) w => at_any false n i w hf (by omega) (by show (i : Int) < 32; omega))
  have ew0 : IntKind.i64.wrap (4 * (j : Int)) = ((4 * j : Nat) : Int) := by rw [IntKind.wrap_i64]; omega
  have HK := Lib.hid hk
  have HJ := Lib.hid hj
  clear hj hv
  go_enter Tryd.func73, Tryd.ntmps73
  go_wp2_with fail
  obtain ⟨Z, hZ⟩ : ∃ Z, Z = w.alloc (.cells #[.bool false, .int .u64 (hiOf false n), .int .u64 (loOf n), .int .i64 k] 39) := ⟨_, rfl⟩
  have g0 : Z.cell? ⟨w.heap.size, 0, none⟩ = some (.bool false) := by rw [hZ]; simp
  have g1 : Z.cell? ⟨w.heap.size, 1, none⟩ = some (.int .u64 (hiOf false n)) := by rw [hZ]; simp
  have g2 : Z.cell? ⟨w.heap.size, 2, none⟩ = some (.int .u64 (loOf n)) := by rw [hZ]; simp
  have g3 : Z.cell? ⟨w.heap.size, 3, none⟩ = some (.int .i64 k) := by rw [hZ]; simp
  have gl : w.heap.size < Z.heap.size := by rw [hZ]; simp
  have hwZ := Lib.hid (show Below w.heap.size w Z by rw [hZ]; exact (Below.refl _ _).alloc (Nat.le_refl _) _)
  rw [← hZ]
  obtain ⟨P, hP⟩ : ∃ P, P = w.heap.size := ⟨_, rfl⟩
  rw [← hP] at g0 g1 g2 g3 gl ⊢
  clear hZ hP
  have G := Lib.hid (And.intro g0 (And.intro g1 (And.intro g2 (And.intro g3 gl))))
  clear g0 g1 g2 g3 gl
  have hjk : 4 * j ≤ k := by have := HJ.out; omega
  have hkj : k < 4 * j + 4 := by have := HJ.out; omega
  go_loopw [5, 6] (fun v5 v6 wr => ∃ i : Nat, 4 * j ≤ i ∧ i ≤ k ∧ v6 = .int .i64 i ∧ v5 = .int .i64 (pinN n j i : Nat) ∧ Hid (Below Z.heap.size Z wr)) (fun _ v6 _ => k - (intOf v6).toNat)
  case atStart => exact ⟨4 * j, Nat.le_refl _, hjk, rfl, by rw [pin_start]; rfl, Below.refl _ _⟩
  case round =>
    obtain ⟨i, h1, h2, rfl, rfl, HB⟩ := hrel
    obtain ⟨q0, q1, q2, q3, q4⟩ := G.out
    have g0 := (HB.out.cell (p := ⟨P, 0, none⟩) q4).trans q0
    have g1 := (HB.out.cell (p := ⟨P, 1, none⟩) q4).trans q1
    have g2 := (HB.out.cell (p := ⟨P, 2, none⟩) q4).trans q2
    have g3 := (HB.out.cell (p := ⟨P, 3, none⟩) q4).trans q3
    have gl := Nat.lt_of_lt_of_le q4 HB.out.size
    clear q0 q1 q2 q3 q4
    have hpl := pin_lt (n := n) (j := j) (i := i) (by omega)
    by_cases hlt : i < k
    · have hp := pin_succ (n := n) h1 (show i < 32 by omega)
      have hpl2 := pin_lt (n := n) (j := j) (i := i + 1) (by omega)
      have A := Lib.hid (AT.out i (by omega))
      rw [show ((i : Int)).toNat = i by omega] at A
      have hb := bitAt_le false n i
      have ewp : IntKind.i64.wrap (2 * (pinN n j i : Int)) = ((2 * pinN n j i : Nat) : Int) := by rw [IntKind.wrap_i64]; omega
      have ewq : IntKind.i64.wrap (((2 * pinN n j i : Nat) : Int) + (bitAt false n i : Nat)) = ((pinN n j (i + 1) : Nat) : Int) := by rw [hp, IntKind.wrap_i64]; omega
      have ewz : wrap64 (2 * (pinN n j i : Int) + (bitAt false n i : Nat)) = ((pinN n j (i + 1) : Nat) : Int) := by rw [hp]; unfold wrap64; omega
      have ewr : IntKind.i64.wrap ((i : Int) + 1) = ((i + 1 : Nat) : Int) := by rw [IntKind.wrap_i64]; omega
      have HP1 := Lib.hid hp
      clear hp hpl hpl2
      go_wp2_with (first | ((with_reducible refine (A.out _).mono ?_); rintro e w1 ⟨rfl, hb1⟩; (repeat (with_reducible (replace hb1 := Below.undrew hb1))); obtain ⟨hc1, hf1⟩ := bcell hb1; have hz1 := hb1.size; (repeat (first | rw [World.size_alloc] at hz1 | rw [World.size_drew] at hz1 | rw [World.size_setCell] at hz1)); (try have : w.heap.size < w1.heap.size := by omega); (try have : w.heap.size < w1.heap.size + 1 := by omega); (try have : w.heap.size < w1.heap.size + 1 + 1 := by omega); (try have : w.heap.size < w1.heap.size + 1 + 1 + 1 := by omega)))
      have HB1 := Lib.hid (HB.out.trans (hb1.mono HB.out.size))
      clear hb1 hc1 hf1
      go_roundw
      case rel => exact ⟨i + 1, by omega, by omega, by first | rfl | (simp; done) | (rw [← ewr]; done), by first | rfl | (rw [← ewz]; done), HB1⟩
      case measure => simp [intOf]; omega
    · obtain rfl : i = k := by omega
      rw [pin_end HJ.out] at hpl ⊢
      go_wp2_with fail
      go_returns
      exact ⟨rfl, hwZ.out.trans (HB.out.mono hwZ.out.size)⟩

set_option maxHeartbeats 1000000 in
theorem spart_any (n j : Nat) (w : World) (hf : Fits false n) (hj : j ≤ 7) :
    Calls Tryd.prog 38 #[Value.agg #[.bool false, .int .u64 (hiOf false n), .int .u64 (loOf n)], .int .i64 j] w fun e w' => e = .returned (.int .i64 (partN n j : Nat)) ∧ Below w.heap.size w w' := by
  have hn : n < 4294967296 := hf
  have hpl := part_lt n j
  have ea : bits .and .u64 (loOf n / 2 ^ (28 - 4 * j)) 15 = (partN n j : Int) := by
    rw [loOf_false hf]
    have h1 : (n : Int) / 2 ^ (28 - 4 * j) = ((n / 2 ^ (28 - 4 * j) : Nat) : Int) := by simp
    rw [h1]
    have h2 : n / 2 ^ (28 - 4 * j) < 18446744073709551616 := Nat.lt_of_le_of_lt (Nat.div_le_self _ _) (by omega)
    have := bits_and_u64_nat (n / 2 ^ (28 - 4 * j)) 15 h2 (by decide)
    rw [show ((15 : Nat) : Int) = 15 from rfl] at this
    rw [this]
    unfold partN
    rw [show (15 : Nat) = 2 ^ 4 - 1 from rfl, Nat.and_two_pow_sub_one_eq_mod]
  have ew : IntKind.i64.wrap (partN n j : Int) = (partN n j : Int) := by rw [IntKind.wrap_i64]; omega
  go_enter Tryd.func38, Tryd.ntmps38
  go_wp2_with fail
  go_returns
  exact ⟨rfl, by (repeat' (first | (with_reducible exact Below.refl _ _) | (with_reducible assumption) | (with_reducible refine Below.al ?_ _) | (with_reducible refine Below.dr ?_) | (with_reducible refine Below.step ?_ (by assumption)) | (with_reducible refine Below.set ?_ ?_ _) | omega | (dsimp only; omega) | (simp; done) | (simp; omega)))⟩
end Go.Proofs.YtoecmoicaklbaaaDoor
