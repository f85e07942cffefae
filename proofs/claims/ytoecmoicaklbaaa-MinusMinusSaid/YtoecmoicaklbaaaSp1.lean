
/- Spans of addresses: data, contracts of end, Plus by one, Values. -/
import Derived.Test.YtoecmoicaklbaaaSrtP
import Derived.Test.YtoecmoicaklbaaaRg3
set_option linter.unusedVariables false
set_option linter.unusedSimpArgs false
namespace Go.Proofs.Ytoecmoicaklbaaa
open Go.RowKit Go.Sort Wc Wk

/-- A span: its first and its last address. -/
def spC (six : Bool) (s : Nat × Nat) : List Value := [.bool six, .int .u64 (hiOf six s.1), .int .u64 (loOf s.1), .bool six, .int .u64 (hiOf six s.2), .int .u64 (loOf s.2)]
theorem spC_one (six : Bool) (s : Nat × Nat) : ∀ u ∈ spC six s, u.oneCell' = true := by
  intro u hu
  simp [spC] at hu
  rcases hu with rfl | rfl | rfl | rfl | rfl | rfl <;> rfl
theorem spC_len (six : Bool) (s : Nat × Nat) : (spC six s).length = 6 := rfl
theorem eiSp : EI Try.prog 93 141 6 48 (.agg #[.bool false, .int .u64 0, .int .u64 0, .bool false, .int .u64 0, .int .u64 0]) := ⟨by kernel_rfl, by kernel_rfl, rfl, by decide⟩
def spOf (six : Bool) (x : Nat × Nat) : Nat × Nat := (x.1, lastN (wd six) x.1 x.2)
/-- A prefix comes to the spans. -/
def spStep (six : Bool) (S : List (Nat × Nat)) (x : Nat × Nat) : List (Nat × Nat) :=
  match S.getLast? with
  | none => S ++ [spOf six x]
  | some t => if t.2 + 1 = 2 ^ wd six ∨ x.1 ≤ t.2 + 1 then (if t.2 < lastN (wd six) x.1 x.2 then S.dropLast ++ [(t.1, lastN (wd six) x.1 x.2)] else S) else S ++ [spOf six x]
def spansL (six : Bool) (ys : List (Nat × Nat)) : List (Nat × Nat) := ys.foldl (spStep six) []
theorem spansL_snoc (six : Bool) (ys : List (Nat × Nat)) (x : Nat × Nat) : spansL six (ys ++ [x]) = spStep six (spansL six ys) x := by simp [spansL]
theorem spStep_none {six : Bool} {x : Nat × Nat} : spStep six [] x = [spOf six x] := rfl
theorem spStep_some {six : Bool} {U : List (Nat × Nat)} {t x : Nat × Nat} : spStep six (U ++ [t]) x = if t.2 + 1 = 2 ^ wd six ∨ x.1 ≤ t.2 + 1 then (if t.2 < lastN (wd six) x.1 x.2 then U ++ [(t.1, lastN (wd six) x.1 x.2)] else U ++ [t]) else (U ++ [t]) ++ [spOf six x] := by
  unfold spStep
  rw [List.getLast?_concat, List.dropLast_concat]
theorem last_fits {six : Bool} {n k : Nat} (h : VP six n k) : Fits six (lastN (wd six) n k) := by
  obtain ⟨hf, hk, hm⟩ := vp_iff.1 h
  unfold lastN Fits at *
  have hp := Nat.one_le_two_pow (n := wd six - k)
  have e : 2 ^ wd six = 2 ^ k * 2 ^ (wd six - k) := by rw [← Nat.pow_add]; congr 1; omega
  obtain ⟨q, hq⟩ := Nat.dvd_of_mod_eq_zero hm
  have hq2 : q < 2 ^ k := by
    rw [hq, e, Nat.mul_comm (2 ^ k)] at hf
    exact Nat.lt_of_mul_lt_mul_left hf
  have : (q + 1) * 2 ^ (wd six - k) ≤ 2 ^ k * 2 ^ (wd six - k) := Nat.mul_le_mul_right _ hq2
  rw [e, hq, Nat.mul_comm (2 ^ (wd six - k)) q]
  rw [Nat.add_mul] at this
  omega

theorem plus1_any (six : Bool) (n : Nat) (h : Fits six n) : ∃ H L : Int, Hid (∀ w, Calls Try.prog 61 #[Value.agg #[.bool six, .int .u64 (hiOf six n), .int .u64 (loOf n)], .int .i64 1] w fun e w' => e = .returned (.tuple #[.agg #[.bool six, .int .u64 H, .int .u64 L], .bool (decide (n + 1 < 2 ^ wd six))]) ∧ Below w.heap.size w w') ∧ (n + 1 < 2 ^ wd six → H = hiOf six (n + 1) ∧ L = loOf (n + 1)) := by
  by_cases hn : n + 1 < 2 ^ wd six
  · refine ⟨hiOf six (n + 1), loOf (n + 1), fun w => ?_, fun _ => ⟨rfl, rfl⟩⟩
    rw [decide_eq_true hn]
    exact plus_ok six n 1 w h (by decide) (by decide) (n + 1) (by simp) hn
  · obtain ⟨H, L, hP⟩ := plus_bad six n 1 h (by decide) (by decide) (.inr (by
      have h1 : 2 ^ wd six ≤ n + 1 := by omega
      have : ((2 ^ wd six : Nat) : Int) ≤ ((n + 1 : Nat) : Int) := Int.ofNat_le.2 h1
      rw [Int.natCast_pow] at this
      simpa using this))
    exact ⟨H, L, by rw [decide_eq_false hn]; exact hP, fun h => absurd h hn⟩


set_option maxHeartbeats 1000000 in
theorem end_any (six : Bool) (n : Nat) (w : World) (h : Fits six n) : Calls Try.prog 83 #[Value.agg #[.bool six, .int .u64 (hiOf six n), .int .u64 (loOf n)]] w fun e w' => e = .returned (.bool (!decide (n + 1 < 2 ^ wd six))) ∧ Below w.heap.size w w' := by
  obtain ⟨H, L, P, _⟩ := plus1_any six n h
  generalize decide (n + 1 < 2 ^ wd six) = b at *
  clear h
  go_enter Try.func83, Try.ntmps83
  go_wp2_with (((with_reducible refine (P.out _).mono ?_); rintro e w1 ⟨rfl, hb1⟩; (repeat (with_reducible (replace hb1 := Below.undrew hb1))); obtain ⟨hc1, hf1⟩ := bcell hb1; have hz1 := hb1.size; (repeat (first | rw [World.size_alloc] at hz1 | rw [World.size_drew] at hz1 | rw [World.size_setCell] at hz1)); (try have : w.heap.size < w1.heap.size := by omega); (try have : w.heap.size < w1.heap.size + 1 := by omega); (try have : w.heap.size < w1.heap.size + 1 + 1 := by omega); (try have : w.heap.size < w1.heap.size + 1 + 1 + 1 := by omega); (try have : w.heap.size + 1 < w1.heap.size := by omega); (try have : w.heap.size + 1 < w1.heap.size + 1 := by omega); (try have : w.heap.size + 1 < w1.heap.size + 1 + 1 := by omega); (try have : w.heap.size + 1 < w1.heap.size + 1 + 1 + 1 := by omega)))
  go_returns
  exact ⟨rfl, by (repeat' (first | (with_reducible exact Below.refl _ _) | (with_reducible assumption) | (with_reducible refine Below.alloc ?_ ?_ _) | (with_reducible refine Below.drew ?_) | (with_reducible refine Below.stepG ?_ (by assumption) ?_) | (with_reducible refine Below.setCell ?_ ?_ _) | omega | (dsimp only; omega) | (simp; done) | (simp; omega)))⟩
theorem valuesFn_any (a : Option Addr) (n cap : Nat) (w : World) : Calls Try.prog 81 #[.slice a n cap] w fun e w' => e = .returned (.func (.func 114) #[] #[.pointer (some ⟨w.heap.size, 0, none⟩)]) ∧ w' = w.alloc (.cells #[.slice a n cap] 47) := by
  go_enter Try.func81, Try.ntmps81
  go_wp2
  go_returns
  exact ⟨rfl, rfl⟩
end Go.Proofs.Ytoecmoicaklbaaa
