
/- Contracts: cidr.Range; cidrSure. -/
import Derived.Test.YtoecmoicaklbaaaRg2
set_option linter.unusedVariables false
namespace Go.Proofs.Ytoecmoicaklbaaa
open Go Go.RowKit Go.Sort Wc Wk

theorem cut_new (six : Bool) (n m : Nat) (w : World) (hm : Fits six m) (hnm : n ≤ m) (hd : m - n < 1048576) :
    Calls Try.prog 79 #[Value.agg #[.bool six, .int .u64 (hiOf six n), .int .u64 (loOf n), .bool six, .int .u64 (hiOf six m), .int .u64 (loOf m)], .slice none 0 0] w fun e w' => ∃ a cap xs, e = .returned (.slice a xs.length cap) ∧ Own w' w.heap.size 30 4 (.slice a xs.length cap) (xs.map (pfxRow six)) ∧ RunP six m n xs (m + 1) ∧ Below w.heap.size w w' := by
  refine (span_cut six n m hm hnm hd w.heap.size none 0 [] w (Own.nil _ _ _ _) (Nat.le_refl _) (by simp)).mono ?_
  rintro e w' ⟨v, xs, rfl, ho, hr, hb⟩
  rw [List.nil_append] at ho
  obtain ⟨a, cap, rfl⟩ := ho.shape
  rw [List.length_map] at ho ⊢
  exact ⟨a, cap, xs, rfl, ho, hr, hb⟩


set_option maxHeartbeats 1000000 in
theorem range_ok (six : Bool) (n m : Nat) (w : World) (hn : Fits six n) (hm : Fits six m) (hnm : n ≤ m) (hd : m - n < 1048576) :
    Calls Try.prog 67 #[Value.agg #[.bool six, .int .u64 (hiOf six n), .int .u64 (loOf n)], Value.agg #[.bool six, .int .u64 (hiOf six m), .int .u64 (loOf m)]] w fun e w' => ∃ a cap xs, e = .returned (.tuple #[.slice a xs.length cap, .int .i64 0]) ∧ Own w' w.heap.size 30 4 (.slice a xs.length cap) (xs.map (pfxRow six)) ∧ RunP six m n xs (m + 1) ∧ Below w.heap.size w w' := by
  have M := Lib.hid (fun w => may_any six n w hn)
  have N := Lib.hid (fun w => may_any six m w hm)
  have L := Lib.hid (fun w => less_any six m n w hm hn)
  rw [decide_eq_false (by omega)] at L
  have C := Lib.hid (fun w => cut_new six n m w hm hnm hd)
  clear hn hm hnm hd
  go_enter Try.func67, Try.ntmps67
  go_wp2_with (first | ((with_reducible refine (M.out _).mono ?_); rintro e w1 ⟨rfl, hb1⟩; (repeat (with_reducible (replace hb1 := Below.undrew hb1))); obtain ⟨hc1, hf1⟩ := bcell hb1; have hz1 := hb1.size; (repeat (first | rw [World.size_alloc] at hz1 | rw [World.size_drew] at hz1 | rw [World.size_setCell] at hz1)); (try have : w.heap.size < w1.heap.size := by omega); (try have : w.heap.size < w1.heap.size + 1 := by omega); (try have : w.heap.size < w1.heap.size + 1 + 1 := by omega); (try have : w.heap.size < w1.heap.size + 1 + 1 + 1 := by omega); (try have : w.heap.size + 1 < w1.heap.size := by omega); (try have : w.heap.size + 1 < w1.heap.size + 1 := by omega); (try have : w.heap.size + 1 < w1.heap.size + 1 + 1 := by omega); (try have : w.heap.size + 1 < w1.heap.size + 1 + 1 + 1 := by omega)) | ((with_reducible refine (N.out _).mono ?_); rintro e w2 ⟨rfl, hb2⟩; (repeat (with_reducible (replace hb2 := Below.undrew hb2))); obtain ⟨hc2, hf2⟩ := bcell hb2; have hz2 := hb2.size; (repeat (first | rw [World.size_alloc] at hz2 | rw [World.size_drew] at hz2 | rw [World.size_setCell] at hz2)); (try have : w.heap.size < w2.heap.size := by omega); (try have : w.heap.size < w2.heap.size + 1 := by omega); (try have : w.heap.size < w2.heap.size + 1 + 1 := by omega); (try have : w.heap.size < w2.heap.size + 1 + 1 + 1 := by omega); (try have : w.heap.size + 1 < w2.heap.size := by omega); (try have : w.heap.size + 1 < w2.heap.size + 1 := by omega); (try have : w.heap.size + 1 < w2.heap.size + 1 + 1 := by omega); (try have : w.heap.size + 1 < w2.heap.size + 1 + 1 + 1 := by omega)) | ((with_reducible refine (L.out _).mono ?_); rintro e w3 ⟨rfl, hb3⟩; (repeat (with_reducible (replace hb3 := Below.undrew hb3))); obtain ⟨hc3, hf3⟩ := bcell hb3; have hz3 := hb3.size; (repeat (first | rw [World.size_alloc] at hz3 | rw [World.size_drew] at hz3 | rw [World.size_setCell] at hz3)); (try have : w.heap.size < w3.heap.size := by omega); (try have : w.heap.size < w3.heap.size + 1 := by omega); (try have : w.heap.size < w3.heap.size + 1 + 1 := by omega); (try have : w.heap.size < w3.heap.size + 1 + 1 + 1 := by omega); (try have : w.heap.size + 1 < w3.heap.size := by omega); (try have : w.heap.size + 1 < w3.heap.size + 1 := by omega); (try have : w.heap.size + 1 < w3.heap.size + 1 + 1 := by omega); (try have : w.heap.size + 1 < w3.heap.size + 1 + 1 + 1 := by omega)) | (with_reducible refine (C.out _).mono ?_))
  rintro e w5 ⟨a, cap, xs, rfl, ho, hr, hb5⟩
  go_wp2_with fail
  go_returns
  have hO := ho.base (B := w.heap.size) (by omega)
  exact ⟨a, cap, xs, rfl, hO, hr, by (repeat' (first | (with_reducible exact Below.refl _ _) | (with_reducible assumption) | (with_reducible refine Below.al ?_ _) | (with_reducible refine Below.dr ?_) | (with_reducible refine Below.step ?_ (by assumption)) | (with_reducible refine Below.set ?_ ?_ _) | omega | (dsimp only; omega) | (simp; done) | (simp; omega)))⟩

theorem run_sure {xs : List (Nat × Nat)} (h : RunP false 7 4 xs 8) : xs = [(4, 30)] := by
  match xs, h with
  | [], h => exact absurd h (by simp [RunP])
  | x :: t, h =>
    obtain ⟨h1, h2, h3⟩ := h
    obtain ⟨hk, hm, hs, hg⟩ := h2.grows
    have hw : wd false = 32 := rfl
    rw [hw] at hk hm hs hg h3
    obtain ⟨j, hj⟩ : ∃ j, j = 32 - x.2 := ⟨_, rfl⟩
    rw [← hj] at hm hs hg h3
    have hj2 : j ≤ 2 := by
      have : 2 ^ j < 2 ^ 3 := by omega
      have := pow_lt_of this
      omega
    have e : j = 2 := by
      match j, hj2 with
      | 0, _ => exfalso; simp at hg
      | 1, _ => exfalso; simp at hg
      | 2, _ => rfl
    subst e
    have : t = [] := by
      have := RunP.le h3
      exact List.eq_nil_of_length_eq_zero (by simp at this; omega)
    subst this
    have e2 : x = (4, 30) := by
      obtain ⟨x1, x2⟩ := x
      simp at h1 hj hk
      simp; omega
    rw [e2]


set_option maxHeartbeats 1000000 in
theorem cidrSure_any (w : World) : Calls Try.prog 30 #[] w fun e w' => e = .returned (.bool true) ∧ Below w.heap.size w w' := by
  have S := Lib.hid preSure_any
  have R : Hid (∀ w, Calls Try.prog 67 #[.agg #[.bool false, .int .u64 0, .int .u64 4], .agg #[.bool false, .int .u64 0, .int .u64 7]] w fun e w' => ∃ g cap, e = .returned (.tuple #[.slice (some ⟨g, 0, none⟩) 1 cap, .int .i64 0]) ∧ g < w'.heap.size ∧ w'.cell? ⟨g, 3, none⟩ = some (.int .i64 30) ∧ Below w.heap.size w w') := fun w => by
    refine (range_ok false 4 7 w (by unfold Fits wd; decide) (by unfold Fits wd; decide) (by decide) (by decide)).mono ?_
    rintro e w' ⟨a, cap, xs, rfl, ho, hr, hb⟩
    obtain rfl := run_sure hr
    obtain ⟨g, cap', hv, _, hg, _, _, _, hc⟩ := ho.at (by simp)
    simp only [Value.slice.injEq] at hv
    obtain ⟨rfl, _, rfl⟩ := hv
    exact ⟨g, cap, rfl, hg, by have := hc 0 _ rfl 3 _ rfl; simpa [pfxRow] using this, hb⟩
  go_enter Try.func30, Try.ntmps30
  go_wp2_with (first | ((with_reducible refine (S.out _).mono ?_); rintro e w3 ⟨rfl, hb3⟩; (repeat (with_reducible (replace hb3 := Below.undrew hb3))); obtain ⟨hc3, hf3⟩ := bcell hb3; have hz3 := hb3.size; (repeat (first | rw [World.size_alloc] at hz3 | rw [World.size_drew] at hz3 | rw [World.size_setCell] at hz3)); (try have : w.heap.size < w3.heap.size := by omega); (try have : w.heap.size < w3.heap.size + 1 := by omega); (try have : w.heap.size < w3.heap.size + 1 + 1 := by omega); (try have : w.heap.size < w3.heap.size + 1 + 1 + 1 := by omega); (try have : w.heap.size + 1 < w3.heap.size := by omega); (try have : w.heap.size + 1 < w3.heap.size + 1 := by omega); (try have : w.heap.size + 1 < w3.heap.size + 1 + 1 := by omega); (try have : w.heap.size + 1 < w3.heap.size + 1 + 1 + 1 := by omega)) | (with_reducible refine (R.out _).mono ?_))
  rintro e w1 ⟨g, cap, rfl, hg, hc, hb1⟩
  (repeat (with_reducible (replace hb1 := Below.undrew hb1))); obtain ⟨hc1, hf1⟩ := bcell hb1; have hz1 := hb1.size; (repeat (first | rw [World.size_alloc] at hz1 | rw [World.size_drew] at hz1 | rw [World.size_setCell] at hz1)); (try have : w.heap.size < w1.heap.size := by omega); (try have : w.heap.size < w1.heap.size + 1 := by omega); (try have : w.heap.size < w1.heap.size + 1 + 1 := by omega); (try have : w.heap.size < w1.heap.size + 1 + 1 + 1 := by omega); (try have : w.heap.size + 1 < w1.heap.size := by omega); (try have : w.heap.size + 1 < w1.heap.size + 1 := by omega); (try have : w.heap.size + 1 < w1.heap.size + 1 + 1 := by omega); (try have : w.heap.size + 1 < w1.heap.size + 1 + 1 + 1 := by omega)
  go_wp2_with (first | ((with_reducible refine (S.out _).mono ?_); rintro e w3 ⟨rfl, hb3⟩; (repeat (with_reducible (replace hb3 := Below.undrew hb3))); obtain ⟨hc3, hf3⟩ := bcell hb3; have hz3 := hb3.size; (repeat (first | rw [World.size_alloc] at hz3 | rw [World.size_drew] at hz3 | rw [World.size_setCell] at hz3)); (try have : w.heap.size < w3.heap.size := by omega); (try have : w.heap.size < w3.heap.size + 1 := by omega); (try have : w.heap.size < w3.heap.size + 1 + 1 := by omega); (try have : w.heap.size < w3.heap.size + 1 + 1 + 1 := by omega); (try have : w.heap.size + 1 < w3.heap.size := by omega); (try have : w.heap.size + 1 < w3.heap.size + 1 := by omega); (try have : w.heap.size + 1 < w3.heap.size + 1 + 1 := by omega); (try have : w.heap.size + 1 < w3.heap.size + 1 + 1 + 1 := by omega)))
  go_returns
  exact ⟨rfl, by (repeat' (first | (with_reducible exact Below.refl _ _) | (with_reducible assumption) | (with_reducible refine Below.al ?_ _) | (with_reducible refine Below.dr ?_) | (with_reducible refine Below.step ?_ (by assumption)) | (with_reducible refine Below.set ?_ ?_ _) | omega | (dsimp only; omega) | (simp; done) | (simp; omega)))⟩
end Go.Proofs.Ytoecmoicaklbaaa
