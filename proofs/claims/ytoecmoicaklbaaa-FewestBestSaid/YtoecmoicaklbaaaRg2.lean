
/- Plain laws on the prefixes of a range. -/
import Derived.Test.YtoecmoicaklbaaaPres
import Derived.Test.YtoecmoicaklbaaaQ5
import Derived.Deep.LoopGhost
import Derived.Deep.DeepCutAuto
set_option linter.unusedVariables false
namespace Go.Proofs.Ytoecmoicaklbaaa
open Go Go.RowKit Go.Sort Wc Wk

/-- The greatest prefix that begins at n and does not go behind m. -/
def MaxP (six : Bool) (m n k : Nat) : Prop := VP six n k ∧ lastN (wd six) n k ≤ m ∧ (k = 0 ∨ ¬ (VP six n (k - 1) ∧ lastN (wd six) n (k - 1) ≤ m))
/-- Greatest prefixes side by side, from n to at. -/
def RunP (six : Bool) (m : Nat) : Nat → List (Nat × Nat) → Nat → Prop
  | n, [], a => n = a
  | n, x :: t, a => x.1 = n ∧ MaxP six m n x.2 ∧ RunP six m (n + 2 ^ (wd six - x.2)) t a

theorem RunP.append {six : Bool} {m : Nat} : ∀ {n : Nat} {xs ys : List (Nat × Nat)} {a b : Nat}, RunP six m n xs a → RunP six m a ys b → RunP six m n (xs ++ ys) b
  | n, [], ys, a, b, h, k => by
    have : n = a := h
    subst this; exact k
  | n, x :: t, ys, a, b, h, k => ⟨h.1, h.2.1, RunP.append h.2.2 k⟩
theorem RunP.le {six : Bool} {m : Nat} : ∀ {n : Nat} {xs : List (Nat × Nat)} {a : Nat}, RunP six m n xs a → n + xs.length ≤ a
  | n, [], a, h => by have : n = a := h; simp; omega
  | n, x :: t, a, h => by
    have := RunP.le h.2.2
    have := Nat.one_le_two_pow (n := wd six - x.2)
    simp only [List.length_cons]; omega
theorem RunP.each {six : Bool} {m : Nat} : ∀ {n : Nat} {xs : List (Nat × Nat)} {a : Nat}, RunP six m n xs a → ∀ x ∈ xs, VP six x.1 x.2
  | n, [], a, h, x, hx => by cases hx
  | n, y :: t, a, h, x, hx => by
    rcases List.mem_cons.1 hx with rfl | hx
    · rw [h.1]; exact h.2.1.1
    · exact RunP.each h.2.2 x hx
theorem RunP.drop {six : Bool} {m : Nat} {n : Nat} {xs : List (Nat × Nat)} {a i : Nat} {x : Nat × Nat} (h : RunP six m n (xs.drop i) a) (hx : xs[i]? = some x) : x.1 = n ∧ MaxP six m n x.2 ∧ RunP six m (n + 2 ^ (wd six - x.2)) (xs.drop (i + 1)) a := by
  obtain ⟨hi, hx'⟩ := List.getElem?_eq_some_iff.1 hx
  rw [List.drop_eq_getElem_cons hi, hx'] at h
  exact h
theorem RunP.at {six : Bool} {m : Nat} : ∀ {i : Nat} {n : Nat} {xs : List (Nat × Nat)} {a : Nat}, RunP six m n xs a → i ≤ xs.length → ∃ b, RunP six m b (xs.drop i) a
  | 0, n, xs, a, h, _ => ⟨n, by simpa using h⟩
  | i + 1, n, [], a, h, hi => by simp at hi
  | i + 1, n, x :: t, a, h, hi => by
    obtain ⟨b, hb⟩ := RunP.at (i := i) h.2.2 (by simpa using hi)
    exact ⟨b, by simpa using hb⟩

theorem vp_iff {six : Bool} {n k : Nat} : VP six n k ↔ Fits six n ∧ k ≤ wd six ∧ n % 2 ^ (wd six - k) = 0 := by
  refine ⟨fun h => ⟨h.1, h.2.1, dvd_of_cut h.2.2⟩, fun h => ⟨h.1, h.2.1, ?_⟩⟩
  unfold cutN
  exact Nat.div_mul_cancel (Nat.dvd_of_mod_eq_zero h.2.2)

theorem mod_pow_le {n i j : Nat} (h : n % 2 ^ j = 0) (hij : i ≤ j) : n % 2 ^ i = 0 :=
  Nat.mod_eq_zero_of_dvd (Nat.dvd_trans (Nat.pow_dvd_pow 2 hij) (Nat.dvd_of_mod_eq_zero h))
/-- What a greatest prefix says of its size. -/
theorem MaxP.grows {six : Bool} {m n k : Nat} (h : MaxP six m n k) : k ≤ wd six ∧ n % 2 ^ (wd six - k) = 0 ∧ n + 2 ^ (wd six - k) ≤ m + 1 ∧ (wd six - k = wd six ∨ n % 2 ^ (wd six - k + 1) ≠ 0 ∨ m + 1 < n + 2 ^ (wd six - k + 1)) := by
  obtain ⟨hv, hl, hg⟩ := h
  obtain ⟨hf, hk, hm⟩ := vp_iff.1 hv
  refine ⟨hk, hm, ?_, ?_⟩
  · unfold lastN at hl
    have := Nat.one_le_two_pow (n := wd six - k)
    omega
  · by_cases h0 : k = 0
    · exact .inl (by omega)
    · refine .inr ?_
      have hg := hg.resolve_left h0
      have e1 : wd six - (k - 1) = wd six - k + 1 := by omega
      by_cases hd : n % 2 ^ (wd six - k + 1) = 0
      · refine .inr ?_
        have : ¬ lastN (wd six) n (k - 1) ≤ m := fun hl' => hg ⟨vp_iff.2 ⟨hf, by omega, by rw [e1]; exact hd⟩, hl'⟩
        unfold lastN at this
        rw [e1] at this
        have := Nat.one_le_two_pow (n := wd six - k + 1)
        omega
      · exact .inl hd
theorem pow_lt_of {a b : Nat} (h : 2 ^ a < 2 ^ b) : a < b := (Nat.pow_lt_pow_iff_right (by decide)).1 h
theorem RunP.down {six : Bool} {m : Nat} : ∀ {xs : List (Nat × Nat)} {n j : Nat}, RunP six m n xs (m + 1) → n % 2 ^ j = 0 → m + 1 - n < 2 ^ j → j ≤ wd six → xs.length ≤ j
  | [], n, j, h, _, _, _ => by simp
  | x :: t, n, j, h, h0, h1, hj => by
    obtain ⟨hk, hm, hs, hg⟩ := h.2.1.grows
    have hej : wd six - x.2 < j := pow_lt_of (by omega)
    have hd : n % 2 ^ (wd six - x.2 + 1) = 0 := mod_pow_le h0 (by omega)
    have hlt : m + 1 < n + 2 ^ (wd six - x.2 + 1) := by
      rcases hg with h | h | h
      · omega
      · exact absurd hd h
      · exact h
    have e2 : 2 ^ (wd six - x.2 + 1) = 2 ^ (wd six - x.2) + 2 ^ (wd six - x.2) := by rw [Nat.pow_succ]; omega
    have := RunP.down (j := wd six - x.2) h.2.2 (by rw [Nat.add_mod_right]; exact hm) (by omega) (by omega)
    simp only [List.length_cons]; omega
theorem odd_next {n e : Nat} (h : n % 2 ^ e = 0) (h1 : n % 2 ^ (e + 1) ≠ 0) : (n + 2 ^ e) % 2 ^ (e + 1) = 0 := by
  obtain ⟨q, hq⟩ := Nat.dvd_of_mod_eq_zero h
  have hq2 : q % 2 = 1 := by
    rcases Nat.mod_two_eq_zero_or_one q with hz | hz
    · refine absurd ?_ h1
      obtain ⟨r, hr⟩ := Nat.dvd_of_mod_eq_zero hz
      rw [hq, hr, Nat.pow_succ, ← Nat.mul_assoc]
      exact Nat.mul_mod_right _ _
    · exact hz
  have : n + 2 ^ e = 2 ^ (e + 1) * (q / 2 + 1) := by
    have : q = 2 * (q / 2) + 1 := by omega
    rw [hq, this, Nat.pow_succ]
    generalize 2 ^ e = p
    have : (2 * (q / 2) + 1) / 2 = q / 2 := by omega
    rw [this]
    rw [Nat.mul_add, Nat.mul_add, Nat.mul_assoc]
    omega
  rw [this]; simp
theorem RunP.up {six : Bool} {m : Nat} : ∀ {xs : List (Nat × Nat)} {n i j : Nat}, RunP six m n xs (m + 1) → n % 2 ^ i = 0 → i ≤ j → m + 1 - n < 2 ^ j → j ≤ wd six → xs.length ≤ 2 * j - i
  | [], n, i, j, h, _, _, _, _ => by simp
  | x :: t, n, i, j, h, h0, hij, h1, hj => by
    obtain ⟨hk, hm, hs, hg⟩ := h.2.1.grows
    have hej : wd six - x.2 < j := pow_lt_of (by omega)
    have e2 : 2 ^ (wd six - x.2 + 1) = 2 ^ (wd six - x.2) + 2 ^ (wd six - x.2) := by rw [Nat.pow_succ]; omega
    by_cases hd : n % 2 ^ (wd six - x.2 + 1) = 0
    · have hlt : m + 1 < n + 2 ^ (wd six - x.2 + 1) := by
        rcases hg with h | h | h
        · omega
        · exact absurd hd h
        · exact h
      have := RunP.down (j := wd six - x.2) h.2.2 (by rw [Nat.add_mod_right]; exact hm) (by omega) (by omega)
      simp only [List.length_cons]; omega
    · have hi : i ≤ wd six - x.2 := by
        by_cases hi : i ≤ wd six - x.2
        · exact hi
        · exact absurd (mod_pow_le h0 (by omega)) hd
      have := RunP.up (i := wd six - x.2 + 1) (j := j) h.2.2 (odd_next hm hd) (by omega) (by omega) hj
      simp only [List.length_cons]; omega
/-- A short range has few prefixes. -/
theorem RunP.few {six : Bool} {m n : Nat} {xs : List (Nat × Nat)} (h : RunP six m n xs (m + 1)) (hd : m + 1 - n ≤ 1048576) : xs.length ≤ 64 := by
  have hw : 32 ≤ wd six := by cases six <;> decide
  have hp : (2 : Nat) ^ 21 = 2097152 := by decide
  have := RunP.up (i := 0) (j := 21) h (Nat.mod_one _) (by decide) (by omega) (by omega)
  omega
/-- Two neighbours of one length are no halves. -/
theorem no_halves {six : Bool} {m n k : Nat} (h : MaxP six m n k) (h2 : n + 2 ^ (wd six - k) + 2 ^ (wd six - k) ≤ m + 1) (hk : 1 ≤ k) : ¬ n / 2 ^ (wd six - (k - 1)) = (n + 2 ^ (wd six - k)) / 2 ^ (wd six - (k - 1)) := by
  intro he
  obtain ⟨hkw, hm, hs, hg⟩ := h.grows
  have e1 : wd six - (k - 1) = wd six - k + 1 := by omega
  rw [e1] at he
  have e2 : 2 ^ (wd six - k + 1) = 2 ^ (wd six - k) + 2 ^ (wd six - k) := by rw [Nat.pow_succ]; omega
  rcases hg with h | h | h
  · omega
  · have := odd_next hm h
    have hp := Nat.one_le_two_pow (n := wd six - k)
    generalize 2 ^ (wd six - k) = p at *
    generalize 2 ^ (wd six - k + 1) = p2 at *
    subst e2
    obtain ⟨q, hq⟩ := Nat.dvd_of_mod_eq_zero this
    rw [hq, Nat.mul_div_cancel_left _ (by omega)] at he
    have h3 := Nat.div_add_mod n (p + p)
    rw [he] at h3
    omega
  · omega
end Go.Proofs.Ytoecmoicaklbaaa

/- Contracts: addr.Less; pre.Check of a prefix whose bits may be off. -/
set_option linter.unusedVariables false
namespace Go.Proofs.Ytoecmoicaklbaaa
open Go Go.RowKit Go.Sort Wc Wk


theorem less_any (six : Bool) (a b : Nat) (w : World) (ha : Fits six a) (hb : Fits six b) :
    Calls Try.prog 84 #[Value.agg #[.bool six, .int .u64 (hiOf six a), .int .u64 (loOf a)], Value.agg #[.bool six, .int .u64 (hiOf six b), .int .u64 (loOf b)]] w fun e w' => e = .returned (.bool (decide (a < b))) ∧ Below w.heap.size w w' := by
  have L := lt_words ha hb
  have E := addr_eq ha hb
  generalize hiOf six a = h1 at *
  generalize hiOf six b = h2 at *
  generalize loOf a = l1 at *
  generalize loOf b = l2 at *
  by_cases c1 : h1 < h2
  · have d := L.1 (.inl c1)
    rw [decide_eq_true d]
    clear L E d
    go_enter Try.func84, Try.ntmps84
    go_wp2
    go_returns
    exact ⟨rfl, by (repeat' (first | (with_reducible exact Below.refl _ _) | (with_reducible assumption) | (with_reducible refine Below.al ?_ _) | (with_reducible refine Below.dr ?_) | (with_reducible refine Below.step ?_ (by assumption)) | (with_reducible refine Below.set ?_ ?_ _) | omega | (dsimp only; omega) | (simp; done) | (simp; omega)))⟩
  · by_cases c2 : h1 = h2
    · subst c2
      by_cases c3 : l1 < l2
      · have d := L.1 (.inr ⟨rfl, c3⟩)
        rw [decide_eq_true d]
        clear L E d
        go_enter Try.func84, Try.ntmps84
        go_wp2
        go_returns
        exact ⟨rfl, by (repeat' (first | (with_reducible exact Below.refl _ _) | (with_reducible assumption) | (with_reducible refine Below.al ?_ _) | (with_reducible refine Below.dr ?_) | (with_reducible refine Below.step ?_ (by assumption)) | (with_reducible refine Below.set ?_ ?_ _) | omega | (dsimp only; omega) | (simp; done) | (simp; omega)))⟩
      · have d : ¬ a < b := fun h => by rcases L.2 h with h | h <;> omega
        rw [decide_eq_false d]
        clear L E d
        go_enter Try.func84, Try.ntmps84
        go_wp2
        go_returns
        exact ⟨rfl, by (repeat' (first | (with_reducible exact Below.refl _ _) | (with_reducible assumption) | (with_reducible refine Below.al ?_ _) | (with_reducible refine Below.dr ?_) | (with_reducible refine Below.step ?_ (by assumption)) | (with_reducible refine Below.set ?_ ?_ _) | omega | (dsimp only; omega) | (simp; done) | (simp; omega)))⟩
    · have d : ¬ a < b := fun h => by rcases L.2 h with h | h <;> omega
      rw [decide_eq_false d]
      clear L E d
      go_enter Try.func84, Try.ntmps84
      go_wp2
      go_returns
      exact ⟨rfl, by (repeat' (first | (with_reducible exact Below.refl _ _) | (with_reducible assumption) | (with_reducible refine Below.al ?_ _) | (with_reducible refine Below.dr ?_) | (with_reducible refine Below.step ?_ (by assumption)) | (with_reducible refine Below.set ?_ ?_ _) | omega | (dsimp only; omega) | (simp; done) | (simp; omega)))⟩


set_option maxHeartbeats 1000000 in
theorem check_bits (six : Bool) (n k : Nat) (w : World) (hf : Fits six n) (hk : k ≤ wd six) (hne : ¬ cutN (wd six) n k = n) :
    Calls Try.prog 48 #[Value.agg #[.bool six, .int .u64 (hiOf six n), .int .u64 (loOf n), .int .i64 k]] w fun e w' => e = .returned (.int .i64 5) ∧ Below w.heap.size w w' := by
  obtain ⟨r0, r1, r2⟩ := pwide_range six
  have M := Lib.hid (fun w => may_any six n w hf)
  have W := Lib.hid (fun w => wide_any six w)
  have C := Lib.hid (fun w => cut_any six n k w hf hk)
  rw [r2] at W
  have E := fun h => hne ((addr_eq (fits_cut hf k) hf).1 h)
  clear r2 hf hne
  generalize cutN (wd six) n k = c at *
  generalize wd six = u at *
  have hd : decide ((u : Int) < k) = false := by simp; omega
  by_cases h1 : hiOf six c = hiOf six n
  · have h2 : ¬ loOf c = loOf n := fun h => E ⟨h1, h⟩
    rw [h1] at C
    clear E h1
    go_enter Try.func48, Try.ntmps48
    go_wp2_with (first | ((with_reducible refine (M.out _).mono ?_); rintro e w1 ⟨rfl, hb1⟩; (repeat (with_reducible (replace hb1 := Below.undrew hb1))); obtain ⟨hc1, hf1⟩ := bcell hb1; have hz1 := hb1.size; (repeat (first | rw [World.size_alloc] at hz1 | rw [World.size_drew] at hz1 | rw [World.size_setCell] at hz1)); (try have : w.heap.size < w1.heap.size := by omega); (try have : w.heap.size < w1.heap.size + 1 := by omega); (try have : w.heap.size < w1.heap.size + 1 + 1 := by omega); (try have : w.heap.size < w1.heap.size + 1 + 1 + 1 := by omega); (try have : w.heap.size + 1 < w1.heap.size := by omega); (try have : w.heap.size + 1 < w1.heap.size + 1 := by omega); (try have : w.heap.size + 1 < w1.heap.size + 1 + 1 := by omega); (try have : w.heap.size + 1 < w1.heap.size + 1 + 1 + 1 := by omega)))
    refine wp_region_qb (by kernel_rfl) (by kernel_rfl) (fun kq => ?_)
    repeat (quiet_step (first | (with_reducible exact Calls.regrown_same (W.out _))))
    clear kq
    refine wpQuiet_nil ?_; intro w2 hb2; (repeat (with_reducible (replace hb2 := Below.undrew hb2))); obtain ⟨hc2, hf2⟩ := bcell hb2; have hz2 := hb2.size; (repeat (first | rw [World.size_alloc] at hz2 | rw [World.size_drew] at hz2 | rw [World.size_setCell] at hz2)); (try have : w.heap.size < w2.heap.size := by omega); (try have : w.heap.size < w2.heap.size + 1 := by omega); (try have : w.heap.size < w2.heap.size + 1 + 1 := by omega); (try have : w.heap.size < w2.heap.size + 1 + 1 + 1 := by omega); (try have : w.heap.size + 1 < w2.heap.size := by omega); (try have : w.heap.size + 1 < w2.heap.size + 1 := by omega); (try have : w.heap.size + 1 < w2.heap.size + 1 + 1 := by omega); (try have : w.heap.size + 1 < w2.heap.size + 1 + 1 + 1 := by omega); (try have : w1.heap.size < w2.heap.size := by omega); (try have : w1.heap.size < w2.heap.size + 1 := by omega); (try have : w1.heap.size < w2.heap.size + 1 + 1 := by omega); (try have : w1.heap.size < w2.heap.size + 1 + 1 + 1 := by omega)
    go_wp2_with (first | ((with_reducible refine (M.out _).mono ?_); rintro e w1 ⟨rfl, hb1⟩; (repeat (with_reducible (replace hb1 := Below.undrew hb1))); obtain ⟨hc1, hf1⟩ := bcell hb1; have hz1 := hb1.size; (repeat (first | rw [World.size_alloc] at hz1 | rw [World.size_drew] at hz1 | rw [World.size_setCell] at hz1)); (try have : w.heap.size < w1.heap.size := by omega); (try have : w.heap.size < w1.heap.size + 1 := by omega); (try have : w.heap.size < w1.heap.size + 1 + 1 := by omega); (try have : w.heap.size < w1.heap.size + 1 + 1 + 1 := by omega); (try have : w.heap.size + 1 < w1.heap.size := by omega); (try have : w.heap.size + 1 < w1.heap.size + 1 := by omega); (try have : w.heap.size + 1 < w1.heap.size + 1 + 1 := by omega); (try have : w.heap.size + 1 < w1.heap.size + 1 + 1 + 1 := by omega)))
    refine wp_region_qb (by kernel_rfl) (by kernel_rfl) (fun kq => ?_)
    repeat (quiet_step (first | (with_reducible exact Calls.regrown_of (C.out _))))
    clear kq
    refine wpQuiet_nil ?_; intro w3 hb3; (repeat (with_reducible (replace hb3 := Below.undrew hb3))); obtain ⟨hc3, hf3⟩ := bcell hb3; have hz3 := hb3.size; (repeat (first | rw [World.size_alloc] at hz3 | rw [World.size_drew] at hz3 | rw [World.size_setCell] at hz3)); (try have : w.heap.size < w3.heap.size := by omega); (try have : w.heap.size < w3.heap.size + 1 := by omega); (try have : w.heap.size < w3.heap.size + 1 + 1 := by omega); (try have : w.heap.size < w3.heap.size + 1 + 1 + 1 := by omega); (try have : w.heap.size + 1 < w3.heap.size := by omega); (try have : w.heap.size + 1 < w3.heap.size + 1 := by omega); (try have : w.heap.size + 1 < w3.heap.size + 1 + 1 := by omega); (try have : w.heap.size + 1 < w3.heap.size + 1 + 1 + 1 := by omega); (try have : w1.heap.size < w3.heap.size := by omega); (try have : w1.heap.size < w3.heap.size + 1 := by omega); (try have : w1.heap.size < w3.heap.size + 1 + 1 := by omega); (try have : w1.heap.size < w3.heap.size + 1 + 1 + 1 := by omega)
    go_wp2
    go_returns
    exact ⟨rfl, by (repeat' (first | (with_reducible exact Below.refl _ _) | (with_reducible assumption) | (with_reducible refine Below.al ?_ _) | (with_reducible refine Below.dr ?_) | (with_reducible refine Below.step ?_ (by assumption)) | (with_reducible refine Below.set ?_ ?_ _) | omega | (dsimp only; omega) | (simp; done) | (simp; omega)))⟩
  · clear E
    go_enter Try.func48, Try.ntmps48
    go_wp2_with (first | ((with_reducible refine (M.out _).mono ?_); rintro e w1 ⟨rfl, hb1⟩; (repeat (with_reducible (replace hb1 := Below.undrew hb1))); obtain ⟨hc1, hf1⟩ := bcell hb1; have hz1 := hb1.size; (repeat (first | rw [World.size_alloc] at hz1 | rw [World.size_drew] at hz1 | rw [World.size_setCell] at hz1)); (try have : w.heap.size < w1.heap.size := by omega); (try have : w.heap.size < w1.heap.size + 1 := by omega); (try have : w.heap.size < w1.heap.size + 1 + 1 := by omega); (try have : w.heap.size < w1.heap.size + 1 + 1 + 1 := by omega); (try have : w.heap.size + 1 < w1.heap.size := by omega); (try have : w.heap.size + 1 < w1.heap.size + 1 := by omega); (try have : w.heap.size + 1 < w1.heap.size + 1 + 1 := by omega); (try have : w.heap.size + 1 < w1.heap.size + 1 + 1 + 1 := by omega)))
    refine wp_region_qb (by kernel_rfl) (by kernel_rfl) (fun kq => ?_)
    repeat (quiet_step (first | (with_reducible exact Calls.regrown_same (W.out _))))
    clear kq
    refine wpQuiet_nil ?_; intro w2 hb2; (repeat (with_reducible (replace hb2 := Below.undrew hb2))); obtain ⟨hc2, hf2⟩ := bcell hb2; have hz2 := hb2.size; (repeat (first | rw [World.size_alloc] at hz2 | rw [World.size_drew] at hz2 | rw [World.size_setCell] at hz2)); (try have : w.heap.size < w2.heap.size := by omega); (try have : w.heap.size < w2.heap.size + 1 := by omega); (try have : w.heap.size < w2.heap.size + 1 + 1 := by omega); (try have : w.heap.size < w2.heap.size + 1 + 1 + 1 := by omega); (try have : w.heap.size + 1 < w2.heap.size := by omega); (try have : w.heap.size + 1 < w2.heap.size + 1 := by omega); (try have : w.heap.size + 1 < w2.heap.size + 1 + 1 := by omega); (try have : w.heap.size + 1 < w2.heap.size + 1 + 1 + 1 := by omega); (try have : w1.heap.size < w2.heap.size := by omega); (try have : w1.heap.size < w2.heap.size + 1 := by omega); (try have : w1.heap.size < w2.heap.size + 1 + 1 := by omega); (try have : w1.heap.size < w2.heap.size + 1 + 1 + 1 := by omega)
    go_wp2_with (first | ((with_reducible refine (M.out _).mono ?_); rintro e w1 ⟨rfl, hb1⟩; (repeat (with_reducible (replace hb1 := Below.undrew hb1))); obtain ⟨hc1, hf1⟩ := bcell hb1; have hz1 := hb1.size; (repeat (first | rw [World.size_alloc] at hz1 | rw [World.size_drew] at hz1 | rw [World.size_setCell] at hz1)); (try have : w.heap.size < w1.heap.size := by omega); (try have : w.heap.size < w1.heap.size + 1 := by omega); (try have : w.heap.size < w1.heap.size + 1 + 1 := by omega); (try have : w.heap.size < w1.heap.size + 1 + 1 + 1 := by omega); (try have : w.heap.size + 1 < w1.heap.size := by omega); (try have : w.heap.size + 1 < w1.heap.size + 1 := by omega); (try have : w.heap.size + 1 < w1.heap.size + 1 + 1 := by omega); (try have : w.heap.size + 1 < w1.heap.size + 1 + 1 + 1 := by omega)))
    refine wp_region_qb (by kernel_rfl) (by kernel_rfl) (fun kq => ?_)
    repeat (quiet_step (first | (with_reducible exact Calls.regrown_of (C.out _))))
    clear kq
    refine wpQuiet_nil ?_; intro w3 hb3; (repeat (with_reducible (replace hb3 := Below.undrew hb3))); obtain ⟨hc3, hf3⟩ := bcell hb3; have hz3 := hb3.size; (repeat (first | rw [World.size_alloc] at hz3 | rw [World.size_drew] at hz3 | rw [World.size_setCell] at hz3)); (try have : w.heap.size < w3.heap.size := by omega); (try have : w.heap.size < w3.heap.size + 1 := by omega); (try have : w.heap.size < w3.heap.size + 1 + 1 := by omega); (try have : w.heap.size < w3.heap.size + 1 + 1 + 1 := by omega); (try have : w.heap.size + 1 < w3.heap.size := by omega); (try have : w.heap.size + 1 < w3.heap.size + 1 := by omega); (try have : w.heap.size + 1 < w3.heap.size + 1 + 1 := by omega); (try have : w.heap.size + 1 < w3.heap.size + 1 + 1 + 1 := by omega); (try have : w1.heap.size < w3.heap.size := by omega); (try have : w1.heap.size < w3.heap.size + 1 := by omega); (try have : w1.heap.size < w3.heap.size + 1 + 1 := by omega); (try have : w1.heap.size < w3.heap.size + 1 + 1 + 1 := by omega)
    go_wp2
    go_returns
    exact ⟨rfl, by (repeat' (first | (with_reducible exact Below.refl _ _) | (with_reducible assumption) | (with_reducible refine Below.al ?_ _) | (with_reducible refine Below.dr ?_) | (with_reducible refine Below.step ?_ (by assumption)) | (with_reducible refine Below.set ?_ ?_ _) | omega | (dsimp only; omega) | (simp; done) | (simp; omega)))⟩
end Go.Proofs.Ytoecmoicaklbaaa

/- Contract: how a span of addresses is cut into prefixes. -/
set_option linter.unusedVariables false
namespace Wk
open Go Go.RowKit Go.Sort
/-- A row of cells at the head of a block, that may be written. -/
structure RX (w : World) (b : Nat) (c : List Value) : Prop where
  lt : b < w.heap.size
  cell : ∀ j u, c[j]? = some u → w.cell? ⟨b, j, none⟩ = some u
  fz : ∀ j, w.frozen? ⟨b, j, none⟩ = false
theorem RX.chg {w w' : World} {b : Nat} {c : List Value} {F : Nat → Nat → Prop} (h : RX w b c) (k : Chg w w' F) (hF : ∀ x, ¬ F b x) : RX w' b c :=
  ⟨Nat.lt_of_lt_of_le h.lt k.size, fun j u hu => (k.cell b j h.lt (hF j)).trans (h.cell j u hu), fun j => (k.froz b j h.lt).trans (h.fz j)⟩
theorem RX.below {w w' : World} {b : Nat} {c : List Value} (h : RX w b c) (k : Below w.heap.size w w') : RX w' b c := h.chg (Chg.of_below k (fun _ _ => False)) (fun _ h => h)
theorem rx_new {w : World} (c : List Value) (E : TypeId) : RX (w.alloc (.cells c.toArray E)) w.heap.size c :=
  ⟨by simp, fun j u hu => by simpa using hu, fun j => by simp⟩
theorem RX.grown {w w' : World} {b : Nat} {c : List Value} {r : Option Nat} (h : RX w b c) (k : w.grownBy w' r) (hr : ∀ g, r = some g → g ≠ b) : RX w' b c :=
  have e := k.block b h.lt (fun e => hr b e.symm rfl)
  ⟨Nat.lt_of_lt_of_le h.lt k.size, fun j u hu => (World.cell?_of_block (a := ⟨b, j, none⟩) e).trans (h.cell j u hu), fun j => (World.frozen?_of_block (a := ⟨b, j, none⟩) e).trans (h.fz j)⟩
def TyB (w : World) (b : Nat) (E : TypeId) : Prop := ∃ c, w.heap[b]? = some (.cells c E)
theorem TyB.apart {w : World} {B b : Nat} {e E : TypeId} {sz : Nat} {v : Value} {xs : List (List Value)} (h : TyB w b E) (o : Own w B e sz v xs) (hne : e ≠ E) : v.ownBlock ≠ some b := by
  obtain ⟨c, hc⟩ := h
  intro heq
  rcases o.2.2 with ⟨rfl, _⟩ | ⟨g, cap, cur, rfl, _, hg, _⟩
  · simp [Value.ownBlock] at heq
  · simp [Value.ownBlock] at heq
    subst heq
    rw [hg] at hc
    simp at hc
    exact hne hc.2
theorem ty_new (w : World) (c : Array Value) (E : TypeId) : TyB (w.alloc (.cells c E)) w.heap.size E := ⟨c, heap_alloc_new _ _⟩
theorem TyB.chg {w w' : World} {b : Nat} {E : TypeId} {F : Nat → Nat → Prop} (h : TyB w b E) (hb : b < w.heap.size) (k : Chg w w' F) (hF : ∀ x, ¬ F b x) : TyB w' b E := by
  obtain ⟨c, hc⟩ := h
  exact ⟨c, (k.block b hb hF).trans hc⟩
theorem TyB.below {w w' : World} {b : Nat} {E : TypeId} (h : TyB w b E) (hb : b < w.heap.size) (k : Below w.heap.size w w') : TyB w' b E := h.chg hb (Chg.of_below k (fun _ _ => False)) (fun _ h => h)
theorem TyB.grown {w w' : World} {b : Nat} {E : TypeId} {r : Option Nat} (h : TyB w b E) (hb : b < w.heap.size) (k : w.grownBy w' r) (hr : ∀ g, r = some g → g ≠ b) : TyB w' b E := by
  obtain ⟨c, hc⟩ := h
  exact ⟨c, (k.block b hb (fun e => hr b e.symm rfl)).trans hc⟩
end Wk
namespace Go.Proofs.Ytoecmoicaklbaaa
open Go Go.RowKit Go.Sort Wc Wk
theorem rx_set {w : World} {b : Nat} {c c' : List Value} (h : RX w b c) (hl : c'.length = c.length) : RX (setRow w b 0 c') b c' ∧ Chg w (setRow w b 0 c') (fun k _ => k = b) := by
  obtain ⟨s1, s2⟩ := setRow_chg b c' 0 w h.lt (fun j hj => ⟨_, by rw [Nat.zero_add]; exact h.cell j _ (List.getElem?_eq_getElem (by omega))⟩)
  refine ⟨⟨Nat.lt_of_lt_of_le h.lt s1.size, fun j u hu => by have := s2 j u hu; rwa [Nat.zero_add] at this, fun j => (s1.froz b j h.lt).trans (h.fz j)⟩, s1.mono (fun k x e => e.1)⟩
def pfxRow (six : Bool) (x : Nat × Nat) : List Value := preCells six x.1 x.2
def adCells (six : Bool) (n : Nat) : List Value := [.bool six, .int .u64 (hiOf six n), .int .u64 (loOf n)]

theorem maxP_down {six : Bool} {m a k : Nat} (h : VP six a k) (hl : lastN (wd six) a k ≤ m) (h0 : k = 0 ∨ ¬ (VP six a (k - 1) ∧ lastN (wd six) a (k - 1) ≤ m)) : MaxP six m a k := ⟨h, hl, h0⟩


set_option maxRecDepth 100000 in
set_option maxHeartbeats 1000000 in
theorem span_cut (six : Bool) (n m : Nat) (hm : Fits six m) (hnm : n ≤ m) (hd : m - n < 1048576) (B : Nat) (a0 : Option Addr) (cap0 : Nat) (xs0 : List (List Value)) (w : World)
    (hown : Own w B 30 4 (.slice a0 xs0.length cap0) xs0) (hB : B ≤ w.heap.size) (hl0 : xs0.length ≤ 1048576) :
    Calls Try.prog 79 #[Value.agg #[.bool six, .int .u64 (hiOf six n), .int .u64 (loOf n), .bool six, .int .u64 (hiOf six m), .int .u64 (loOf m)], .slice a0 xs0.length cap0] w fun e w' => ∃ v xs, e = .returned v ∧ Own w' B 30 4 v (xs0 ++ xs.map (pfxRow six)) ∧ RunP six m n xs (m + 1) ∧ Below B w w' := by
  have HO0 := Lib.hid hown
  have HM := Lib.hid hm
  obtain ⟨r0, r1, r2⟩ := pwide_range six
  have WD := Lib.hid (fun w => wide_any six w)
  rw [r2] at WD
  clear hown hm
  go_enter Try.func79, Try.ntmps79
  go_wp2_with fail
  generalize hW : (w.alloc (.cells #[.bool six, .int .u64 (hiOf six n), .int .u64 (loOf n), .bool six, .int .u64 (hiOf six m), .int .u64 (loOf m)] 141)).alloc (.cells #[.bool six, .int .u64 (hiOf six n), .int .u64 (loOf n)] 28) = W
  have HS : Hid (RX W w.heap.size (adCells six n ++ adCells six m)) := by rw [← hW]; exact (rx_new (adCells six n ++ adCells six m) 141).below (Below.al (Below.refl _ _) _)
  have HA : Hid (RX W (w.heap.size + 1) (adCells six n)) := by
    rw [← hW]
    have := rx_new (w := w.alloc (.cells #[.bool six, .int .u64 (hiOf six n), .int .u64 (loOf n), .bool six, .int .u64 (hiOf six m), .int .u64 (loOf m)] 141)) (adCells six n) 28
    rw [World.size_alloc] at this
    exact this
  have HOW : Hid (Own W B 30 4 (.slice a0 xs0.length cap0) xs0) := by rw [← hW]; exact (HO0.out.alloc _).alloc _
  have HTW : Hid (TyB W w.heap.size 141) := by
    rw [← hW]
    exact (ty_new w _ _).below (by simp) (Below.al (Below.refl _ _) _)
  have HTA : Hid (TyB W (w.heap.size + 1) 28) := by
    rw [← hW]
    have := ty_new (w.alloc (.cells #[.bool six, .int .u64 (hiOf six n), .int .u64 (loOf n), .bool six, .int .u64 (hiOf six m), .int .u64 (loOf m)] 141)) #[.bool six, .int .u64 (hiOf six n), .int .u64 (loOf n)] 28
    rw [World.size_alloc] at this
    exact this
  have HBW : Hid (Below w.heap.size w W) := by rw [← hW]; exact Below.al (Below.al (Below.refl _ _) _) _
  have WS : W.heap.size = w.heap.size + 2 := by rw [← hW]; simp
  obtain ⟨S, hS⟩ : ∃ S, S = w.heap.size := ⟨_, rfl⟩
  rw [← hS] at HS HA WS HTW HTA ⊢
  have HSE := Lib.hid hS
  have hB1 : B ≤ S := by omega
  clear hW hS HO0
  go_loopg [1, 5] (m + 1 - n) (fun g ov pv wr => ∃ (a bt : Nat) (xs : List (Nat × Nat)), pv = .pointer (some ⟨bt, 0, none⟩) ∧ Hid (RunP six m n xs a) ∧ a ≤ m ∧ m < a + g ∧ Hid (Own wr B 30 4 ov (xs0 ++ xs.map (pfxRow six))) ∧ Hid (RX wr bt (adCells six a)) ∧ Hid (RX wr S (adCells six n ++ adCells six m)) ∧
    Hid (TyB wr S 141) ∧ Hid (TyB wr bt 28) ∧ Hid (bt ≠ S ∧ B ≤ bt) ∧ Hid (Below B w wr))
  case atStart => exact ⟨n, S + 1, [], rfl, Lib.hid rfl, hnm, by omega, by simpa using HOW, HA, HS, HTW, HTA, Lib.hid ⟨by omega, by omega⟩, Lib.hid (HBW.out.mono hB)⟩
  case round =>
    obtain ⟨a, bt, xs, rfl, HRN, ham, hg, HOr, HAr, HSr, HTr, HTb, HbS, HBr⟩ := hrel
    have hfa : Fits six a := fits_lt HM.out ham
    have hla : bt < wr.heap.size := HAr.out.lt
    have hlS : S < wr.heap.size := HSr.out.lt
    obtain ⟨oa, oc, hov⟩ := HOr.out.shape
    generalize hL : (xs0 ++ xs.map (pfxRow six)).length = L at hov
    have HL := Lib.hid hL
    subst hov
    clear hL
    have HNr : Hid (∀ k, (Value.slice oa L oc).ownBlock = some k → k ≠ bt ∧ k ≠ S) := Lib.hid (fun k hk => ⟨fun e => HTb.out.apart HOr.out (by decide) (e ▸ hk), fun e => HTr.out.apart HOr.out (by decide) (e ▸ hk)⟩)
    have hlx : xs.length ≤ 1048576 := by have := HRN.out.le; omega
    have a0' := HAr.out.cell 0 _ rfl
    have a1' := HAr.out.cell 1 _ rfl
    have a2' := HAr.out.cell 2 _ rfl
    go_upto_region 2 with fail
    go_cut [6] (fun v wx => v = .pointer (some ⟨wr.heap.size, 0, none⟩) ∧ Hid (RX wx wr.heap.size (preCells six a (wd six))) ∧ Hid (Below wr.heap.size wr wx))
    case first =>
      go_region_held3 (fun w' => w'.cell? ⟨bt, 0, none⟩ = some (.bool six) ∧ w'.cell? ⟨bt, 1, none⟩ = some (.int .u64 (hiOf six a)) ∧ w'.cell? ⟨bt, 2, none⟩ = some (.int .u64 (loOf a))) (first | (go_simp; done) | (simp [*, go_sem, World.cell?_alloc_past]; done) | (simp [*, go_sem, World.cell?_alloc_past, World.cell?_setCell_far]; done))
        (first | ((with_reducible refine (WD.out _).mono ?_); rintro e w' ⟨rfl, rfl⟩))
      all_goals go_wp2_with fail
      all_goals go_meet
      all_goals exact ⟨rfl, (rx_new (preCells six a (wd six)) _).below (Below.drew (Below.refl _ _)), Below.drew (Below.alloc (Below.refl _ _) (Nat.le_refl _) _)⟩
    case rest =>
      obtain ⟨rfl, HP0, HB0⟩ := hcut
      obtain ⟨pb, hpb⟩ : ∃ pb, pb = wr.heap.size := ⟨_, rfl⟩
      rw [← hpb] at HP0 HB0 ⊢
      have HPB := Lib.hid hpb
      have HAc := Lib.hid (HAr.out.below (by rw [← hpb]; exact HB0.out))
      have HSc := Lib.hid (HSr.out.below (by rw [← hpb]; exact HB0.out))
      have HTc := Lib.hid (HTr.out.below hlS (by rw [← hpb]; exact HB0.out))
      have HTd := Lib.hid (HTb.out.below hla (by rw [← hpb]; exact HB0.out))
      have HOc := Lib.hid (HOr.out.below (by rw [← hpb]; exact HB0.out))
      have hpbt : bt ≠ pb := by omega
      have hpS : S ≠ pb := by omega
      have HNp : Hid (∀ k, (Value.slice oa L oc).ownBlock = some k → k < pb) := fun k hk => by have := (HOr.out.lt k hk).2; omega
      clear hpb a0' a1' a2'
      obtain ⟨wq, hwq⟩ : ∃ wq : World, wq = wc := ⟨_, rfl⟩
      rw [← hwq] at HP0 HB0 HAc HSc HTc HTd HOc ⊢
      clear hwq
      go_step
      go_step
      go_cut [] (fun wx => Hid (∃ k, MaxP six m a k ∧ RX wx pb (preCells six a k) ∧ Chg wq wx (fun b _ => b = pb)))
      case first =>
        go_wp2_with fail
        go_loopg [] (wd six + 1) (fun g wx => ∃ k, k < g ∧ Hid (VP six a k) ∧ Hid (lastN (wd six) a k ≤ m) ∧ Hid (RX wx pb (preCells six a k)) ∧ Hid (Chg wq wx (fun b _ => b = pb)))
        case atStart => exact ⟨wd six, Nat.lt_succ_self _, Lib.hid (vp_iff.2 ⟨hfa, Nat.le_refl _, by rw [Nat.sub_self]; exact Nat.mod_one _⟩), Lib.hid (by unfold lastN; rw [Nat.sub_self]; simpa using ham), HP0, Lib.hid (Chg.refl _ _)⟩
        case round =>
          obtain ⟨k, hkg, HV, HLm, HX, HC⟩ := hrel
          have hAi := HAc.out.chg HC.out (fun _ e => hpbt e)
          have hSi := HSc.out.chg HC.out (fun _ e => hpS e)
          have a0' := hAi.cell 0 _ rfl
          have a1' := hAi.cell 1 _ rfl
          have a2' := hAi.cell 2 _ rfl
          have s3' := hSi.cell 3 _ rfl
          have s4' := hSi.cell 4 _ rfl
          have s5' := hSi.cell 5 _ rfl
          have p0 := HX.out.cell 0 _ rfl
          have p1 := HX.out.cell 1 _ rfl
          have p2 := HX.out.cell 2 _ rfl
          have p3 := HX.out.cell 3 _ rfl
          have pf0 := HX.out.fz 0
          have pf1 := HX.out.fz 1
          have pf2 := HX.out.fz 2
          have pf3 := HX.out.fz 3
          have lp := HX.out.lt
          have la := hAi.lt
          have lS := hSi.lt
          clear hAi hSi
          rcases Nat.eq_zero_or_pos k with rfl | hk0
          · go_wp2_with fail
            go_meet
            exact ⟨0, maxP_down HV.out HLm.out (.inl rfl), HX.out, HC.out⟩
          · obtain ⟨k', rfl⟩ : ∃ k', k = k' + 1 := ⟨k - 1, by omega⟩
            have hkw : k' + 1 ≤ wd six := HV.out.2.1
            by_cases hv : VP six a k'
            · have C := Lib.hid (fun w => check_ok six a k' w hv)
              have LA := Lib.hid (fun w => last_any six a k' w hv)
              have LE := Lib.hid (fun w => less_any six m (lastN (wd six) a k') w HM.out (last_fits hv))
              have HV' := Lib.hid hv
              clear hv
              by_cases hl : m < lastN (wd six) a k'
              · rw [decide_eq_true hl] at LE
                have HL2 := Lib.hid hl
                clear hl
                go_wp2_with fail
                refine wp_region_qb (by kernel_rfl) (by kernel_rfl) (fun kq => ?_)
                repeat (quiet_step (first | (with_reducible exact Calls.regrown_of (C.out _)) | (with_reducible exact Calls.regrown_of (LA.out _)) | (with_reducible exact Calls.regrown_of (LE.out _))))
                clear kq
                refine wpQuiet_nil ?_; intro w9 hb9; (repeat (with_reducible (replace hb9 := Below.undrew hb9))); obtain ⟨hc9, hf9⟩ := bcell hb9; have hz9 := hb9.size; (repeat (first | rw [World.size_alloc] at hz9 | rw [World.size_drew] at hz9 | rw [World.size_setCell] at hz9)); (try have : w.heap.size < w9.heap.size := by omega); (try have : w.heap.size < w9.heap.size + 1 := by omega); (try have : w.heap.size < w9.heap.size + 1 + 1 := by omega); (try have : w.heap.size < w9.heap.size + 1 + 1 + 1 := by omega); (try have : w.heap.size + 1 < w9.heap.size := by omega); (try have : w.heap.size + 1 < w9.heap.size + 1 := by omega); (try have : w.heap.size + 1 < w9.heap.size + 1 + 1 := by omega); (try have : w.heap.size + 1 < w9.heap.size + 1 + 1 + 1 := by omega)
                have hb9' : Below wr.heap.size wr w9 := by (repeat' (first | (with_reducible exact Below.refl _ _) | (with_reducible assumption) | (with_reducible refine Below.alloc ?_ ?_ _) | (with_reducible refine Below.drew ?_) | (with_reducible refine Below.stepG ?_ (by assumption) ?_) | (with_reducible refine Below.setCell ?_ ?_ _) | omega | (dsimp only; omega) | (simp; done) | (simp; omega)))
                have HC9 := Lib.hid (HC.out.trans (Chg.of_below hb9' (fun b _ => b = pb)) (fun _ _ _ h => h))
                have HX9 := Lib.hid (HX.out.below hb9')
                clear hb9 hc9 hf9 hb9'
                go_wp2_with fail
                go_meet
                exact ⟨k' + 1, maxP_down HV.out HLm.out (.inr (fun h => by have := h.2; have := HL2.out; simp only [Nat.add_sub_cancel] at *; omega)), HX9.out, HC9.out⟩
              · rw [decide_eq_false hl] at LE
                have HL2 := Lib.hid (Nat.le_of_not_lt hl)
                clear hl
                go_wp2_with fail
                refine wp_region_qb (by kernel_rfl) (by kernel_rfl) (fun kq => ?_)
                repeat (quiet_step (first | (with_reducible exact Calls.regrown_of (C.out _)) | (with_reducible exact Calls.regrown_of (LA.out _)) | (with_reducible exact Calls.regrown_of (LE.out _))))
                clear kq
                refine wpQuiet_nil ?_; intro w9 hb9; (repeat (with_reducible (replace hb9 := Below.undrew hb9))); obtain ⟨hc9, hf9⟩ := bcell hb9; have hz9 := hb9.size; (repeat (first | rw [World.size_alloc] at hz9 | rw [World.size_drew] at hz9 | rw [World.size_setCell] at hz9)); (try have : w.heap.size < w9.heap.size := by omega); (try have : w.heap.size < w9.heap.size + 1 := by omega); (try have : w.heap.size < w9.heap.size + 1 + 1 := by omega); (try have : w.heap.size < w9.heap.size + 1 + 1 + 1 := by omega); (try have : w.heap.size + 1 < w9.heap.size := by omega); (try have : w.heap.size + 1 < w9.heap.size + 1 := by omega); (try have : w.heap.size + 1 < w9.heap.size + 1 + 1 := by omega); (try have : w.heap.size + 1 < w9.heap.size + 1 + 1 + 1 := by omega)
                have hb9' : Below wr.heap.size wr w9 := by (repeat' (first | (with_reducible exact Below.refl _ _) | (with_reducible assumption) | (with_reducible refine Below.alloc ?_ ?_ _) | (with_reducible refine Below.drew ?_) | (with_reducible refine Below.stepG ?_ (by assumption) ?_) | (with_reducible refine Below.setCell ?_ ?_ _) | omega | (dsimp only; omega) | (simp; done) | (simp; omega)))
                have HC9 := Lib.hid (HC.out.trans (Chg.of_below hb9' (fun b _ => b = pb)) (fun _ _ _ h => h))
                have HX9 := Lib.hid (HX.out.below hb9')
                have HQ := (rx_new (w := wr) (preCells six a k') 30).below (w' := w9) (by exact hb9)
                have q0 := HQ.cell 0 _ rfl
                have q1 := HQ.cell 1 _ rfl
                have q2 := HQ.cell 2 _ rfl
                have q3 := HQ.cell 3 _ rfl
                have g0 := HX9.out.cell 0 _ rfl
                have g1 := HX9.out.cell 1 _ rfl
                have g2 := HX9.out.cell 2 _ rfl
                have g3 := HX9.out.cell 3 _ rfl
                have gf0 := HX9.out.fz 0
                have gf1 := HX9.out.fz 1
                have gf2 := HX9.out.fz 2
                have gf3 := HX9.out.fz 3
                clear hb9 hc9 hf9 hb9' HQ p0 p1 p2 p3 pf0 pf1 pf2 pf3 a0' a1' a2' s3' s4' s5'
                go_wp2_with fail
                obtain ⟨z1, z2⟩ := rx_set (c' := preCells six a k') HX9.out rfl
                go_roundg (k' + 1)
                case measure => omega
                case rel => exact ⟨k', by omega, HV', HL2, Lib.hid z1, Lib.hid (HC9.out.trans z2 (fun _ _ _ h => h))⟩
            · have C := Lib.hid (fun w => check_bits six a k' w hfa (by omega) (fun e => hv ⟨hfa, by omega, e⟩))
              have HV' := Lib.hid hv
              clear hv
              go_wp2_with fail
              refine wp_region_qb (by kernel_rfl) (by kernel_rfl) (fun kq => ?_)
              repeat (quiet_step (first | (with_reducible exact Calls.regrown_of (C.out _))))
              clear kq
              refine wpQuiet_nil ?_; intro w9 hb9; (repeat (with_reducible (replace hb9 := Below.undrew hb9))); obtain ⟨hc9, hf9⟩ := bcell hb9; have hz9 := hb9.size; (repeat (first | rw [World.size_alloc] at hz9 | rw [World.size_drew] at hz9 | rw [World.size_setCell] at hz9)); (try have : w.heap.size < w9.heap.size := by omega); (try have : w.heap.size < w9.heap.size + 1 := by omega); (try have : w.heap.size < w9.heap.size + 1 + 1 := by omega); (try have : w.heap.size < w9.heap.size + 1 + 1 + 1 := by omega); (try have : w.heap.size + 1 < w9.heap.size := by omega); (try have : w.heap.size + 1 < w9.heap.size + 1 := by omega); (try have : w.heap.size + 1 < w9.heap.size + 1 + 1 := by omega); (try have : w.heap.size + 1 < w9.heap.size + 1 + 1 + 1 := by omega)
              have hb9' : Below wr.heap.size wr w9 := by (repeat' (first | (with_reducible exact Below.refl _ _) | (with_reducible assumption) | (with_reducible refine Below.alloc ?_ ?_ _) | (with_reducible refine Below.drew ?_) | (with_reducible refine Below.stepG ?_ (by assumption) ?_) | (with_reducible refine Below.setCell ?_ ?_ _) | omega | (dsimp only; omega) | (simp; done) | (simp; omega)))
              have HC9 := Lib.hid (HC.out.trans (Chg.of_below hb9' (fun b _ => b = pb)) (fun _ _ _ h => h))
              have HX9 := Lib.hid (HX.out.below hb9')
              clear hb9 hc9 hf9 hb9'
              go_wp2_with fail
              go_meet
              exact ⟨k' + 1, maxP_down HV.out HLm.out (.inr (fun h => HV'.out h.1)), HX9.out, HC9.out⟩
      case rest =>
        obtain ⟨k, hMX, hXk, hCk⟩ := hcut.out
        have hAi := HAc.out.chg hCk (fun _ e => hpbt e)
        have hSi := HSc.out.chg hCk (fun _ e => hpS e)
        have hTi := HTc.out.chg HSc.out.lt hCk (fun _ e => hpS e)
        have hTj := HTd.out.chg HAc.out.lt hCk (fun _ e => hpbt e)
        have hOi : Own wc B 30 4 (.slice oa L oc) (xs0 ++ xs.map (pfxRow six)) := HOc.out.chg hCk (fun b x e => e) (fun e => Nat.lt_irrefl _ (HNp.out _ e))
        have HBi : Hid (Below B w wc) := Lib.hid ((HBr.out.trans (HB0.out.mono (by have := HPB.out; omega))).trans (hCk.below (by have := HPB.out; have := HP0.out.lt; omega) (fun b x hb e => by have := HPB.out; omega)))
        have hvk := hMX.1
        have LA := Lib.hid (fun w => last_any six a k w hvk)
        have p0 := hXk.cell 0 _ rfl
        have p1 := hXk.cell 1 _ rfl
        have p2 := hXk.cell 2 _ rfl
        have p3 := hXk.cell 3 _ rfl
        have lp := hXk.lt
        have HXk := Lib.hid hXk
        have HAi := Lib.hid hAi
        have HSi := Lib.hid hSi
        have HTi := Lib.hid hTi
        have HTj := Lib.hid hTj
        have HOi := Lib.hid hOi
        have HMX := Lib.hid hMX
        have HCk := Lib.hid hCk
        clear hXk hAi hSi hTi hTj hOi hMX hvk hCk HP0 HB0 HAc HSc HTc HTd HOc hcut
        go_wp2_with (at_builtin; refine wpList_append_rows rfl _ _ 47 30 4 32 _ rfl eiPre B _ _ rfl (HOi.out.alloc _) _ [preCells six a k] rfl (sl_one (b := wc.heap.size) rfl ?c0 ?c1) ?c2 ?c3 ?c4 ?c5 ?c6 ?_)
        case c0 => simp
        case c1 =>
          intro j u hj
          match j, hj with
          | 0, hj => simp [preCells] at hj; subst hj; simp
          | 1, hj => simp [preCells] at hj; subst hj; simp
          | 2, hj => simp [preCells] at hj; subst hj; simp
          | 3, hj => simp [preCells] at hj; subst hj; simp
        case c2 =>
          intro c hc u hu
          rw [List.mem_singleton.1 hc] at hu
          exact preCells_one _ _ _ u hu
        case c3 =>
          simp only [List.length_append, List.length_map, List.length_singleton]
          omega
        case c4 => decide
        case c5 => have := HPB.out; simp only [World.size_alloc]; omega
        case c6 => simp
        intro v' w1 hown' hgr hbw
        have hz1 := hgr.size
        rw [World.size_alloc] at hz1
        have HO1 : Hid (Own w1 B 30 4 v' (xs0 ++ (xs ++ [(a, k)]).map (pfxRow six))) := Lib.hid (by rw [List.map_append]; simpa [List.append_assoc, pfxRow] using hown')
        have X1 := (HXk.out.below (Below.al (Below.refl _ _) _)).grown hgr (fun g e => by have := HNp.out _ e; omega)
        have A1 := (HAi.out.below (Below.al (Below.refl _ _) _)).grown hgr (fun g e => (HNr.out _ e).1)
        have S1 := (HSi.out.below (Below.al (Below.refl _ _) _)).grown hgr (fun g e => (HNr.out _ e).2)
        have T1 := (HTi.out.below HSi.out.lt (Below.al (Below.refl _ _) _)).grown (by have := HSi.out.lt; simp only [World.size_alloc]; omega) hgr (fun g e => (HNr.out _ e).2)
        have U1 := (HTj.out.below HAi.out.lt (Below.al (Below.refl _ _) _)).grown (by have := HAi.out.lt; simp only [World.size_alloc]; omega) hgr (fun g e => (HNr.out _ e).1)
        have B1 : Below B w w1 := (HBi.out.alloc (by have := HPB.out; omega) _).trans hbw
        have N1 : Hid (∀ g, v'.ownBlock = some g → g < w1.heap.size ∧ g ≠ bt ∧ g ≠ S) := Lib.hid (fun g hg => ⟨(HO1.out.lt g hg).2, fun e => U1.apart HO1.out (by decide) (e ▸ hg), fun e => T1.apart HO1.out (by decide) (e ▸ hg)⟩)
        have p0 := X1.cell 0 _ rfl
        have p1 := X1.cell 1 _ rfl
        have p2 := X1.cell 2 _ rfl
        have p3 := X1.cell 3 _ rfl
        have s3' := S1.cell 3 _ rfl
        have s4' := S1.cell 4 _ rfl
        have s5' := S1.cell 5 _ rfl
        have a0' := A1.cell 0 _ rfl
        have a1' := A1.cell 1 _ rfl
        have a2' := A1.cell 2 _ rfl
        have af0 := A1.fz 0
        have af1 := A1.fz 1
        have af2 := A1.fz 2
        have lp := X1.lt
        have la := A1.lt
        have lS := S1.lt
        have HA1 := Lib.hid A1
        have HS1 := Lib.hid S1
        have HT1 := Lib.hid T1
        have HB1 := Lib.hid B1
        clear X1 A1 S1 T1 U1 B1 hown' hgr hbw
        
        by_cases hlm : lastN (wd six) a k = m
        · rw [hlm] at LA
          have HLM := Lib.hid hlm
          clear hlm
          go_wp2_with (first | ((with_reducible refine (LA.out _).mono ?_); rintro e w2 ⟨rfl, hb2⟩; (repeat (with_reducible (replace hb2 := Below.undrew hb2))); obtain ⟨hc2, hf2⟩ := bcell hb2; have hz2 := hb2.size; (repeat (first | rw [World.size_alloc] at hz2 | rw [World.size_drew] at hz2 | rw [World.size_setCell] at hz2)); (try have : S < w2.heap.size := by omega); (try have : S < w2.heap.size + 1 := by omega); (try have : S < w2.heap.size + 1 + 1 := by omega); (try have : S < w2.heap.size + 1 + 1 + 1 := by omega); (try have : bt < w2.heap.size := by omega); (try have : bt < w2.heap.size + 1 := by omega); (try have : bt < w2.heap.size + 1 + 1 := by omega); (try have : bt < w2.heap.size + 1 + 1 + 1 := by omega); (try have : pb < w2.heap.size := by omega); (try have : pb < w2.heap.size + 1 := by omega); (try have : pb < w2.heap.size + 1 + 1 := by omega); (try have : pb < w2.heap.size + 1 + 1 + 1 := by omega)))
          go_returns
          exact ⟨_, xs ++ [(a, k)], rfl, by ((repeat (first | (with_reducible refine Wk.Own.alloc ?_ _) | (with_reducible refine Wk.Own.dr ?_))); refine Wk.Own.below ?_ hb2; (repeat (first | (with_reducible refine Wk.Own.alloc ?_ _) | (with_reducible refine Wk.Own.dr ?_))); exact HO1.out), HRN.out.append ⟨rfl, HMX.out, by have := HLM.out; unfold lastN at this; have := Nat.one_le_two_pow (n := wd six - k); show a + 2 ^ (wd six - k) = m + 1; omega⟩, by (have B1 := HB1.out; (repeat' (first | (with_reducible exact Below.refl _ _) | (with_reducible assumption) | (with_reducible refine Below.alloc ?_ ?_ _) | (with_reducible refine Below.drew ?_) | (with_reducible refine Below.stepG ?_ (by assumption) ?_) | (with_reducible refine Below.setCell ?_ ?_ _) | omega | (dsimp only; omega) | (simp; done) | (simp; omega))))⟩
        · have hlt : lastN (wd six) a k < m := Nat.lt_of_le_of_ne HMX.out.2.1 hlm
          have hp1 := Nat.one_le_two_pow (n := wd six - k)
          obtain ⟨a', ha'⟩ : ∃ a', a' = a + 2 ^ (wd six - k) := ⟨_, rfl⟩
          have hla' : a' = lastN (wd six) a k + 1 := by unfold lastN; omega
          have hlf := last_fits HMX.out.1
          have haf : Fits six a' := fits_lt HM.out (by omega)
          have PL := Lib.hid (fun w => plus_ok six (lastN (wd six) a k) 1 w hlf (by decide) (by decide) a' (by omega) haf)
          have hne : ¬ (hiOf six (lastN (wd six) a k) = hiOf six m ∧ loOf (lastN (wd six) a k) = loOf m) := fun e => hlm ((addr_eq hlf HM.out).1 e)
          have HLT := Lib.hid hlt
          have HA' := Lib.hid ha'
          have HLA := Lib.hid hla'
          clear hlt hp1 ha' hla' hlf haf hlm
          generalize lastN (wd six) a k = q at *
          by_cases hh : hiOf six q = hiOf six m
          · have hl : ¬ loOf q = loOf m := fun e => hne ⟨hh, e⟩
            clear hne
            rw [hh] at LA PL
            clear hh
            go_wp2_with (first | ((with_reducible refine (LA.out _).mono ?_); rintro e w2 ⟨rfl, hb2⟩; (repeat (with_reducible (replace hb2 := Below.undrew hb2))); obtain ⟨hc2, hf2⟩ := bcell hb2; have hz2 := hb2.size; (repeat (first | rw [World.size_alloc] at hz2 | rw [World.size_drew] at hz2 | rw [World.size_setCell] at hz2)); (try have : S < w2.heap.size := by omega); (try have : S < w2.heap.size + 1 := by omega); (try have : S < w2.heap.size + 1 + 1 := by omega); (try have : S < w2.heap.size + 1 + 1 + 1 := by omega); (try have : bt < w2.heap.size := by omega); (try have : bt < w2.heap.size + 1 := by omega); (try have : bt < w2.heap.size + 1 + 1 := by omega); (try have : bt < w2.heap.size + 1 + 1 + 1 := by omega); (try have : pb < w2.heap.size := by omega); (try have : pb < w2.heap.size + 1 := by omega); (try have : pb < w2.heap.size + 1 + 1 := by omega); (try have : pb < w2.heap.size + 1 + 1 + 1 := by omega)) | ((with_reducible refine (PL.out _).mono ?_); rintro e w3 ⟨rfl, hb3⟩; (repeat (with_reducible (replace hb3 := Below.undrew hb3))); obtain ⟨hc3, hf3⟩ := bcell hb3; have hz3 := hb3.size; (repeat (first | rw [World.size_alloc] at hz3 | rw [World.size_drew] at hz3 | rw [World.size_setCell] at hz3)); (try have : S < w3.heap.size := by omega); (try have : S < w3.heap.size + 1 := by omega); (try have : S < w3.heap.size + 1 + 1 := by omega); (try have : S < w3.heap.size + 1 + 1 + 1 := by omega); (try have : bt < w3.heap.size := by omega); (try have : bt < w3.heap.size + 1 := by omega); (try have : bt < w3.heap.size + 1 + 1 := by omega); (try have : bt < w3.heap.size + 1 + 1 + 1 := by omega); (try have : pb < w3.heap.size := by omega); (try have : pb < w3.heap.size + 1 := by omega); (try have : pb < w3.heap.size + 1 + 1 := by omega); (try have : pb < w3.heap.size + 1 + 1 + 1 := by omega)))
            go_roundg (gk - 2 ^ (wd six - k))
            case measure => have := Nat.one_le_two_pow (n := wd six - k); omega
            case rel =>
              have h13 : Below w1.heap.size w1 w3 := by (repeat' (first | (with_reducible exact Below.refl _ _) | (with_reducible assumption) | (with_reducible refine Below.alloc ?_ ?_ _) | (with_reducible refine Below.drew ?_) | (with_reducible refine Below.stepG ?_ (by assumption) ?_) | (with_reducible refine Below.setCell ?_ ?_ _) | omega | (dsimp only; omega) | (simp; done) | (simp; omega)))
              obtain ⟨z1, z2⟩ := rx_set (c' := adCells six a') (HA1.out.below h13) rfl
              have hz : (setRow w3 bt 0 (adCells six a')).heap.size = w3.heap.size := by simp [setRow, adCells]
              have hz3 := h13.size
              have hs1 := HS1.out.lt
              have HF := rx_new (w := setRow w3 bt 0 (adCells six a')) (adCells six a') 28
              have HG := ty_new (setRow w3 bt 0 (adCells six a')) (adCells six a').toArray 28
              have HK := (z2.below (B := w3.heap.size) (Nat.le_refl _))
              rw [hz] at HF HG
              have e1 := HA'.out
              have e2 := HLA.out
              have e3 := HLT.out
              have hS4 := ((HS1.out.below h13).chg z2 (fun _ e => HbS.out.1 e.symm)).below (Below.al (Below.refl _ _) (.cells (adCells six a').toArray 28))
              have hT4 := ((HT1.out.below hs1 h13).chg (by omega) z2 (fun _ e => HbS.out.1 e.symm)).below (by rw [hz]; omega) (Below.al (Below.refl _ _) (.cells (adCells six a').toArray 28))
              have hO4 := ((HO1.out.below h13).chg z2 (fun b x e => e) (fun e => (N1.out _ e).2.1 rfl)).alloc (.cells (adCells six a').toArray 28)
              have hB4 : Below B w _ := ((HB1.out.trans (h13.mono (by omega))).trans (z2.below (by omega) (fun b x hb e => by have := HbS.out.2; omega))).alloc (by rw [hz]; omega) (.cells (adCells six a').toArray 28)
              refine ⟨a', _, xs ++ [(a, k)], rfl, Lib.hid (HRN.out.append ⟨rfl, HMX.out, e1.symm⟩), by omega, by have := Nat.one_le_two_pow (n := wd six - k); omega, Lib.hid hO4, Lib.hid HF, Lib.hid hS4, Lib.hid hT4, Lib.hid HG, Lib.hid ⟨by omega, by omega⟩, Lib.hid hB4⟩
          · clear hne
            go_wp2_with (first | ((with_reducible refine (LA.out _).mono ?_); rintro e w2 ⟨rfl, hb2⟩; (repeat (with_reducible (replace hb2 := Below.undrew hb2))); obtain ⟨hc2, hf2⟩ := bcell hb2; have hz2 := hb2.size; (repeat (first | rw [World.size_alloc] at hz2 | rw [World.size_drew] at hz2 | rw [World.size_setCell] at hz2)); (try have : S < w2.heap.size := by omega); (try have : S < w2.heap.size + 1 := by omega); (try have : S < w2.heap.size + 1 + 1 := by omega); (try have : S < w2.heap.size + 1 + 1 + 1 := by omega); (try have : bt < w2.heap.size := by omega); (try have : bt < w2.heap.size + 1 := by omega); (try have : bt < w2.heap.size + 1 + 1 := by omega); (try have : bt < w2.heap.size + 1 + 1 + 1 := by omega); (try have : pb < w2.heap.size := by omega); (try have : pb < w2.heap.size + 1 := by omega); (try have : pb < w2.heap.size + 1 + 1 := by omega); (try have : pb < w2.heap.size + 1 + 1 + 1 := by omega)) | ((with_reducible refine (PL.out _).mono ?_); rintro e w3 ⟨rfl, hb3⟩; (repeat (with_reducible (replace hb3 := Below.undrew hb3))); obtain ⟨hc3, hf3⟩ := bcell hb3; have hz3 := hb3.size; (repeat (first | rw [World.size_alloc] at hz3 | rw [World.size_drew] at hz3 | rw [World.size_setCell] at hz3)); (try have : S < w3.heap.size := by omega); (try have : S < w3.heap.size + 1 := by omega); (try have : S < w3.heap.size + 1 + 1 := by omega); (try have : S < w3.heap.size + 1 + 1 + 1 := by omega); (try have : bt < w3.heap.size := by omega); (try have : bt < w3.heap.size + 1 := by omega); (try have : bt < w3.heap.size + 1 + 1 := by omega); (try have : bt < w3.heap.size + 1 + 1 + 1 := by omega); (try have : pb < w3.heap.size := by omega); (try have : pb < w3.heap.size + 1 := by omega); (try have : pb < w3.heap.size + 1 + 1 := by omega); (try have : pb < w3.heap.size + 1 + 1 + 1 := by omega)))
            go_roundg (gk - 2 ^ (wd six - k))
            case measure => have := Nat.one_le_two_pow (n := wd six - k); omega
            case rel =>
              have h13 : Below w1.heap.size w1 w3 := by (repeat' (first | (with_reducible exact Below.refl _ _) | (with_reducible assumption) | (with_reducible refine Below.alloc ?_ ?_ _) | (with_reducible refine Below.drew ?_) | (with_reducible refine Below.stepG ?_ (by assumption) ?_) | (with_reducible refine Below.setCell ?_ ?_ _) | omega | (dsimp only; omega) | (simp; done) | (simp; omega)))
              obtain ⟨z1, z2⟩ := rx_set (c' := adCells six a') (HA1.out.below h13) rfl
              have hz : (setRow w3 bt 0 (adCells six a')).heap.size = w3.heap.size := by simp [setRow, adCells]
              have hz3 := h13.size
              have hs1 := HS1.out.lt
              have HF := rx_new (w := setRow w3 bt 0 (adCells six a')) (adCells six a') 28
              have HG := ty_new (setRow w3 bt 0 (adCells six a')) (adCells six a').toArray 28
              have HK := (z2.below (B := w3.heap.size) (Nat.le_refl _))
              rw [hz] at HF HG
              have e1 := HA'.out
              have e2 := HLA.out
              have e3 := HLT.out
              have hS4 := ((HS1.out.below h13).chg z2 (fun _ e => HbS.out.1 e.symm)).below (Below.al (Below.refl _ _) (.cells (adCells six a').toArray 28))
              have hT4 := ((HT1.out.below hs1 h13).chg (by omega) z2 (fun _ e => HbS.out.1 e.symm)).below (by rw [hz]; omega) (Below.al (Below.refl _ _) (.cells (adCells six a').toArray 28))
              have hO4 := ((HO1.out.below h13).chg z2 (fun b x e => e) (fun e => (N1.out _ e).2.1 rfl)).alloc (.cells (adCells six a').toArray 28)
              have hB4 : Below B w _ := ((HB1.out.trans (h13.mono (by omega))).trans (z2.below (by omega) (fun b x hb e => by have := HbS.out.2; omega))).alloc (by rw [hz]; omega) (.cells (adCells six a').toArray 28)
              refine ⟨a', _, xs ++ [(a, k)], rfl, Lib.hid (HRN.out.append ⟨rfl, HMX.out, e1.symm⟩), by omega, by have := Nat.one_le_two_pow (n := wd six - k); omega, Lib.hid hO4, Lib.hid HF, Lib.hid hS4, Lib.hid hT4, Lib.hid HG, Lib.hid ⟨by omega, by omega⟩, Lib.hid hB4⟩
end Go.Proofs.Ytoecmoicaklbaaa
