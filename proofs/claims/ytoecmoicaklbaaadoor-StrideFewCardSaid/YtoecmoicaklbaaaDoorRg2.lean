
/- Plain laws on the prefixes of a range. -/
import Derived.Test.YtoecmoicaklbaaaDoorPres
import Derived.Test.YtoecmoicaklbaaaDoorQx
import Derived.Deep.LoopGhost
import Derived.Deep.DeepCutAuto
set_option linter.unusedVariables false
namespace Go.Proofs.YtoecmoicaklbaaaDoor
open Go Go.RowKit Go.Sort Wc Wk

/-- The greatest prefix that begins at n and does not go behind m. -/
def MaxP (six : Bool) (m n k : Nat) : Prop := VP six n k ∧ lastN (wd six) n k ≤ m ∧ (k = 0 ∨ ¬ (VP six n (k - 1) ∧ lastN (wd six) n (k - 1) ≤ m))
/-- Greatest prefixes side by side, from n to at. -/
def RunP (six : Bool) (m : Nat) : Nat → List (Nat × Nat) → Nat → Prop
  | n, [], a => n = a
  | n, x :: t, a => x.1 = n ∧ MaxP six m n x.2 ∧ RunP six m (n + 2 ^ (wd six - x.2)) t a

theorem RunP.append {six : Bool} {m : Nat} : ∀ {n : Nat} {xs ys : List (Nat × Nat)} {a b : Nat}, RunP six m n xs a → RunP six m a ys b → RunP six m n (xs ++ ys) b
  | n, [], ys, a, b, h, k => by
    have : n = a := h
    subst this; exact k
  | n, x :: t, ys, a, b, h, k => ⟨h.1, h.2.1, RunP.append h.2.2 k⟩
theorem RunP.le {six : Bool} {m : Nat} : ∀ {n : Nat} {xs : List (Nat × Nat)} {a : Nat}, RunP six m n xs a → n + xs.length ≤ a
  | n, [], a, h => by have : n = a := h; simp; omega
  | n, x :: t, a, h => by
    have := RunP.le h.2.2
    have := Nat.one_le_two_pow (n := wd six - x.2)
    simp only [List.length_cons]; omega
theorem RunP.each {six : Bool} {m : Nat} : ∀ {n : Nat} {xs : List (Nat × Nat)} {a : Nat}, RunP six m n xs a → ∀ x ∈ xs, VP six x.1 x.2
  | n, [], a, h, x, hx => by cases hx
  | n, y :: t, a, h, x, hx => by
    rcases List.mem_cons.1 hx with rfl | hx
    · rw [h.1]; exact h.2.1.1
    · exact RunP.each h.2.2 x hx
theorem RunP.drop {six : Bool} {m : Nat} {n : Nat} {xs : List (Nat × Nat)} {a i : Nat} {x : Nat × Nat} (h : RunP six m n (xs.drop i) a) (hx : xs[i]? = some x) : x.1 = n ∧ MaxP six m n x.2 ∧ RunP six m (n + 2 ^ (wd six - x.2)) (xs.drop (i + 1)) a := by
  obtain ⟨hi, hx'⟩ := List.getElem?_eq_some_iff.1 hx
  rw [List.drop_eq_getElem_cons hi, hx'] at h
  exact h
theorem RunP.at {six : Bool} {m : Nat} : ∀ {i : Nat} {n : Nat} {xs : List (Nat × Nat)} {a : Nat}, RunP six m n xs a → i ≤ xs.length → ∃ b, RunP six m b (xs.drop i) a
  | 0, n, xs, a, h, _ => ⟨n, by simpa using h⟩
  | i + 1, n, [], a, h, hi => by simp at hi
  | i + 1, n, x :: t, a, h, hi => by
    obtain ⟨b, hb⟩ := RunP.at (i := i) h.2.2 (by simpa using hi)
    exact ⟨b, by simpa using hb⟩

theorem vp_iff {six : Bool} {n k : Nat} : VP six n k ↔ Fits six n ∧ k ≤ wd six ∧ n % 2 ^ (wd six - k) = 0 := by
  refine ⟨fun h => ⟨h.1, h.2.1, dvd_of_cut h.2.2⟩, fun h => ⟨h.1, h.2.1, ?_⟩⟩
  unfold cutN
  exact Nat.div_mul_cancel (Nat.dvd_of_mod_eq_zero h.2.2)

theorem mod_pow_le {n i j : Nat} (h : n % 2 ^ j = 0) (hij : i ≤ j) : n % 2 ^ i = 0 :=
  Nat.mod_eq_zero_of_dvd (Nat.dvd_trans (Nat.pow_dvd_pow 2 hij) (Nat.dvd_of_mod_eq_zero h))
/-- What a greatest prefix says of its size. -/
theorem MaxP.grows {six : Bool} {m n k : Nat} (h : MaxP six m n k) : k ≤ wd six ∧ n % 2 ^ (wd six - k) = 0 ∧ n + 2 ^ (wd six - k) ≤ m + 1 ∧ (wd six - k = wd six ∨ n % 2 ^ (wd six - k + 1) ≠ 0 ∨ m + 1 < n + 2 ^ (wd six - k + 1)) := by
  obtain ⟨hv, hl, hg⟩ := h
  obtain ⟨hf, hk, hm⟩ := vp_iff.1 hv
  refine ⟨hk, hm, ?_, ?_⟩
  · unfold lastN at hl
    have := Nat.one_le_two_pow (n := wd six - k)
    omega
  · by_cases h0 : k = 0
    · exact .inl (by omega)
    · refine .inr ?_
      have hg := hg.resolve_left h0
      have e1 : wd six - (k - 1) = wd six - k + 1 := by omega
      by_cases hd : n % 2 ^ (wd six - k + 1) = 0
      · refine .inr ?_
        have : ¬ lastN (wd six) n (k - 1) ≤ m := fun hl' => hg ⟨vp_iff.2 ⟨hf, by omega, by rw [e1]; exact hd⟩, hl'⟩
        unfold lastN at this
        rw [e1] at this
        have := Nat.one_le_two_pow (n := wd six - k + 1)
        omega
      · exact .inl hd
theorem pow_lt_of {a b : Nat} (h : 2 ^ a < 2 ^ b) : a < b := (Nat.pow_lt_pow_iff_right (by decide)).1 h
theorem RunP.down {six : Bool} {m : Nat} : ∀ {xs : List (Nat × Nat)} {n j : Nat}, RunP six m n xs (m + 1) → n % 2 ^ j = 0 → m + 1 - n < 2 ^ j → j ≤ wd six → xs.length ≤ j
  | [], n, j, h, _, _, _ => by simp
  | x :: t, n, j, h, h0, h1, hj => by
    obtain ⟨hk, hm, hs, hg⟩ := h.2.1.grows
    have hej : wd six - x.2 < j := pow_lt_of (by omega)
    have hd : n % 2 ^ (wd six - x.2 + 1) = 0 := mod_pow_le h0 (by omega)
    have hlt : m + 1 < n + 2 ^ (wd six - x.2 + 1) := by
      rcases hg with h | h | h
      · omega
      · exact absurd hd h
      · exact h
    have e2 : 2 ^ (wd six - x.2 + 1) = 2 ^ (wd six - x.2) + 2 ^ (wd six - x.2) := by rw [Nat.pow_succ]; omega
    have := RunP.down (j := wd six - x.2) h.2.2 (by rw [Nat.add_mod_right]; exact hm) (by omega) (by omega)
    simp only [List.length_cons]; omega
theorem odd_next {n e : Nat} (h : n % 2 ^ e = 0) (h1 : n % 2 ^ (e + 1) ≠ 0) : (n + 2 ^ e) % 2 ^ (e + 1) = 0 := by
  obtain ⟨q, hq⟩ := Nat.dvd_of_mod_eq_zero h
  have hq2 : q % 2 = 1 := by
    rcases Nat.mod_two_eq_zero_or_one q with hz | hz
    · refine absurd ?_ h1
      obtain ⟨r, hr⟩ := Nat.dvd_of_mod_eq_zero hz
      rw [hq, hr, Nat.pow_succ, ← Nat.mul_assoc]
      exact Nat.mul_mod_right _ _
    · exact hz
  have : n + 2 ^ e = 2 ^ (e + 1) * (q / 2 + 1) := by
    have : q = 2 * (q / 2) + 1 := by omega
    rw [hq, this, Nat.pow_succ]
    generalize 2 ^ e = p
    have : (2 * (q / 2) + 1) / 2 = q / 2 := by omega
    rw [this]
    rw [Nat.mul_add, Nat.mul_add, Nat.mul_assoc]
    omega
  rw [this]; simp
theorem RunP.up {six : Bool} {m : Nat} : ∀ {xs : List (Nat × Nat)} {n i j : Nat}, RunP six m n xs (m + 1) → n % 2 ^ i = 0 → i ≤ j → m + 1 - n < 2 ^ j → j ≤ wd six → xs.length ≤ 2 * j - i
  | [], n, i, j, h, _, _, _, _ => by simp
  | x :: t, n, i, j, h, h0, hij, h1, hj => by
    obtain ⟨hk, hm, hs, hg⟩ := h.2.1.grows
    have hej : wd six - x.2 < j := pow_lt_of (by omega)
    have e2 : 2 ^ (wd six - x.2 + 1) = 2 ^ (wd six - x.2) + 2 ^ (wd six - x.2) := by rw [Nat.pow_succ]; omega
    by_cases hd : n % 2 ^ (wd six - x.2 + 1) = 0
    · have hlt : m + 1 < n + 2 ^ (wd six - x.2 + 1) := by
        rcases hg with h | h | h
        · omega
        · exact absurd hd h
        · exact h
      have := RunP.down (j := wd six - x.2) h.2.2 (by rw [Nat.add_mod_right]; exact hm) (by omega) (by omega)
      simp only [List.length_cons]; omega
    · have hi : i ≤ wd six - x.2 := by
        by_cases hi : i ≤ wd six - x.2
        · exact hi
        · exact absurd (mod_pow_le h0 (by omega)) hd
      have := RunP.up (i := wd six - x.2 + 1) (j := j) h.2.2 (odd_next hm hd) (by omega) (by omega) hj
      simp only [List.length_cons]; omega
/-- A short range has few prefixes. -/
theorem RunP.few {six : Bool} {m n : Nat} {xs : List (Nat × Nat)} (h : RunP six m n xs (m + 1)) (hd : m + 1 - n ≤ 1048576) : xs.length ≤ 64 := by
  have hw : 32 ≤ wd six := by cases six <;> decide
  have hp : (2 : Nat) ^ 21 = 2097152 := by decide
  have := RunP.up (i := 0) (j := 21) h (Nat.mod_one _) (by decide) (by omega) (by omega)
  omega
/-- Two neighbours of one length are no halves. -/
theorem no_halves {six : Bool} {m n k : Nat} (h : MaxP six m n k) (h2 : n + 2 ^ (wd six - k) + 2 ^ (wd six - k) ≤ m + 1) (hk : 1 ≤ k) : ¬ n / 2 ^ (wd six - (k - 1)) = (n + 2 ^ (wd six - k)) / 2 ^ (wd six - (k - 1)) := by
  intro he
  obtain ⟨hkw, hm, hs, hg⟩ := h.grows
  have e1 : wd six - (k - 1) = wd six - k + 1 := by omega
  rw [e1] at he
  have e2 : 2 ^ (wd six - k + 1) = 2 ^ (wd six - k) + 2 ^ (wd six - k) := by rw [Nat.pow_succ]; omega
  rcases hg with h | h | h
  · omega
  · have := odd_next hm h
    have hp := Nat.one_le_two_pow (n := wd six - k)
    generalize 2 ^ (wd six - k) = p at *
    generalize 2 ^ (wd six - k + 1) = p2 at *
    subst e2
    obtain ⟨q, hq⟩ := Nat.dvd_of_mod_eq_zero this
    rw [hq, Nat.mul_div_cancel_left _ (by omega)] at he
    have h3 := Nat.div_add_mod n (p + p)
    rw [he] at h3
    omega
  · omega
end Go.Proofs.YtoecmoicaklbaaaDoor

/- Contracts: addr.Less; pre.Check of a prefix whose bits may be off. -/
set_option linter.unusedVariables false
namespace Go.Proofs.YtoecmoicaklbaaaDoor
open Go Go.RowKit Go.Sort Wc Wk


theorem less_any (six : Bool) (a b : Nat) (w : World) (ha : Fits six a) (hb : Fits six b) :
    Calls Tryd.prog 43 #[Value.agg #[.bool six, .int .u64 (hiOf six a), .int .u64 (loOf a)], Value.agg #[.bool six, .int .u64 (hiOf six b), .int .u64 (loOf b)]] w fun e w' => e = .returned (.bool (decide (a < b))) ∧ Below w.heap.size w w' := by
  have L := lt_words ha hb
  have E := addr_eq ha hb
  generalize hiOf six a = h1 at *
  generalize hiOf six b = h2 at *
  generalize loOf a = l1 at *
  generalize loOf b = l2 at *
  by_cases c1 : h1 < h2
  · have d := L.1 (.inl c1)
    rw [decide_eq_true d]
    clear L E d
    go_enter Tryd.func43, Tryd.ntmps43
    go_wp2
    go_returns
    exact ⟨rfl, by (repeat' (first | (with_reducible exact Below.refl _ _) | (with_reducible assumption) | (with_reducible refine Below.al ?_ _) | (with_reducible refine Below.dr ?_) | (with_reducible refine Below.step ?_ (by assumption)) | (with_reducible refine Below.set ?_ ?_ _) | omega | (dsimp only; omega) | (simp; done) | (simp; omega)))⟩
  · by_cases c2 : h1 = h2
    · subst c2
      by_cases c3 : l1 < l2
      · have d := L.1 (.inr ⟨rfl, c3⟩)
        rw [decide_eq_true d]
        clear L E d
        go_enter Tryd.func43, Tryd.ntmps43
        go_wp2
        go_returns
        exact ⟨rfl, by (repeat' (first | (with_reducible exact Below.refl _ _) | (with_reducible assumption) | (with_reducible refine Below.al ?_ _) | (with_reducible refine Below.dr ?_) | (with_reducible refine Below.step ?_ (by assumption)) | (with_reducible refine Below.set ?_ ?_ _) | omega | (dsimp only; omega) | (simp; done) | (simp; omega)))⟩
      · have d : ¬ a < b := fun h => by rcases L.2 h with h | h <;> omega
        rw [decide_eq_false d]
        clear L E d
        go_enter Tryd.func43, Tryd.ntmps43
        go_wp2
        go_returns
        exact ⟨rfl, by (repeat' (first | (with_reducible exact Below.refl _ _) | (with_reducible assumption) | (with_reducible refine Below.al ?_ _) | (with_reducible refine Below.dr ?_) | (with_reducible refine Below.step ?_ (by assumption)) | (with_reducible refine Below.set ?_ ?_ _) | omega | (dsimp only; omega) | (simp; done) | (simp; omega)))⟩
    · have d : ¬ a < b := fun h => by rcases L.2 h with h | h <;> omega
      rw [decide_eq_false d]
      clear L E d
      go_enter Tryd.func43, Tryd.ntmps43
      go_wp2
      go_returns
      exact ⟨rfl, by (repeat' (first | (with_reducible exact Below.refl _ _) | (with_reducible assumption) | (with_reducible refine Below.al ?_ _) | (with_reducible refine Below.dr ?_) | (with_reducible refine Below.step ?_ (by assumption)) | (with_reducible refine Below.set ?_ ?_ _) | omega | (dsimp only; omega) | (simp; done) | (simp; omega)))⟩


set_option maxHeartbeats 1000000 in
theorem check_bits (six : Bool) (n k : Nat) (w : World) (hf : Fits six n) (hk : k ≤ wd six) (hne : ¬ cutN (wd six) n k = n) :
    Calls Tryd.prog 64 #[Value.agg #[.bool six, .int .u64 (hiOf six n), .int .u64 (loOf n), .int .i64 k]] w fun e w' => e = .returned (.int .i64 5) ∧ Below w.heap.size w w' := by
  obtain ⟨r0, r1, r2⟩ := pwide_range six
  have M := Lib.hid (fun w => may_any six n w hf)
  have W := Lib.hid (fun w => wide_any six w)
  have C := Lib.hid (fun w => cut_any six n k w hf hk)
  rw [r2] at W
  have E := fun h => hne ((addr_eq (fits_cut hf k) hf).1 h)
  clear r2 hf hne
  generalize cutN (wd six) n k = c at *
  generalize wd six = u at *
  have hd : decide ((u : Int) < k) = false := by simp; omega
  by_cases h1 : hiOf six c = hiOf six n
  · have h2 : ¬ loOf c = loOf n := fun h => E ⟨h1, h⟩
    rw [h1] at C
    clear E h1
    go_enter Tryd.func64, Tryd.ntmps64
    go_wp2_with (first | ((with_reducible refine (M.out _).mono ?_); rintro e w1 ⟨rfl, hb1⟩; (repeat (with_reducible (replace hb1 := Below.undrew hb1))); obtain ⟨hc1, hf1⟩ := bcell hb1; have hz1 := hb1.size; (repeat (first | rw [World.size_alloc] at hz1 | rw [World.size_drew] at hz1 | rw [World.size_setCell] at hz1)); (try have : w.heap.size < w1.heap.size := by omega); (try have : w.heap.size < w1.heap.size + 1 := by omega); (try have : w.heap.size < w1.heap.size + 1 + 1 := by omega); (try have : w.heap.size < w1.heap.size + 1 + 1 + 1 := by omega); (try have : w.heap.size + 1 < w1.heap.size := by omega); (try have : w.heap.size + 1 < w1.heap.size + 1 := by omega); (try have : w.heap.size + 1 < w1.heap.size + 1 + 1 := by omega); (try have : w.heap.size + 1 < w1.heap.size + 1 + 1 + 1 := by omega)))
    refine wp_region_qb (by kernel_rfl) (by kernel_rfl) (fun kq => ?_)
    repeat (quiet_step (first | (with_reducible exact Calls.regrown_same (W.out _))))
    clear kq
    refine wpQuiet_nil ?_; intro w2 hb2; (repeat (with_reducible (replace hb2 := Below.undrew hb2))); obtain ⟨hc2, hf2⟩ := bcell hb2; have hz2 := hb2.size; (repeat (first | rw [World.size_alloc] at hz2 | rw [World.size_drew] at hz2 | rw [World.size_setCell] at hz2)); (try have : w.heap.size < w2.heap.size := by omega); (try have : w.heap.size < w2.heap.size + 1 := by omega); (try have : w.heap.size < w2.heap.size + 1 + 1 := by omega); (try have : w.heap.size < w2.heap.size + 1 + 1 + 1 := by omega); (try have : w.heap.size + 1 < w2.heap.size := by omega); (try have : w.heap.size + 1 < w2.heap.size + 1 := by omega); (try have : w.heap.size + 1 < w2.heap.size + 1 + 1 := by omega); (try have : w.heap.size + 1 < w2.heap.size + 1 + 1 + 1 := by omega); (try have : w1.heap.size < w2.heap.size := by omega); (try have : w1.heap.size < w2.heap.size + 1 := by omega); (try have : w1.heap.size < w2.heap.size + 1 + 1 := by omega); (try have : w1.heap.size < w2.heap.size + 1 + 1 + 1 := by omega)
    go_wp2_with (first | ((with_reducible refine (M.out _).mono ?_); rintro e w1 ⟨rfl, hb1⟩; (repeat (with_reducible (replace hb1 := Below.undrew hb1))); obtain ⟨hc1, hf1⟩ := bcell hb1; have hz1 := hb1.size; (repeat (first | rw [World.size_alloc] at hz1 | rw [World.size_drew] at hz1 | rw [World.size_setCell] at hz1)); (try have : w.heap.size < w1.heap.size := by omega); (try have : w.heap.size < w1.heap.size + 1 := by omega); (try have : w.heap.size < w1.heap.size + 1 + 1 := by omega); (try have : w.heap.size < w1.heap.size + 1 + 1 + 1 := by omega); (try have : w.heap.size + 1 < w1.heap.size := by omega); (try have : w.heap.size + 1 < w1.heap.size + 1 := by omega); (try have : w.heap.size + 1 < w1.heap.size + 1 + 1 := by omega); (try have : w.heap.size + 1 < w1.heap.size + 1 + 1 + 1 := by omega)))
    refine wp_region_qb (by kernel_rfl) (by kernel_rfl) (fun kq => ?_)
    repeat (quiet_step (first | (with_reducible exact Calls.regrown_of (C.out _))))
    clear kq
    refine wpQuiet_nil ?_; intro w3 hb3; (repeat (with_reducible (replace hb3 := Below.undrew hb3))); obtain ⟨hc3, hf3⟩ := bcell hb3; have hz3 := hb3.size; (repeat (first | rw [World.size_alloc] at hz3 | rw [World.size_drew] at hz3 | rw [World.size_setCell] at hz3)); (try have : w.heap.size < w3.heap.size := by omega); (try have : w.heap.size < w3.heap.size + 1 := by omega); (try have : w.heap.size < w3.heap.size + 1 + 1 := by omega); (try have : w.heap.size < w3.heap.size + 1 + 1 + 1 := by omega); (try have : w.heap.size + 1 < w3.heap.size := by omega); (try have : w.heap.size + 1 < w3.heap.size + 1 := by omega); (try have : w.heap.size + 1 < w3.heap.size + 1 + 1 := by omega); (try have : w.heap.size + 1 < w3.heap.size + 1 + 1 + 1 := by omega); (try have : w1.heap.size < w3.heap.size := by omega); (try have : w1.heap.size < w3.heap.size + 1 := by omega); (try have : w1.heap.size < w3.heap.size + 1 + 1 := by omega); (try have : w1.heap.size < w3.heap.size + 1 + 1 + 1 := by omega)
    go_wp2
    go_returns
    exact ⟨rfl, by (repeat' (first | (with_reducible exact Below.refl _ _) | (with_reducible assumption) | (with_reducible refine Below.al ?_ _) | (with_reducible refine Below.dr ?_) | (with_reducible refine Below.step ?_ (by assumption)) | (with_reducible refine Below.set ?_ ?_ _) | omega | (dsimp only; omega) | (simp; done) | (simp; omega)))⟩
  · clear E
    go_enter Tryd.func64, Tryd.ntmps64
    go_wp2_with (first | ((with_reducible refine (M.out _).mono ?_); rintro e w1 ⟨rfl, hb1⟩; (repeat (with_reducible (replace hb1 := Below.undrew hb1))); obtain ⟨hc1, hf1⟩ := bcell hb1; have hz1 := hb1.size; (repeat (first | rw [World.size_alloc] at hz1 | rw [World.size_drew] at hz1 | rw [World.size_setCell] at hz1)); (try have : w.heap.size < w1.heap.size := by omega); (try have : w.heap.size < w1.heap.size + 1 := by omega); (try have : w.heap.size < w1.heap.size + 1 + 1 := by omega); (try have : w.heap.size < w1.heap.size + 1 + 1 + 1 := by omega); (try have : w.heap.size + 1 < w1.heap.size := by omega); (try have : w.heap.size + 1 < w1.heap.size + 1 := by omega); (try have : w.heap.size + 1 < w1.heap.size + 1 + 1 := by omega); (try have : w.heap.size + 1 < w1.heap.size + 1 + 1 + 1 := by omega)))
    refine wp_region_qb (by kernel_rfl) (by kernel_rfl) (fun kq => ?_)
    repeat (quiet_step (first | (with_reducible exact Calls.regrown_same (W.out _))))
    clear kq
    refine wpQuiet_nil ?_; intro w2 hb2; (repeat (with_reducible (replace hb2 := Below.undrew hb2))); obtain ⟨hc2, hf2⟩ := bcell hb2; have hz2 := hb2.size; (repeat (first | rw [World.size_alloc] at hz2 | rw [World.size_drew] at hz2 | rw [World.size_setCell] at hz2)); (try have : w.heap.size < w2.heap.size := by omega); (try have : w.heap.size < w2.heap.size + 1 := by omega); (try have : w.heap.size < w2.heap.size + 1 + 1 := by omega); (try have : w.heap.size < w2.heap.size + 1 + 1 + 1 := by omega); (try have : w.heap.size + 1 < w2.heap.size := by omega); (try have : w.heap.size + 1 < w2.heap.size + 1 := by omega); (try have : w.heap.size + 1 < w2.heap.size + 1 + 1 := by omega); (try have : w.heap.size + 1 < w2.heap.size + 1 + 1 + 1 := by omega); (try have : w1.heap.size < w2.heap.size := by omega); (try have : w1.heap.size < w2.heap.size + 1 := by omega); (try have : w1.heap.size < w2.heap.size + 1 + 1 := by omega); (try have : w1.heap.size < w2.heap.size + 1 + 1 + 1 := by omega)
    go_wp2_with (first | ((with_reducible refine (M.out _).mono ?_); rintro e w1 ⟨rfl, hb1⟩; (repeat (with_reducible (replace hb1 := Below.undrew hb1))); obtain ⟨hc1, hf1⟩ := bcell hb1; have hz1 := hb1.size; (repeat (first | rw [World.size_alloc] at hz1 | rw [World.size_drew] at hz1 | rw [World.size_setCell] at hz1)); (try have : w.heap.size < w1.heap.size := by omega); (try have : w.heap.size < w1.heap.size + 1 := by omega); (try have : w.heap.size < w1.heap.size + 1 + 1 := by omega); (try have : w.heap.size < w1.heap.size + 1 + 1 + 1 := by omega); (try have : w.heap.size + 1 < w1.heap.size := by omega); (try have : w.heap.size + 1 < w1.heap.size + 1 := by omega); (try have : w.heap.size + 1 < w1.heap.size + 1 + 1 := by omega); (try have : w.heap.size + 1 < w1.heap.size + 1 + 1 + 1 := by omega)))
    refine wp_region_qb (by kernel_rfl) (by kernel_rfl) (fun kq => ?_)
    repeat (quiet_step (first | (with_reducible exact Calls.regrown_of (C.out _))))
    clear kq
    refine wpQuiet_nil ?_; intro w3 hb3; (repeat (with_reducible (replace hb3 := Below.undrew hb3))); obtain ⟨hc3, hf3⟩ := bcell hb3; have hz3 := hb3.size; (repeat (first | rw [World.size_alloc] at hz3 | rw [World.size_drew] at hz3 | rw [World.size_setCell] at hz3)); (try have : w.heap.size < w3.heap.size := by omega); (try have : w.heap.size < w3.heap.size + 1 := by omega); (try have : w.heap.size < w3.heap.size + 1 + 1 := by omega); (try have : w.heap.size < w3.heap.size + 1 + 1 + 1 := by omega); (try have : w.heap.size + 1 < w3.heap.size := by omega); (try have : w.heap.size + 1 < w3.heap.size + 1 := by omega); (try have : w.heap.size + 1 < w3.heap.size + 1 + 1 := by omega); (try have : w.heap.size + 1 < w3.heap.size + 1 + 1 + 1 := by omega); (try have : w1.heap.size < w3.heap.size := by omega); (try have : w1.heap.size < w3.heap.size + 1 := by omega); (try have : w1.heap.size < w3.heap.size + 1 + 1 := by omega); (try have : w1.heap.size < w3.heap.size + 1 + 1 + 1 := by omega)
    go_wp2
    go_returns
    exact ⟨rfl, by (repeat' (first | (with_reducible exact Below.refl _ _) | (with_reducible assumption) | (with_reducible refine Below.al ?_ _) | (with_reducible refine Below.dr ?_) | (with_reducible refine Below.step ?_ (by assumption)) | (with_reducible refine Below.set ?_ ?_ _) | omega | (dsimp only; omega) | (simp; done) | (simp; omega)))⟩
end Go.Proofs.YtoecmoicaklbaaaDoor

/- Contract: how a span of addresses is cut into prefixes. -/
set_option linter.unusedVariables false
namespace Wk
open Go Go.RowKit Go.Sort
/-- A row of cells at the head of a block, that may be written. -/
structure RX (w : World) (b : Nat) (c : List Value) : Prop where
  lt : b < w.heap.size
  cell : ∀ j u, c[j]? = some u → w.cell? ⟨b, j, none⟩ = some u
  fz : ∀ j, w.frozen? ⟨b, j, none⟩ = false
theorem RX.chg {w w' : World} {b : Nat} {c : List Value} {F : Nat → Nat → Prop} (h : RX w b c) (k : Chg w w' F) (hF : ∀ x, ¬ F b x) : RX w' b c :=
  ⟨Nat.lt_of_lt_of_le h.lt k.size, fun j u hu => (k.cell b j h.lt (hF j)).trans (h.cell j u hu), fun j => (k.froz b j h.lt).trans (h.fz j)⟩
theorem RX.below {w w' : World} {b : Nat} {c : List Value} (h : RX w b c) (k : Below w.heap.size w w') : RX w' b c := h.chg (Chg.of_below k (fun _ _ => False)) (fun _ h => h)
theorem rx_new {w : World} (c : List Value) (E : TypeId) : RX (w.alloc (.cells c.toArray E)) w.heap.size c :=
  ⟨by simp, fun j u hu => by simpa using hu, fun j => by simp⟩
theorem RX.grown {w w' : World} {b : Nat} {c : List Value} {r : Option Nat} (h : RX w b c) (k : w.grownBy w' r) (hr : ∀ g, r = some g → g ≠ b) : RX w' b c :=
  have e := k.block b h.lt (fun e => hr b e.symm rfl)
  ⟨Nat.lt_of_lt_of_le h.lt k.size, fun j u hu => (World.cell?_of_block (a := ⟨b, j, none⟩) e).trans (h.cell j u hu), fun j => (World.frozen?_of_block (a := ⟨b, j, none⟩) e).trans (h.fz j)⟩
def TyB (w : World) (b : Nat) (E : TypeId) : Prop := ∃ c, w.heap[b]? = some (.cells c E)
theorem TyB.apart {w : World} {B b : Nat} {e E : TypeId} {sz : Nat} {v : Value} {xs : List (List Value)} (h : TyB w b E) (o : Own w B e sz v xs) (hne : e ≠ E) : v.ownBlock ≠ some b := by
  obtain ⟨c, hc⟩ := h
  intro heq
  rcases o.2.2 with ⟨rfl, _⟩ | ⟨g, cap, cur, rfl, _, hg, _⟩
  · simp [Value.ownBlock] at heq
  · simp [Value.ownBlock] at heq
    subst heq
    rw [hg] at hc
    simp at hc
    exact hne hc.2
theorem ty_new (w : World) (c : Array Value) (E : TypeId) : TyB (w.alloc (.cells c E)) w.heap.size E := ⟨c, heap_alloc_new _ _⟩
theorem TyB.chg {w w' : World} {b : Nat} {E : TypeId} {F : Nat → Nat → Prop} (h : TyB w b E) (hb : b < w.heap.size) (k : Chg w w' F) (hF : ∀ x, ¬ F b x) : TyB w' b E := by
  obtain ⟨c, hc⟩ := h
  exact ⟨c, (k.block b hb hF).trans hc⟩
theorem TyB.below {w w' : World} {b : Nat} {E : TypeId} (h : TyB w b E) (hb : b < w.heap.size) (k : Below w.heap.size w w') : TyB w' b E := h.chg hb (Chg.of_below k (fun _ _ => False)) (fun _ h => h)
theorem TyB.grown {w w' : World} {b : Nat} {E : TypeId} {r : Option Nat} (h : TyB w b E) (hb : b < w.heap.size) (k : w.grownBy w' r) (hr : ∀ g, r = some g → g ≠ b) : TyB w' b E := by
  obtain ⟨c, hc⟩ := h
  exact ⟨c, (k.block b hb (fun e => hr b e.symm rfl)).trans hc⟩
end Wk
namespace Go.Proofs.YtoecmoicaklbaaaDoor
open Go Go.RowKit Go.Sort Wc Wk
theorem rx_set {w : World} {b : Nat} {c c' : List Value} (h : RX w b c) (hl : c'.length = c.length) : RX (setRow w b 0 c') b c' ∧ Chg w (setRow w b 0 c') (fun k _ => k = b) := by
  obtain ⟨s1, s2⟩ := setRow_chg b c' 0 w h.lt (fun j hj => ⟨_, by rw [Nat.zero_add]; exact h.cell j _ (List.getElem?_eq_getElem (by omega))⟩)
  refine ⟨⟨Nat.lt_of_lt_of_le h.lt s1.size, fun j u hu => by have := s2 j u hu; rwa [Nat.zero_add] at this, fun j => (s1.froz b j h.lt).trans (h.fz j)⟩, s1.mono (fun k x e => e.1)⟩
def pfxRow (six : Bool) (x : Nat × Nat) : List Value := preCells six x.1 x.2
def adCells (six : Bool) (n : Nat) : List Value := [.bool six, .int .u64 (hiOf six n), .int .u64 (loOf n)]

theorem maxP_down {six : Bool} {m a k : Nat} (h : VP six a k) (hl : lastN (wd six) a k ≤ m) (h0 : k = 0 ∨ ¬ (VP six a (k - 1) ∧ lastN (wd six) a (k - 1) ≤ m)) : MaxP six m a k := ⟨h, hl, h0⟩


end Go.Proofs.YtoecmoicaklbaaaDoor
