
/- Trees of strides: plain laws: the bits of a number, one by one from the lowest; how many there are. -/
import Derived.Test.YtoecmoicaklbaaaDoorStT
import Derived.Test.YtoecmoicaklbaaaDoorStV
import Derived.Lib.TrailingZeros
set_option linter.unusedVariables false
set_option linter.unusedSimpArgs false
namespace Go.Proofs.YtoecmoicaklbaaaDoor
open Go Go.RowKit Go.Sort Wc Wk

theorem sumB_dvd {a : Nat} : ∀ {t : List Nat}, (∀ i ∈ t, a ≤ i) → 2 ^ a ∣ sumB t
  | [], _ => Nat.dvd_zero _
  | x :: t, h => by
    have h1 : sumB (x :: t) = 2 ^ x + sumB t := rfl
    rw [h1]
    exact (Nat.dvd_add_right (Nat.pow_dvd_pow 2 (h x (by simp)))).2 (sumB_dvd (fun i hi => h i (List.mem_cons_of_mem _ hi)))
theorem odd_one {a c u m : Nat} (h : 2 ^ a * (2 * u + 1) = 2 ^ c * (2 * m + 1)) : a = c := by
  have key : ∀ {a c u m : Nat}, a < c → 2 ^ a * (2 * u + 1) = 2 ^ c * (2 * m + 1) → False := by
    intro a c u m hlt h
    obtain ⟨d, rfl⟩ : ∃ d, c = a + (d + 1) := ⟨c - a - 1, by omega⟩
    rw [Nat.pow_add, Nat.mul_assoc] at h
    have := Nat.eq_of_mul_eq_mul_left (Nat.two_pow_pos a) h
    rw [Nat.pow_succ, Nat.mul_comm (2 ^ d) 2, Nat.mul_assoc] at this
    omega
  rcases Nat.lt_trichotomy a c with h1 | h1 | h1
  · exact (key h1 h).elim
  · exact h1
  · exact (key h1 h.symm).elim
theorem sumB_cons_odd {a : Nat} {t : List Nat} (h : ∀ i ∈ t, a < i) : ∃ u, sumB (a :: t) = 2 ^ a * (2 * u + 1) ∧ sumB t = 2 ^ (a + 1) * u := by
  obtain ⟨u, hu⟩ := sumB_dvd (a := a + 1) (t := t) (fun i hi => h i hi)
  refine ⟨u, ?_, hu⟩
  have h1 : sumB (a :: t) = 2 ^ a + sumB t := rfl
  rw [h1, hu, Nat.pow_succ, Nat.mul_add, Nat.mul_one, Nat.mul_assoc]
  omega
theorem ctz_cons {a : Nat} {t : List Nat} (h : ∀ i ∈ t, a < i) (hlt : sumB (a :: t) < 2 ^ 64) : Lib.ctz 64 (sumB (a :: t)) = a := by
  obtain ⟨u, hu, _⟩ := sumB_cons_odd h
  have hp := Nat.two_pow_pos a
  have hpos : 0 < sumB (a :: t) := by
    have h1 : sumB (a :: t) = 2 ^ a + sumB t := rfl
    omega
  unfold Lib.ctz
  rw [if_neg (by omega)]
  obtain ⟨m, hm, _⟩ := Lib.ctzFrom_spec 64 _ hpos hlt
  rw [hu] at hm ⊢
  exact (odd_one hm).symm
theorem and_pred_cons {a : Nat} {t : List Nat} (h : ∀ i ∈ t, a < i) : sumB (a :: t) &&& (sumB (a :: t) - 1) = sumB t := by
  obtain ⟨u, hu, ht⟩ := sumB_cons_odd h
  have hp := Nat.two_pow_pos a
  have e1 : sumB (a :: t) = 2 ^ (a + 1) * u + 2 ^ a := by rw [← ht]; show 2 ^ a + sumB t = _; omega
  have e2 : sumB (a :: t) - 1 = 2 ^ (a + 1) * u + (2 ^ a - 1) := by omega
  have l1 : 2 ^ a < 2 ^ (a + 1) := by rw [Nat.pow_succ]; omega
  have l2 : 2 ^ a - 1 < 2 ^ (a + 1) := by omega
  rw [e2, e1, Nat.two_pow_add_eq_or_of_lt l1, Nat.two_pow_add_eq_or_of_lt l2, ← Nat.or_and_distrib_left, Nat.and_two_pow_sub_one_eq_mod, Nat.mod_self, Nat.or_zero, ht]
theorem sumB_drop (l : List Nat) (m : Nat) : sumB (l.drop m) ≤ sumB l := by
  have h : sumB l = sumB (l.take m) + sumB (l.drop m) := by
    unfold sumB
    rw [← List.sum_append, ← List.map_append, List.take_append_drop]
  omega
/-- The numbers of bits of a word of sixteen. -/
structure BitL (l : List Nat) : Prop where
  asc : l.Pairwise (fun x y => x < y)
  lt : ∀ i ∈ l, i < 16
  sum : sumB l < 65536
theorem BitL.pick (P : Nat → Bool) : BitL (pick16 P) :=
  ⟨List.pairwise_lt_range.filter _, fun i hi => (mem_pick.1 hi).1, sum_pk_small P (Nat.le_refl 16)⟩
theorem BitL.drop_cons {l : List Nat} (h : BitL l) {m a : Nat} (ha : l[m]? = some a) : l.drop m = a :: l.drop (m + 1) ∧ ∀ i ∈ l.drop (m + 1), a < i := by
  obtain ⟨hm, e⟩ := List.getElem?_eq_some_iff.1 ha
  have h1 : l.drop m = a :: l.drop (m + 1) := by rw [List.drop_eq_getElem_cons hm, e]
  refine ⟨h1, ?_⟩
  have hp := h.asc.sublist (List.drop_sublist m l)
  rw [h1] at hp
  exact (List.pairwise_cons.1 hp).1
theorem bit_sum (P : Nat → Bool) : ∀ (k i : Nat), i < k → sumB (pkB P k) / 2 ^ i % 2 = if P i then 1 else 0
  | 0, i, h => by omega
  | k + 1, i, h => by
    have hlt := sum_pk_lt P k
    by_cases e : i = k
    · subst e
      cases hp : P i with
      | true =>
        rw [pk_yes hp, sumB_snoc, Nat.add_div_right _ (Nat.two_pow_pos _), Nat.div_eq_of_lt hlt]
        rfl
      | false =>
        rw [pk_no hp, Nat.div_eq_of_lt hlt]
        rfl
    · have ih := bit_sum P k i (by omega)
      cases hp : P k with
      | true =>
        rw [pk_yes hp, sumB_snoc]
        have e2 : 2 ^ k = 2 ^ i * (2 * 2 ^ (k - i - 1)) := by
          rw [← Nat.pow_succ', ← Nat.pow_add]
          congr 1
          omega
        rw [e2, Nat.add_mul_div_left _ _ (Nat.two_pow_pos i), Nat.add_mul_mod_self_left]
        exact ih
      | false => rw [pk_no hp]; exact ih
theorem pk_count (P : Nat → Bool) : ∀ k, (pkB P (k + 1)).length = (pkB P k).length + (if P k then 1 else 0) := fun k => by
  cases h : P k with
  | true => rw [pk_yes h, List.length_append]; rfl
  | false => rw [pk_no h]; rfl
theorem pop_pick (P : Nat → Bool) : popF (sumB (pick16 P)) = (pick16 P).length := by
  have hs := pop_same (sum_pk_small P (Nat.le_refl 16))
  have b := fun i (h : i < 16) => bit_sum P 16 i h
  have c := pk_count P
  have h0 : (pkB P 0).length = 0 := rfl
  show popF (sumB (pkB P 16)) = (pkB P 16).length
  rw [hs]
  clear hs
  have b0 : sumB (pkB P 16) % 2 = (if P 0 then 1 else 0) := by have := b 0 (by decide); rw [Nat.pow_zero, Nat.div_one] at this; exact this
  have b1 : sumB (pkB P 16) / 2 % 2 = (if P 1 then 1 else 0) := b 1 (by decide)
  have b2 : sumB (pkB P 16) / 4 % 2 = (if P 2 then 1 else 0) := b 2 (by decide)
  have b3 : sumB (pkB P 16) / 8 % 2 = (if P 3 then 1 else 0) := b 3 (by decide)
  have b4 : sumB (pkB P 16) / 16 % 2 = (if P 4 then 1 else 0) := b 4 (by decide)
  have b5 : sumB (pkB P 16) / 32 % 2 = (if P 5 then 1 else 0) := b 5 (by decide)
  have b6 : sumB (pkB P 16) / 64 % 2 = (if P 6 then 1 else 0) := b 6 (by decide)
  have b7 : sumB (pkB P 16) / 128 % 2 = (if P 7 then 1 else 0) := b 7 (by decide)
  have b8 : sumB (pkB P 16) / 256 % 2 = (if P 8 then 1 else 0) := b 8 (by decide)
  have b9 : sumB (pkB P 16) / 512 % 2 = (if P 9 then 1 else 0) := b 9 (by decide)
  have b10 : sumB (pkB P 16) / 1024 % 2 = (if P 10 then 1 else 0) := b 10 (by decide)
  have b11 : sumB (pkB P 16) / 2048 % 2 = (if P 11 then 1 else 0) := b 11 (by decide)
  have b12 : sumB (pkB P 16) / 4096 % 2 = (if P 12 then 1 else 0) := b 12 (by decide)
  have b13 : sumB (pkB P 16) / 8192 % 2 = (if P 13 then 1 else 0) := b 13 (by decide)
  have b14 : sumB (pkB P 16) / 16384 % 2 = (if P 14 then 1 else 0) := b 14 (by decide)
  have b15 : sumB (pkB P 16) / 32768 % 2 = (if P 15 then 1 else 0) := b 15 (by decide)
  have l := c 15
  rw [c 14] at l
  rw [c 13] at l
  rw [c 12] at l
  rw [c 11] at l
  rw [c 10] at l
  rw [c 9] at l
  rw [c 8] at l
  rw [c 7] at l
  rw [c 6] at l
  rw [c 5] at l
  rw [c 4] at l
  rw [c 3] at l
  rw [c 2] at l
  rw [c 1] at l
  rw [c 0] at l
  rw [h0] at l
  unfold popS
  rw [b0, b1, b2, b3, b4, b5, b6, b7, b8, b9, b10, b11, b12, b13, b14, b15]
  show _ = (pkB P (15 + 1)).length
  rw [l, Nat.zero_add]
end Go.Proofs.YtoecmoicaklbaaaDoor
