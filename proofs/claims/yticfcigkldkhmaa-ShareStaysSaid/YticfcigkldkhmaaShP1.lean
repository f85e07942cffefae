
/- Sorting by insertion, parts of buckets: plain. -/
import Derived.Test.YticfcigkldkhmaaPlain
set_option linter.unusedVariables false
namespace Go.Proofs.Yticfcigkldkhmaa

/-- One number is brought down to its place: greater values of f stand first. -/
def bub (f : Nat → Nat) : List Nat → Nat → List Nat
  | xs, 0 => xs
  | xs, j + 1 => if f (xs.getD j 0) < f (xs.getD (j + 1) 0) then bub f ((xs.set (j + 1) (xs.getD j 0)).set j (xs.getD (j + 1) 0)) j else xs
def srt (f : Nat → Nat) (xs : List Nat) : Nat → List Nat
  | 0 => xs
  | k + 1 => bub f (srt f xs k) k
theorem bub_len (f : Nat → Nat) : ∀ (j : Nat) (xs : List Nat), (bub f xs j).length = xs.length
  | 0, xs => rfl
  | j + 1, xs => by
    unfold bub
    split
    · rw [bub_len f j]; simp
    · rfl
theorem srt_len (f : Nat → Nat) (xs : List Nat) : ∀ k, (srt f xs k).length = xs.length
  | 0 => rfl
  | k + 1 => by show (bub f _ k).length = _; rw [bub_len, srt_len f xs k]
theorem getD_eq {xs : List Nat} {i : Nat} (h : i < xs.length) : xs.getD i 0 = xs[i] := by rw [List.getD_eq_getElem?_getD, List.getElem?_eq_getElem h]; rfl
theorem swap_perm {xs : List Nat} {j : Nat} (h : j + 1 < xs.length) : ((xs.set (j + 1) (xs.getD j 0)).set j (xs.getD (j + 1) 0)).Perm xs := by
  rw [getD_eq h, getD_eq (show j < xs.length by omega)]
  exact List.set_set_perm (by omega) (by omega)
theorem bub_perm (f : Nat → Nat) : ∀ (j : Nat) (xs : List Nat), j < xs.length → (bub f xs j).Perm xs
  | 0, xs, _ => List.Perm.refl _
  | j + 1, xs, h => by
    unfold bub
    split
    · exact (bub_perm f j _ (by simp; omega)).trans (swap_perm h)
    · exact List.Perm.refl _
theorem srt_perm (f : Nat → Nat) (xs : List Nat) : ∀ k, k ≤ xs.length → (srt f xs k).Perm xs
  | 0, _ => List.Perm.refl _
  | k + 1, h => (bub_perm f k _ (by rw [srt_len]; omega)).trans (srt_perm f xs k (by omega))
theorem swap_at {xs : List Nat} {j t : Nat} (h : j + 1 < xs.length) : ((xs.set (j + 1) (xs.getD j 0)).set j (xs.getD (j + 1) 0)).getD t 0 = if t = j then xs.getD (j + 1) 0 else if t = j + 1 then xs.getD j 0 else xs.getD t 0 := by
  simp only [List.getD_eq_getElem?_getD, List.getElem?_set, List.length_set]
  by_cases h1 : t = j
  · subst h1; simp [show t < xs.length by omega]
  · by_cases h2 : t = j + 1
    · subst h2; simp [h]
    · simp [h1, h2, Ne.symm h1, Ne.symm h2]
theorem bub_sorted (f : Nat → Nat) (i : Nat) : ∀ (j : Nat) (xs : List Nat), j ≤ i → i < xs.length → (∀ a b, a < b → b ≤ i → b ≠ j → f (xs.getD b 0) ≤ f (xs.getD a 0)) →
    ∀ a b, a < b → b ≤ i → f ((bub f xs j).getD b 0) ≤ f ((bub f xs j).getD a 0)
  | 0, xs, _, _, h => fun a b hab hb => h a b hab hb (by omega)
  | j + 1, xs, hj, hi, h => by
    unfold bub
    split
    · rename_i hlt
      refine bub_sorted f i j _ (by omega) (by simpa using hi) ?_
      intro a b hab hb hne
      rw [swap_at (by omega), swap_at (by omega), if_neg hne]
      by_cases hb1 : b = j + 1
      · rw [if_pos hb1]
        by_cases ha : a = j
        · rw [if_pos ha]; omega
        · rw [if_neg ha, if_neg (by omega)]
          exact h a j (by omega) (by omega) (by omega)
      · rw [if_neg hb1]
        by_cases ha : a = j
        · rw [if_pos ha]
          exact h (j + 1) b (by omega) hb hb1
        · rw [if_neg ha]
          by_cases ha1 : a = j + 1
          · rw [if_pos ha1]; exact h j b (by omega) hb hb1
          · rw [if_neg ha1]; exact h a b hab hb hb1
    · rename_i hge
      intro a b hab hb
      by_cases hb1 : b = j + 1
      · subst hb1
        by_cases ha : a = j
        · subst ha; omega
        · exact Nat.le_trans (Nat.not_lt.1 hge) (h a j (by omega) (by omega) (by omega))
      · exact h a b hab hb hb1
theorem bub_far (f : Nat → Nat) : ∀ (j : Nat) (xs : List Nat) (t : Nat), j < xs.length → j < t → (bub f xs j).getD t 0 = xs.getD t 0
  | 0, xs, t, _, _ => rfl
  | j + 1, xs, t, h, ht => by
    unfold bub
    split
    · rw [bub_far f j _ t (by simp; omega) (by omega), swap_at h, if_neg (by omega), if_neg (by omega)]
    · rfl
theorem srt_sorted (f : Nat → Nat) (xs : List Nat) : ∀ k, k ≤ xs.length → ∀ a b, a < b → b < k → f ((srt f xs k).getD b 0) ≤ f ((srt f xs k).getD a 0)
  | 0, _ => fun a b _ h => absurd h (Nat.not_lt_zero b)
  | k + 1, hk => fun a b hab hb => bub_sorted f k k (srt f xs k) (Nat.le_refl _) (by rw [srt_len]; omega) (fun a b hab hb hne => srt_sorted f xs k (by omega) a b hab (by omega)) a b hab (by omega)

/-- Weights, buckets: what each has to begin with; what is left over for each. -/
def baseL (ws : List Nat) (many : Nat) : List Nat := ws.map fun x => many * x / ws.sum
def awayF (ws : List Nat) (many : Nat) (i : Nat) : Nat := many * ws.getD i 0 % ws.sum
def leftN (ws : List Nat) (many : Nat) : Nat := many - (baseL ws many).sum
def orderL (ws : List Nat) (many : Nat) : List Nat := srt (awayF ws many) (List.range ws.length) ws.length
def bumps (base : List Nat) : List Nat → List Nat
  | [] => base
  | i :: l => bumps (base.set i (base.getD i 0 + 1)) l
def partsL (ws : List Nat) (many : Nat) : List Nat := bumps (baseL ws many) ((orderL ws many).take (leftN ws many))

theorem sum_div (all many : Nat) (h : 0 < all) : ∀ ws : List Nat, (ws.map fun x => many * x / all).sum * all + (ws.map fun x => many * x % all).sum = many * ws.sum
  | [] => by simp
  | x :: ws => by
    have ih := sum_div all many h ws
    simp only [List.map_cons, List.sum_cons, Nat.add_mul, Nat.mul_add]
    have := Nat.div_add_mod' (many * x) all
    omega
theorem bumps_len : ∀ (l base : List Nat), (bumps base l).length = base.length
  | [], _ => rfl
  | i :: l, base => by show (bumps _ l).length = _; rw [bumps_len]; simp
theorem bumps_at : ∀ (l base : List Nat), l.Nodup → (∀ i ∈ l, i < base.length) → ∀ t, t < base.length → (bumps base l).getD t 0 = base.getD t 0 + if t ∈ l then 1 else 0
  | [], base, _, _, t, _ => by simp [bumps]
  | i :: l, base, hn, hl, t, ht => by
    rw [List.nodup_cons] at hn
    show (bumps _ l).getD t 0 = _
    rw [bumps_at l _ hn.2 (fun j hj => by simpa using hl j (by simp [hj])) t (by simpa using ht)]
    simp only [List.getD_eq_getElem?_getD, List.getElem?_set]
    by_cases hti : t = i
    · subst hti; simp [ht, hn.1]
    · simp [hti, Ne.symm hti]
theorem sum_set : ∀ (l : List Nat) (i v : Nat), i < l.length → (l.set i v).sum + l.getD i 0 = l.sum + v
  | [], i, v, h => absurd h (Nat.not_lt_zero _)
  | x :: l, 0, v, _ => by simp; omega
  | x :: l, i + 1, v, h => by
    have := sum_set l i v (by simpa using h)
    simp only [List.set_cons_succ, List.sum_cons, List.getD_cons_succ]
    omega
theorem bumps_sum : ∀ (l base : List Nat), (∀ i ∈ l, i < base.length) → (bumps base l).sum = base.sum + l.length
  | [], _, _ => rfl
  | i :: l, base, h => by
    show (bumps _ l).sum = _
    rw [bumps_sum l _ (fun j hj => by simpa using h j (by simp [hj]))]
    have := sum_set base i (base.getD i 0 + 1) (h i (by simp))
    simp only [List.length_cons]
    omega
theorem sum_le_count (all : Nat) : ∀ l : List Nat, (∀ x ∈ l, x < all) → l.sum + (l.filter (fun x => decide (0 < x))).length ≤ (l.filter (fun x => decide (0 < x))).length * all
  | [], _ => by simp
  | x :: l, h => by
    have ih := sum_le_count all l (fun y hy => h y (by simp [hy]))
    have hx := h x (by simp)
    by_cases h0 : 0 < x
    · simp only [List.filter_cons, h0, decide_true, if_true, List.sum_cons, List.length_cons, Nat.add_mul, Nat.one_mul]; omega
    · have : x = 0 := by omega
      subst this
      simpa [List.filter_cons] using ih
theorem rem_eq (ws : List Nat) (many : Nat) : (ws.map fun x => many * x % ws.sum) = (List.range ws.length).map (awayF ws many) := by
  apply List.ext_getElem
  · simp
  · intro i h1 h2
    simp only [List.length_map] at h1
    simp [awayF, List.getElem?_eq_getElem h1]
structure PartsOk (ws : List Nat) (many : Nat) : Prop where
  len : (partsL ws many).length = ws.length
  sum : (partsL ws many).sum = many
  lo : ∀ i, i < ws.length → many * ws.getD i 0 / ws.sum ≤ (partsL ws many).getD i 0
  hi : ∀ i, i < ws.length → (partsL ws many).getD i 0 ≤ (many * ws.getD i 0 + ws.sum - 1) / ws.sum
theorem left_le (ws : List Nat) (many : Nat) (h : 0 < ws.sum) : (baseL ws many).sum ≤ many ∧ leftN ws many * ws.sum = ((List.range ws.length).map (awayF ws many)).sum ∧ leftN ws many ≤ ((List.range ws.length).filter (fun i => decide (0 < awayF ws many i))).length := by
  have e := sum_div ws.sum many h ws
  have hb : (baseL ws many).sum ≤ many := by
    have : (baseL ws many).sum * ws.sum ≤ many * ws.sum := by unfold baseL; omega
    exact Nat.le_of_mul_le_mul_right this h
  rw [rem_eq] at e
  have h2 : leftN ws many * ws.sum = ((List.range ws.length).map (awayF ws many)).sum := by
    unfold leftN
    rw [Nat.sub_mul]
    unfold baseL at *
    omega
  refine ⟨hb, h2, ?_⟩
  have h3 := sum_le_count ws.sum ((List.range ws.length).map (awayF ws many)) (by
    intro x hx
    obtain ⟨i, _, rfl⟩ := List.mem_map.1 hx
    exact Nat.mod_lt _ h)
  rw [← h2, List.filter_map, List.length_map] at h3
  have h4 : ((List.range ws.length).filter ((fun x => decide (0 < x)) ∘ awayF ws many)) = (List.range ws.length).filter (fun i => decide (0 < awayF ws many i)) := rfl
  rw [h4] at h3
  have : leftN ws many * ws.sum ≤ ((List.range ws.length).filter (fun i => decide (0 < awayF ws many i))).length * ws.sum := by omega
  exact Nat.le_of_mul_le_mul_right this h
theorem order_perm (ws : List Nat) (many : Nat) : (orderL ws many).Perm (List.range ws.length) := srt_perm _ _ _ (by simp)
theorem order_len (ws : List Nat) (many : Nat) : (orderL ws many).length = ws.length := by unfold orderL; rw [srt_len]; simp
theorem pos_prefix (f : Nat → Nat) : ∀ (l : List Nat), l.Pairwise (fun a b => f b ≤ f a) → ∀ m, m ≤ (l.filter (fun i => decide (0 < f i))).length → ∀ i ∈ l.take m, 0 < f i
  | [], _, _, _, i, hi => by simp at hi
  | x :: l, hp, 0, _, i, hi => by simp at hi
  | x :: l, hp, m + 1, hm, i, hi => by
    rw [List.pairwise_cons] at hp
    have hx : 0 < f x := by
      rcases Nat.eq_zero_or_pos (f x) with h0 | h0
      · exfalso
        have : (x :: l).filter (fun i => decide (0 < f i)) = [] := by
          rw [List.filter_eq_nil_iff]
          intro y hy
          rcases List.mem_cons.1 hy with rfl | hy
          · simp [h0]
          · have := hp.1 y hy; simp; omega
        rw [this] at hm
        simp at hm
      · exact h0
    rw [List.take_succ_cons] at hi
    rcases List.mem_cons.1 hi with rfl | hi
    · exact hx
    · refine pos_prefix f l hp.2 m ?_ i hi
      simp only [List.filter_cons, hx, decide_true, if_true, List.length_cons] at hm
      omega
theorem order_sorted (ws : List Nat) (many : Nat) : (orderL ws many).Pairwise (fun a b => awayF ws many b ≤ awayF ws many a) := by
  rw [List.pairwise_iff_getElem]
  intro i j hi hj hij
  have := srt_sorted (awayF ws many) (List.range ws.length) ws.length (by simp) i j hij (by rw [order_len] at hj; exact hj)
  have e : ∀ t (h : t < (orderL ws many).length), (srt (awayF ws many) (List.range ws.length) ws.length).getD t 0 = (orderL ws many)[t] := fun t h => getD_eq h
  rw [e j hj, e i hi] at this
  exact this
theorem parts_ok (ws : List Nat) (many : Nat) (h : 0 < ws.sum) : PartsOk ws many := by
  obtain ⟨h1, h2, h3⟩ := left_le ws many h
  have hp := order_perm ws many
  have hbl : (baseL ws many).length = ws.length := by simp [baseL]
  have hmem : ∀ i ∈ (orderL ws many).take (leftN ws many), i < (baseL ws many).length := fun i hi => by
    rw [hbl]
    have := hp.mem_iff.1 (List.mem_of_mem_take hi)
    simpa using this
  have hnd : ((orderL ws many).take (leftN ws many)).Nodup := (hp.nodup_iff.2 List.nodup_range).sublist (List.take_sublist _ _)
  have hfl : ((orderL ws many).filter (fun i => decide (0 < awayF ws many i))).length = ((List.range ws.length).filter (fun i => decide (0 < awayF ws many i))).length := (hp.filter _).length_eq
  have hll : leftN ws many ≤ ws.length := by
    have := List.length_filter_le (fun i => decide (0 < awayF ws many i)) (List.range ws.length)
    simp at this
    omega
  have hat := fun t ht => bumps_at ((orderL ws many).take (leftN ws many)) (baseL ws many) hnd hmem t ht
  have hb : ∀ t, t < ws.length → (baseL ws many).getD t 0 = many * ws.getD t 0 / ws.sum := fun t ht => by
    simp [baseL, List.getElem?_eq_getElem ht]
  refine ⟨by unfold partsL; rw [bumps_len, hbl], ?_, fun i hi => ?_, fun i hi => ?_⟩
  · unfold partsL
    rw [bumps_sum _ _ hmem, List.length_take, order_len]
    unfold leftN at *
    omega
  · unfold partsL
    rw [hat i (by omega), hb i hi]
    omega
  · unfold partsL
    rw [hat i (by omega), hb i hi]
    split
    · rename_i hin
      have hpos := pos_prefix (awayF ws many) _ (order_sorted ws many) (leftN ws many) (by rw [hfl]; exact h3) i hin
      unfold awayF at hpos
      have hd := Nat.div_add_mod' (many * ws.getD i 0) ws.sum
      rw [Nat.le_div_iff_mul_le h, Nat.add_mul]
      omega
    · rw [Nat.le_div_iff_mul_le h, Nat.add_zero]
      have := Nat.div_mul_le_self (many * ws.getD i 0) ws.sum
      omega
/-- Where nothing is rounded. -/
theorem parts_exact (ws : List Nat) (k : Nat) (h : 0 < ws.sum) : partsL ws (ws.sum * k) = ws.map (fun x => k * x) := by
  have hb : baseL ws (ws.sum * k) = ws.map (fun x => k * x) := by
    unfold baseL
    apply List.map_congr_left
    intro x _
    rw [Nat.mul_assoc, Nat.mul_div_cancel_left _ h]
  have hs : (ws.map (fun x => k * x)).sum = ws.sum * k := by
    clear hb h
    induction ws with
    | nil => simp
    | cons x l ih => simp only [List.map_cons, List.sum_cons, ih, Nat.add_mul, Nat.mul_comm k x]
  have hl : leftN ws (ws.sum * k) = 0 := by unfold leftN; rw [hb, hs]; omega
  unfold partsL
  rw [hl, hb]
  rfl
end Go.Proofs.Yticfcigkldkhmaa
