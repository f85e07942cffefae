
/- Trees of strides: plain laws: the nodes and the hops of a list of routes; the order in which the nodes stand. -/
import Derived.Test.YtoecmoicaklbaaaDoorLk
set_option linter.unusedVariables false
set_option linter.unusedSimpArgs false
namespace Go.Proofs.YtoecmoicaklbaaaDoor
open Go Go.RowKit Go.Sort Wc Wk

theorem rt_keys : ∀ {L : List (Nat × Nat × Nat)}, L.Pairwise (fun x y => ¬ (x.1 = y.1 ∧ x.2.1 = y.2.1)) → ∀ y ∈ L, ∀ z ∈ L, y.1 = z.1 → y.2.1 = z.2.1 → y = z
  | [], _, y, hy, _, _, _, _ => absurd hy List.not_mem_nil
  | x :: L, h, y, hy, z, hz, e1, e2 => by
    obtain ⟨h1, h2⟩ := List.pairwise_cons.1 h
    rcases List.mem_cons.1 hy with a | a
    · rcases List.mem_cons.1 hz with b | b
      · rw [a, b]
      · rw [a] at e1 e2; exact absurd ⟨e1, e2⟩ (h1 z b)
    · rcases List.mem_cons.1 hz with b | b
      · rw [b] at e1 e2; exact absurd ⟨e1.symm, e2.symm⟩ (h1 y a)
      · exact rt_keys h2 y a z b e1 e2
theorem rt_one {R : List (Nat × Nat × Nat)} (h : RtOk R) {r s : Nat × Nat × Nat} (hr : r ∈ R) (hs : s ∈ R) (e1 : r.1 = s.1) (e2 : r.2.1 = s.2.1) : r = s := rt_keys h.keys r hr s hs e1 e2
/-- Is there a node, in the tree of some routes: at a level, by the bits ahead of it? -/
def nodeIn (R : List (Nat × Nat × Nat)) (j q : Nat) : Bool := decide (j = 0 ∧ q = 0) || R.any (fun r => decide (j ≤ r.2.1 / 4 ∧ tp r.1 (4 * j) = q))
theorem nodeIn_iff {R : List (Nat × Nat × Nat)} {j q : Nat} : nodeIn R j q = true ↔ (j = 0 ∧ q = 0) ∨ ∃ r ∈ R, j ≤ r.2.1 / 4 ∧ tp r.1 (4 * j) = q := by
  unfold nodeIn
  rw [Bool.or_eq_true, decide_eq_true_iff, List.any_eq_true]
  simp only [decide_eq_true_iff]
theorem nodeIn_snoc (R : List (Nat × Nat × Nat)) (r : Nat × Nat × Nat) (j q : Nat) : nodeIn (R ++ [r]) j q = (nodeIn R j q || decide (j ≤ r.2.1 / 4 ∧ tp r.1 (4 * j) = q)) := by
  unfold nodeIn
  rw [List.any_append]
  simp [Bool.or_assoc]
theorem nodeIn_mem {R S : List (Nat × Nat × Nat)} (h : ∀ x, x ∈ R ↔ x ∈ S) (j q : Nat) : nodeIn R j q = nodeIn S j q := by
  rw [Bool.eq_iff_iff, nodeIn_iff, nodeIn_iff]
  simp only [h]
/-- The number of a prefix within its node. -/
def innN (n k : Nat) : Nat := 2 ^ (k % 4) + tp n k % 2 ^ (k % 4)
def isAt (r : Nat × Nat × Nat) (j q i : Nat) : Prop := r.2.1 / 4 = j ∧ tp r.1 (4 * j) = q ∧ innN r.1 r.2.1 = i
instance (r : Nat × Nat × Nat) (j q i : Nat) : Decidable (isAt r j q i) := by unfold isAt; infer_instance
theorem inn_lt (n k : Nat) : 1 ≤ innN n k ∧ innN n k < 16 := by
  unfold innN
  have h := Nat.mod_lt k (show 0 < 4 by decide)
  have hp := Nat.two_pow_pos (k % 4)
  have hm := Nat.mod_lt (tp n k) hp
  refine ⟨by omega, ?_⟩
  have : 2 ^ (k % 4) ≤ 8 := Nat.le_trans (Nat.pow_le_pow_right (by decide) (show k % 4 ≤ 3 by omega)) (by decide)
  omega
theorem tp_div (n : Nat) {j k : Nat} (h : j ≤ k) (hk : k ≤ 32) : tp n j = tp n k / 2 ^ (k - j) := by
  unfold tp
  rw [Nat.div_div_eq_div_mul, ← Nat.pow_add]
  congr 2
  omega
theorem log_one {m m' a b : Nat} (ha : a < 2 ^ m) (hb : b < 2 ^ m') (h : 2 ^ m + a = 2 ^ m' + b) : m = m' := by
  rcases Nat.lt_trichotomy m m' with h1 | h1 | h1
  · have := Nat.pow_le_pow_right (show 0 < 2 by decide) (show m + 1 ≤ m' by omega)
    rw [Nat.pow_succ] at this
    omega
  · exact h1
  · have := Nat.pow_le_pow_right (show 0 < 2 by decide) (show m' + 1 ≤ m by omega)
    rw [Nat.pow_succ] at this
    omega
theorem isAt_tp {r : Nat × Nat × Nat} {j q i : Nat} (hr : VP false r.1 r.2.1) (h : isAt r j q i) : tp r.1 r.2.1 = q * 2 ^ (r.2.1 % 4) + (i - 2 ^ (r.2.1 % 4)) := by
  obtain ⟨h1, h2, h3⟩ := h
  have hk : r.2.1 ≤ 32 := hr.2.1
  have e := tp_div r.1 (show 4 * j ≤ r.2.1 by omega) hk
  rw [show r.2.1 - 4 * j = r.2.1 % 4 by omega, h2] at e
  have := Nat.div_add_mod (tp r.1 r.2.1) (2 ^ (r.2.1 % 4))
  rw [← e, Nat.mul_comm] at this
  unfold innN at h3
  omega
theorem isAt_one {r s : Nat × Nat × Nat} {j q i : Nat} (hr : VP false r.1 r.2.1) (hs : VP false s.1 s.2.1) (h : isAt r j q i) (k : isAt s j q i) : r.1 = s.1 ∧ r.2.1 = s.2.1 := by
  have e1 := isAt_tp hr h
  have e2 := isAt_tp hs k
  obtain ⟨h1, h2, h3⟩ := h
  obtain ⟨k1, k2, k3⟩ := k
  have hm : r.2.1 % 4 = s.2.1 % 4 := by
    unfold innN at h3 k3
    exact log_one (Nat.mod_lt _ (Nat.two_pow_pos _)) (Nat.mod_lt _ (Nat.two_pow_pos _)) (h3.trans k3.symm)
  have hk : r.2.1 = s.2.1 := by omega
  refine ⟨?_, hk⟩
  rw [hm, ← e2] at e1
  rw [← vp_tp hr, ← vp_tp hs, e1, hk]
/-- The hop at a place of a node; 0: none. -/
def hopAt (R : List (Nat × Nat × Nat)) (j q i : Nat) : Nat := match R.find? (fun r => decide (isAt r j q i)) with
  | some r => r.2.2
  | none => 0
theorem hopAt_says (R : List (Nat × Nat × Nat)) (j q i : Nat) : (∃ r ∈ R, isAt r j q i ∧ r.2.2 = hopAt R j q i) ∨ ((∀ r ∈ R, ¬ isAt r j q i) ∧ hopAt R j q i = 0) := by
  unfold hopAt
  cases h : R.find? (fun r => decide (isAt r j q i)) with
  | some r => exact .inl ⟨r, List.mem_of_find?_eq_some h, by simpa using List.find?_some h, rfl⟩
  | none => exact .inr ⟨fun r hr => by simpa using List.find?_eq_none.1 h r hr, rfl⟩
theorem hopAt_of {R : List (Nat × Nat × Nat)} (h : RtOk R) {r : Nat × Nat × Nat} (hr : r ∈ R) {j q i : Nat} (hi : isAt r j q i) : hopAt R j q i = r.2.2 := by
  rcases hopAt_says R j q i with ⟨s, hs, h1, h2⟩ | ⟨h1, _⟩
  · obtain ⟨e1, e2⟩ := isAt_one (h.vp r hr) (h.vp s hs) hi h1
    have : r = s := rt_one h hr hs e1 e2
    rw [← h2, this]
  · exact absurd hi (h1 r hr)
theorem hopAt_none {R : List (Nat × Nat × Nat)} {j q i : Nat} (h : ∀ r ∈ R, ¬ isAt r j q i) : hopAt R j q i = 0 := by
  rcases hopAt_says R j q i with ⟨s, hs, h1, h2⟩ | ⟨_, h2⟩
  · exact absurd h1 (h s hs)
  · exact h2
theorem hopAt_mem {R S : List (Nat × Nat × Nat)} (hR : RtOk R) (hS : RtOk S) (h : ∀ x, x ∈ R ↔ x ∈ S) (j q i : Nat) : hopAt R j q i = hopAt S j q i := by
  rcases hopAt_says R j q i with ⟨r, hr, h1, h2⟩ | ⟨h1, h2⟩
  · rw [← h2, hopAt_of hS ((h r).1 hr) h1]
  · rw [h2, hopAt_none (fun r hr => h1 r ((h r).2 hr))]
theorem hopAt_snoc {R : List (Nat × Nat × Nat)} {r : Nat × Nat × Nat} (h : RtOk (R ++ [r])) (j q i : Nat) : hopAt (R ++ [r]) j q i = if isAt r j q i then r.2.2 else hopAt R j q i := by
  split
  · rename_i hi
    exact hopAt_of h (by simp) hi
  · rename_i hi
    unfold hopAt
    rw [List.find?_append]
    simp [hi]
theorem hopAt_lt {R : List (Nat × Nat × Nat)} {j q i : Nat} (h : hopAt R j q i ≠ 0) : 1 ≤ i ∧ i < 16 := by
  rcases hopAt_says R j q i with ⟨r, hr, ⟨_, _, h3⟩, h2⟩ | ⟨_, h2⟩
  · rw [← h3]; exact inn_lt _ _
  · exact absurd h2 h
theorem hopAt_node {R : List (Nat × Nat × Nat)} {j q i : Nat} (h : hopAt R j q i ≠ 0) : nodeIn R j q = true := by
  rcases hopAt_says R j q i with ⟨r, hr, ⟨h1, h3, _⟩, h2⟩ | ⟨_, h2⟩
  · exact nodeIn_iff.2 (.inr ⟨r, hr, by omega, h3⟩)
  · exact absurd h2 h
theorem nodeIn_low {R : List (Nat × Nat × Nat)} (h : RtOk R) {j q : Nat} (hn : nodeIn R j q = true) : j ≤ 8 := by
  rcases nodeIn_iff.1 hn with ⟨h1, _⟩ | ⟨r, hr, h1, _⟩
  · omega
  · have : r.2.1 ≤ 32 := ((h.vp r hr)).2.1
    omega
theorem nodeIn_root {R : List (Nat × Nat × Nat)} (h : RtOk R) {q : Nat} (hn : nodeIn R 0 q = true) : q = 0 := by
  rcases nodeIn_iff.1 hn with ⟨_, h1⟩ | ⟨r, hr, _, h1⟩
  · exact h1
  · rw [← h1]
    have h2 : r.1 < 2 ^ 32 := (h.vp r hr).1
    unfold tp
    exact Nat.div_eq_of_lt (by simpa using h2)
theorem nodeIn_zero (R : List (Nat × Nat × Nat)) : nodeIn R 0 0 = true := nodeIn_iff.2 (.inl ⟨rfl, rfl⟩)
theorem nodeIn_up {R : List (Nat × Nat × Nat)} (h : RtOk R) {j q : Nat} (hn : nodeIn R (j + 1) q = true) : nodeIn R j (q / 16) = true := by
  have hj := nodeIn_low h hn
  rcases nodeIn_iff.1 hn with ⟨h1, _⟩ | ⟨r, hr, h1, h2⟩
  · omega
  · refine nodeIn_iff.2 (.inr ⟨r, hr, by omega, ?_⟩)
    rw [tp_div r.1 (show 4 * j ≤ 4 * (j + 1) by omega) (by omega), h2, show 4 * (j + 1) - 4 * j = 4 by omega]

/-- The nodes below a node. -/
def kidsQ (N : Nat → Nat → Bool) (x : Nat × Nat) : List (Nat × Nat) := ((List.range 16).filter (fun i => N (x.1 + 1) (16 * x.2 + i))).map (fun i => (x.1 + 1, 16 * x.2 + i))
theorem mem_kidsQ {N : Nat → Nat → Bool} {x y : Nat × Nat} : y ∈ kidsQ N x ↔ y.1 = x.1 + 1 ∧ y.2 / 16 = x.2 ∧ N y.1 y.2 = true := by
  unfold kidsQ
  simp only [List.mem_map, List.mem_filter, List.mem_range]
  constructor
  · rintro ⟨i, ⟨h1, h2⟩, rfl⟩
    exact ⟨rfl, by show (16 * x.2 + i) / 16 = x.2; omega, h2⟩
  · rintro ⟨h1, h2, h3⟩
    refine ⟨y.2 % 16, ⟨Nat.mod_lt _ (by decide), ?_⟩, ?_⟩
    · rw [← h1, ← h2, Nat.div_add_mod]; exact h3
    · rw [← h1, ← h2, Nat.div_add_mod]
theorem kidsQ_nodup (N : Nat → Nat → Bool) (x : Nat × Nat) : (kidsQ N x).Nodup := by
  unfold kidsQ
  refine List.pairwise_map.2 ((List.nodup_range.filter _).imp ?_)
  intro a b hne h
  simp only [Prod.mk.injEq, true_and] at h
  omega
/-- The nodes in order, as far as they stand when those ahead have been met. -/
def bq (N : Nat → Nat → Bool) : Nat → List (Nat × Nat)
  | 0 => [(0, 0)]
  | i + 1 => match (bq N i)[i]? with
    | some x => bq N i ++ kidsQ N x
    | none => bq N i
theorem bq_some {N : Nat → Nat → Bool} {i : Nat} {x : Nat × Nat} (h : (bq N i)[i]? = some x) : bq N (i + 1) = bq N i ++ kidsQ N x := by
  show (match (bq N i)[i]? with | some x => bq N i ++ kidsQ N x | none => bq N i) = _
  rw [h]
theorem bq_none {N : Nat → Nat → Bool} {i : Nat} (h : (bq N i)[i]? = none) : bq N (i + 1) = bq N i := by
  show (match (bq N i)[i]? with | some x => bq N i ++ kidsQ N x | none => bq N i) = _
  rw [h]
theorem bq_pre (N : Nat → Nat → Bool) (i : Nat) : ∀ m, ∃ t, bq N (i + m) = bq N i ++ t
  | 0 => ⟨[], by simp⟩
  | m + 1 => by
    obtain ⟨t, ht⟩ := bq_pre N i m
    cases h : (bq N (i + m))[i + m]? with
    | some x => exact ⟨t ++ kidsQ N x, by rw [← Nat.add_assoc, bq_some h, ht, List.append_assoc]⟩
    | none => exact ⟨t, by rw [← Nat.add_assoc, bq_none h, ht]⟩
theorem bq_get {N : Nat → Nat → Bool} {i m : Nat} {x : Nat × Nat} (h : (bq N i)[m]? = some x) {j : Nat} (hj : i ≤ j) : (bq N j)[m]? = some x := by
  obtain ⟨t, ht⟩ := bq_pre N i (j - i)
  rw [show i + (j - i) = j by omega] at ht
  rw [ht, List.getElem?_append_left (List.getElem?_eq_some_iff.1 h).1]
  exact h
theorem bq_len_mono (N : Nat → Nat → Bool) {i j : Nat} (hj : i ≤ j) : (bq N i).length ≤ (bq N j).length := by
  obtain ⟨t, ht⟩ := bq_pre N i (j - i)
  rw [show i + (j - i) = j by omega] at ht
  rw [ht, List.length_append]
  omega
theorem bq_sub {N : Nat → Nat → Bool} {i j : Nat} (hj : i ≤ j) {x : Nat × Nat} (h : x ∈ bq N i) : x ∈ bq N j := by
  obtain ⟨t, ht⟩ := bq_pre N i (j - i)
  rw [show i + (j - i) = j by omega] at ht
  rw [ht]
  exact List.mem_append_left _ h
theorem nodup_at {α : Type} {l : List α} (h : l.Nodup) {i j : Nat} {x : α} (hi : l[i]? = some x) (hj : l[j]? = some x) : i = j := by
  obtain ⟨a1, a2⟩ := List.getElem?_eq_some_iff.1 hi
  obtain ⟨b1, b2⟩ := List.getElem?_eq_some_iff.1 hj
  have hp := List.pairwise_iff_getElem.1 h
  rcases Nat.lt_trichotomy i j with hlt | he | hlt
  · exact absurd (a2.trans b2.symm) (hp i j a1 b1 hlt)
  · exact he
  · exact absurd (b2.trans a2.symm) (hp j i b1 a1 hlt)
def parQ (y : Nat × Nat) : Nat × Nat := (y.1 - 1, y.2 / 16)
theorem bq_says (N : Nat → Nat → Bool) : ∀ i, (bq N i).Nodup ∧ ∀ y ∈ bq N i, y = (0, 0) ∨ (1 ≤ y.1 ∧ N y.1 y.2 = true ∧ parQ y ∈ (bq N i).take i)
  | 0 => ⟨by simp [bq], fun y hy => .inl (by simpa [bq] using hy)⟩
  | i + 1 => by
    obtain ⟨h1, h2⟩ := bq_says N i
    cases h : (bq N i)[i]? with
    | none =>
      rw [bq_none h]
      refine ⟨h1, fun y hy => (h2 y hy).imp id (fun ⟨a, b, c⟩ => ⟨a, b, ?_⟩)⟩
      have hl : (bq N i).length ≤ i := List.getElem?_eq_none_iff.1 h
      rw [List.take_of_length_le (by omega)]
      exact List.mem_of_mem_take c
    | some x =>
      rw [bq_some h]
      have hi := (List.getElem?_eq_some_iff.1 h).1
      have htk : (bq N i ++ kidsQ N x).take (i + 1) = (bq N i).take i ++ [x] := by
        rw [List.take_append_of_le_length (by omega), List.take_add_one, h]; rfl
      have hpar : ∀ y ∈ kidsQ N x, parQ y = x := fun y hy => by
        obtain ⟨a, b, _⟩ := mem_kidsQ.1 hy
        unfold parQ
        rw [a, b]
        rfl
      have hnew : x ∉ (bq N i).take i := fun hx => by
        obtain ⟨m, hm, e⟩ := List.getElem_of_mem hx
        rw [List.length_take] at hm
        rw [List.getElem_take] at e
        have e2 := (List.getElem?_eq_some_iff.1 h).2
        have := nodup_at h1 (i := m) (j := i) (x := x) (by rw [List.getElem?_eq_getElem (by omega), e]) h
        omega
      refine ⟨List.nodup_append.2 ⟨h1, kidsQ_nodup N x, fun y hy z hz e => ?_⟩, fun y hy => ?_⟩
      · subst e
        obtain ⟨a, _, _⟩ := mem_kidsQ.1 hz
        rcases h2 y hy with e | ⟨_, _, c⟩
        · rw [e] at a; omega
        · rw [hpar y hz] at c; exact hnew c
      · rw [htk]
        rcases List.mem_append.1 hy with hy | hy
        · exact (h2 y hy).imp id (fun ⟨a, b, c⟩ => ⟨a, b, List.mem_append_left _ c⟩)
        · obtain ⟨a, b, c⟩ := mem_kidsQ.1 hy
          refine .inr ⟨by omega, c, ?_⟩
          rw [hpar y hy]
          simp
theorem bq_nodup (N : Nat → Nat → Bool) (i : Nat) : (bq N i).Nodup := (bq_says N i).1
theorem bq_stay {N : Nat → Nat → Bool} {i : Nat} (h : (bq N i).length ≤ i) : ∀ m, bq N (i + m) = bq N i
  | 0 => rfl
  | m + 1 => by
    have ih := bq_stay h m
    rw [← Nat.add_assoc, bq_none (List.getElem?_eq_none_iff.2 (by rw [ih]; omega)), ih]
theorem bq_root (N : Nat → Nat → Bool) : ∀ i, (0, 0) ∈ bq N i
  | 0 => by simp [bq]
  | i + 1 => bq_sub (Nat.le_succ i) (bq_root N i)
/-- Behind the last node all nodes have been met. -/
theorem bq_all {N : Nat → Nat → Bool} {T : Nat} (hT : (bq N T).length ≤ T) (h0 : ∀ q, N 0 q = true → q = 0) (hup : ∀ j q, N (j + 1) q = true → N j (q / 16) = true) : ∀ j q, N j q = true → (j, q) ∈ bq N T
  | 0, q, h => by rw [h0 q h]; exact bq_root N T
  | j + 1, q, h => by
    have ih := bq_all hT h0 hup j (q / 16) (hup j q h)
    obtain ⟨m, hm, e⟩ := List.getElem_of_mem ih
    have hk : (j + 1, q) ∈ kidsQ N (j, q / 16) := mem_kidsQ.2 ⟨rfl, rfl, h⟩
    have hmT : m + 1 ≤ T := by omega
    have hs : (bq N m)[m]? = some (j, q / 16) := by
      have h1 : (bq N T)[m]? = some (j, q / 16) := by rw [List.getElem?_eq_getElem hm, e]
      cases hh : (bq N m)[m]? with
      | some x => rw [← bq_get hh (show m ≤ T by omega), h1]
      | none =>
        exfalso
        have h2 := bq_stay (List.getElem?_eq_none_iff.1 hh) (T - m)
        rw [show m + (T - m) = T by omega] at h2
        rw [h2, hh] at h1
        cases h1
    have h3 : (j + 1, q) ∈ bq N (m + 1) := by rw [bq_some hs]; exact List.mem_append_right _ hk
    exact bq_sub hmT h3
/-- No more than eight nodes for each route, and one. -/
theorem bq_few {R : List (Nat × Nat × Nat)} (h : RtOk R) (i : Nat) : (bq (nodeIn R) i).length ≤ 1 + 8 * R.length := by
  have hl : ∀ L : List (Nat × Nat × Nat), (L.flatMap (fun r => (List.range 8).map (fun j => (j + 1, tp r.1 (4 * (j + 1)))))).length = 8 * L.length := by
    intro L
    induction L with
    | nil => rfl
    | cons x L ih => rw [List.flatMap_cons, List.length_append, ih]; simp; omega
  have := (bq_nodup (nodeIn R) i).length_le_of_subset (l₂ := (0, 0) :: R.flatMap (fun r => (List.range 8).map (fun j => (j + 1, tp r.1 (4 * (j + 1)))))) (fun y hy => by
    rcases (bq_says (nodeIn R) i).2 y hy with e | ⟨a, b, _⟩
    · rw [e]; exact List.mem_cons_self
    · refine List.mem_cons_of_mem _ (List.mem_flatMap.2 ?_)
      have hj := nodeIn_low h b
      rcases nodeIn_iff.1 b with ⟨c, _⟩ | ⟨r, hr, c1, c2⟩
      · omega
      · exact ⟨r, hr, List.mem_map.2 ⟨y.1 - 1, List.mem_range.2 (by omega), by rw [show y.1 - 1 + 1 = y.1 by omega, c2]⟩⟩)
  rw [List.length_cons, hl] at this
  omega
end Go.Proofs.YtoecmoicaklbaaaDoor
