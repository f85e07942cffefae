
/- Trees of strides: plain laws: no node is in vain; a tree that is broken is none. -/
import Derived.Test.YtoecmoicaklbaaaDoorStQ
set_option linter.unusedVariables false
set_option linter.unusedSimpArgs false
namespace Go.Proofs.YtoecmoicaklbaaaDoor
open Go Go.RowKit Go.Sort Wc Wk

theorem kidsF_some {f : Nat → Nat → Nat → Nat → Option (List (Nat × Nat × Nat) × Nat)} {n k : Nat} : ∀ {l : List (Nat × Nat)} {b : Nat} {s : List (Nat × Nat × Nat) × Nat}, kidsF f n k l b = some s → ∀ p ∈ l, ∃ b' s', f b' p.2 (n + p.1 * 2 ^ (32 - (k + 4))) (k + 4) = some s'
  | [], _, _, _, p, hp => absurd hp List.not_mem_nil
  | q :: l, b, s, h, p, hp => by
    unfold kidsF at h
    cases hf : f b q.2 (n + q.1 * 2 ^ (32 - (k + 4))) (k + 4) with
    | none => rw [hf] at h; cases h
    | some r =>
      rw [hf] at h
      rcases List.mem_cons.1 hp with rfl | hp
      · exact ⟨b, r, hf⟩
      · dsimp only at h
        rw [Option.map_eq_some_iff] at h
        obtain ⟨s', h', _⟩ := h
        exact kidsF_some h' p hp
theorem walkF_some {t : List NodeD} {d b i n k : Nat} {p : List (Nat × Nat × Nat) × Nat} (h : walkF t d b i n k = some p) :
    ∃ x, t[i]? = some x ∧ x.hops.length = x.ib.length ∧ x.kids.length = x.ob.length ∧ ∀ kid ∈ x.kids, ∃ d' b' n' k' p', walkF t d' b' kid n' k' = some p' := by
  cases d with
  | zero => simp [walkF] at h
  | succ d =>
    unfold walkF at h
    cases hx : t[i]? with
    | none => rw [hx] at h; cases h
    | some x =>
      rw [hx] at h
      dsimp only at h
      split at h
      · cases h
      · rename_i hc
        rw [Option.map_eq_some_iff] at h
        obtain ⟨s, hs, _⟩ := h
        have hok : x.ok k = true := by
          cases hh : x.ok k with
          | true => rfl
          | false => exact absurd (.inr hh) hc
        unfold NodeD.ok at hok
        simp only [Bool.and_eq_true, decide_eq_true_iff] at hok
        obtain ⟨⟨⟨_, h1⟩, h2⟩, _⟩ := hok
        refine ⟨x, rfl, h1, h2, fun kid hk => ?_⟩
        obtain ⟨m, hm, e⟩ := List.getElem_of_mem hk
        have hmo : m < x.ob.length := by omega
        have hz : (x.ob[m], kid) ∈ x.ob.zip x.kids := List.mem_of_getElem? (List.getElem?_zip_eq_some.2 ⟨List.getElem?_eq_getElem hmo, by rw [List.getElem?_eq_getElem hm, e]⟩)
        obtain ⟨b', s', h3⟩ := kidsF_some hs _ hz
        exact ⟨d, b', _, _, s', h3⟩
inductive ReachT (t : List NodeD) : Nat → Prop where
  | root : ReachT t 0
  | kid {i j : Nat} {x : NodeD} (h : ReachT t i) (hx : t[i]? = some x) (hj : j ∈ x.kids) : ReachT t j
theorem walk_reach {t : List NodeD} {d b n k : Nat} {p : List (Nat × Nat × Nat) × Nat} (h : walkF t d b 0 n k = some p) {i : Nat} (hi : ReachT t i) : ∃ d' b' n' k' p', walkF t d' b' i n' k' = some p' := by
  induction hi with
  | root => exact ⟨d, b, n, k, p, h⟩
  | kid _ hx hj ih =>
    obtain ⟨d', b', n', k', p', h'⟩ := ih
    obtain ⟨y, hy, _, _, h2⟩ := walkF_some h'
    rw [hx] at hy
    cases hy
    exact h2 _ hj
theorem bq_parent {N : Nat → Nat → Bool} {T : Nat} (hT : (bq N T).length = T) {i : Nat} (h0 : 0 < i) (hi : i < T) : ∃ m x p, m < i ∧ (bq N m)[m]? = some x ∧ p < (outB N x).length ∧ i = (bq N m).length + p := by
  have key : ∀ m, (bq N m).length ≤ i ∨ ∃ m', m' < m ∧ (bq N m').length ≤ i ∧ i < (bq N (m' + 1)).length := by
    intro m
    induction m with
    | zero => exact .inl (by simp [bq]; omega)
    | succ m ih =>
      rcases ih with h | ⟨m', h1, h2⟩
      · by_cases hc : (bq N (m + 1)).length ≤ i
        · exact .inl hc
        · exact .inr ⟨m, Nat.lt_succ_self m, h, by omega⟩
      · exact .inr ⟨m', by omega, h2⟩
  rcases key T with h | ⟨m, h1, h2, h3⟩
  · omega
  · obtain ⟨x, _, hx⟩ := bq_full hT h1
    have hm := (List.getElem?_eq_some_iff.1 hx).1
    rw [bq_some hx, List.length_append, kidsQ_eq, List.length_map] at h3
    exact ⟨m, x, i - (bq N m).length, by omega, hx, by omega, by omega⟩
theorem reach_all {N : Nat → Nat → Bool} {H : Nat → Nat → Nat → Nat} {T T' : Nat} (hT : (bq N T).length = T) {t : List NodeD} (hk : ∀ m x, m < T' → (treeL N H T)[m]? = some x → ∃ x', t[m]? = some x' ∧ ∀ j ∈ x.kids, j ∈ x'.kids) : ∀ i, i < T → i ≤ T' → ReachT t i
  | i, hi, hi' => by
    by_cases h0 : i = 0
    · rw [h0]; exact .root
    · obtain ⟨m, x, p, h1, h2, h3, h4⟩ := bq_parent hT (show 0 < i by omega) hi
      obtain ⟨x', hx', hj⟩ := hk m _ (by omega) (treeL_at (H := H) (show m < T by omega) h2)
      refine .kid (reach_all hT hk m (by omega) (by omega)) hx' (hj i ?_)
      show i ∈ (List.range (outB N x).length).map (fun q => (bq N m).length + q)
      exact List.mem_map.2 ⟨p, List.mem_range.2 h3, h4.symm⟩
  termination_by i => i
/-- A node that may not be, anywhere in a tree: it is none. -/
theorem walk_bad {N : Nat → Nat → Bool} {H : Nat → Nat → Nat → Nat} {T : Nat} (hT : (bq N T).length = T) {t : List NodeD} (hk : ∀ m x, m < T → (treeL N H T)[m]? = some x → ∃ x', t[m]? = some x' ∧ ∀ j ∈ x.kids, j ∈ x'.kids) {i : Nat} (hi : i < T) {y : NodeD} (hy : t[i]? = some y) (hb : ¬ (y.hops.length = y.ib.length ∧ y.kids.length = y.ob.length)) (d b n k : Nat) : walkF t d b 0 n k = none := by
  cases h : walkF t d b 0 n k with
  | none => rfl
  | some p =>
    obtain ⟨d', b', n', k', p', h'⟩ := walk_reach h (reach_all hT hk i hi (by omega))
    obtain ⟨x, hx, h1, h2, _⟩ := walkF_some h'
    rw [hy] at hx
    cases hx
    exact absurd ⟨h1, h2⟩ hb
theorem walk_more {N : Nat → Nat → Bool} {H : Nat → Nat → Nat → Nat} {T : Nat} (hT : (bq N T).length = T) {i : Nat} (hi : i < T) {x y : NodeD} (hx : (treeL N H T)[i]? = some x) (hs : ∀ j ∈ x.kids, j ∈ y.kids) (hb : ¬ (y.hops.length = y.ib.length ∧ y.kids.length = y.ob.length)) (d b n k : Nat) : walkF ((treeL N H T).set i y) d b 0 n k = none := by
  refine walk_bad (H := H) hT (fun m x' hm hx' => ?_) hi (y := y) (by rw [List.getElem?_set_self (by rw [treeL_len]; exact hi)]) hb d b n k
  by_cases e : m = i
  · subst e
    rw [hx] at hx'
    cases hx'
    exact ⟨y, by rw [List.getElem?_set_self (by rw [treeL_len]; exact hi)], hs⟩
  · exact ⟨x', by rw [List.getElem?_set_ne (fun h => e h.symm)]; exact hx', fun j hj => hj⟩
theorem walk_less {N : Nat → Nat → Bool} {H : Nat → Nat → Nat → Nat} {T : Nat} (hT : (bq N T).length = T) (h0 : 0 < T) (d b n k : Nat) : walkF ((treeL N H T).take (T - 1)) d b 0 n k = none := by
  cases h : walkF ((treeL N H T).take (T - 1)) d b 0 n k with
  | none => rfl
  | some p =>
    exfalso
    have hr : ReachT ((treeL N H T).take (T - 1)) (T - 1) := reach_all (H := H) (T' := T - 1) hT (fun m x hm hx => ⟨x, by rw [List.getElem?_take, if_pos hm]; exact hx, fun j hj => hj⟩) (T - 1) (by omega) (Nat.le_refl _)
    obtain ⟨d', b', n', k', p', h'⟩ := walk_reach h hr
    obtain ⟨x, hx, _⟩ := walkF_some h'
    rw [List.getElem?_take, if_neg (by omega)] at hx
    cases hx
section
variable {R : List (Nat × Nat × Nat)} (hR : RtOk R) {T : Nat} (hT : (bq (nodeIn R) T).length = T)
include hR hT
theorem walk_root {t : List NodeD} (ht : ∀ i, i < T → t[i]? = (treeL (nodeIn R) (hopAt R) T)[i]?) {b : Nat} (hb : T ≤ b) : ∃ S, walkF t 9 b 0 0 0 = some (S, b - T) ∧ RtOk S ∧ (∀ x, x ∈ S ↔ x ∈ R) := by
  have h0 : (bq (nodeIn R) T)[0]? = some (0, 0) := bq_get (i := 0) (by simp [bq]) (Nat.zero_le _)
  have hl := dfs_len hR hT
  have h := walk_tree hR hT ht 9 (0, 0) 0 b (by decide) (nodeIn_zero R) h0 (by omega)
  rw [hl] at h
  refine ⟨_, by simpa using h, rts_ok hR (dfs_nodup (fun j q => nodeIn_up hR) 9 (0, 0)) (mem_dfsT hR), mem_rts hR (mem_dfsT hR)⟩
omit hT in
theorem node_full {i : Nat} (h0 : 0 < i) {x : Nat × Nat} (hx : (bq (nodeIn R) i)[i]? = some x) : innB (hopAt R) x ≠ [] ∨ outB (nodeIn R) x ≠ [] := by
  have hmem := List.mem_of_getElem? hx
  have hne : x ≠ (0, 0) := fun e => by
    have h1 : (bq (nodeIn R) i)[0]? = some (0, 0) := bq_get (i := 0) (by simp [bq]) (Nat.zero_le _)
    rw [← e] at h1
    have := nodup_at (bq_nodup (nodeIn R) i) hx h1
    omega
  rcases (bq_says (nodeIn R) i).2 x hmem with e | ⟨h1, h2, _⟩
  · exact absurd e hne
  · have h8 := nodeIn_low hR h2
    rcases nodeIn_iff.1 h2 with ⟨e, _⟩ | ⟨r, hr, c1, c2⟩
    · omega
    · have hk : r.2.1 ≤ 32 := ((hR.vp r hr)).2.1
      by_cases e : r.2.1 / 4 = x.1
      · refine .inl (List.ne_nil_of_mem (a := innN r.1 r.2.1) (mem_pick.2 ⟨(inn_lt _ _).2, ?_⟩))
        rw [decide_eq_true_iff, hopAt_of hR hr ⟨e, c2, rfl⟩]
        exact hR.lo r hr
      · refine .inr (List.ne_nil_of_mem (a := tp r.1 (4 * (x.1 + 1)) % 16) (mem_pick.2 ⟨Nat.mod_lt _ (by decide), nodeIn_iff.2 (.inr ⟨r, hr, by omega, ?_⟩)⟩))
        rw [tp_div r.1 (show 4 * x.1 ≤ 4 * (x.1 + 1) by omega) (by omega), show 4 * (x.1 + 1) - 4 * x.1 = 4 by omega] at c2
        have c2' : tp r.1 (4 * (x.1 + 1)) / 16 = x.2 := c2
        rw [← c2']
        omega
theorem hops_sum : ((treeL (nodeIn R) (hopAt R) T).map (fun x => x.hops.length)).sum = R.length := by
  have e : (treeL (nodeIn R) (hopAt R) T).map (fun x => x.hops.length) = (bq (nodeIn R) T).map (fun x => (rtsQ (hopAt R) x).length) := by
    refine List.ext_getElem? (fun i => ?_)
    rw [List.getElem?_map, List.getElem?_map]
    by_cases hi : i < T
    · obtain ⟨x, h1, h2⟩ := bq_full hT hi
      rw [treeL_at hi h2, h1]
      simp [nodeAt, rtsQ]
    · rw [List.getElem?_eq_none (by rw [treeL_len]; omega), List.getElem?_eq_none (by omega)]
      rfl
  rw [e, ← List.length_flatMap]
  exact rts_len hR (bq_nodup _ _) (mem_bqT hR hT)
end
end Go.Proofs.YtoecmoicaklbaaaDoor
