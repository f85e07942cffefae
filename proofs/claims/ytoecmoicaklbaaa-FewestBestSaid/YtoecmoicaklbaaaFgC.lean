
/- Fewest: plain laws: how many routes a tree needs; where its routes lead. -/
import Derived.Test.YtoecmoicaklbaaaFw8
set_option linter.unusedVariables false
set_option linter.unusedSimpArgs false
namespace Go.Proofs.Ytoecmoicaklbaaa
open Go Go.RowKit Go.Sort Wc Wk

def HT.inter (l r : HT) : List Nat := l.set.filter (fun x => decide (x ∈ r.set))
theorem set_node (l r : HT) : (HT.node l r).set = if l.inter r = [] then l.set ++ r.set else l.inter r := rfl
theorem mem_inter {l r : HT} {x : Nat} : x ∈ l.inter r ↔ x ∈ l.set ∧ x ∈ r.set := by unfold HT.inter; rw [List.mem_filter, decide_eq_true_iff]
/-- Routes that a tree needs where what stands above is in its set. -/
def HT.base : HT → Nat
  | .leaf _ => 0
  | .node l r => l.base + r.base + (if l.inter r = [] then 1 else 0)
def HT.cost (t : HT) (a : Nat) : Nat := t.base + (if a ∈ t.set then 0 else 1)
theorem hd_mem (t : HT) : t.hd ∈ t.set := List.mem_of_getElem? (set_hd t)
theorem top_mem (t : HT) (a : Nat) : t.top a ∈ t.set := by
  unfold HT.top
  split
  · assumption
  · exact hd_mem t
theorem inter_nil {l r : HT} (h : l.inter r = []) (x : Nat) : ¬ (x ∈ l.set ∧ x ∈ r.set) := fun k => by
  have := mem_inter.2 k
  rw [h] at this
  cases this
/-- What stands at the top is in the sets of both parts, or of just one. -/
theorem top_parts (l r : HT) (b : Nat) (hb : b ∈ (HT.node l r).set) : (if b ∈ l.set then 0 else 1) + (if b ∈ r.set then 0 else 1) = (if l.inter r = [] then 1 else 0) := by
  rw [set_node] at hb
  by_cases h : l.inter r = []
  · rw [if_pos h] at hb ⊢
    have hn := inter_nil h b
    rcases List.mem_append.1 hb with h1 | h1
    · rw [if_pos h1, if_neg (fun h2 => hn ⟨h1, h2⟩)]
    · rw [if_neg (fun h2 => hn ⟨h2, h1⟩), if_pos h1]
  · rw [if_neg h] at hb ⊢
    obtain ⟨h1, h2⟩ := mem_inter.1 hb
    rw [if_pos h1, if_pos h2]
theorem give_cost : ∀ (t : HT) (n k a : Nat), (t.give n k a).length = t.cost a
  | .leaf h, n, k, a => by simp only [HT.give, HT.cost, HT.base, HT.own1]; split <;> simp
  | .node l r, n, k, a => by
    have h1 := give_cost l n (k + 1) ((HT.node l r).top a)
    have h2 := give_cost r (halfN 32 n k 1) (k + 1) ((HT.node l r).top a)
    have h3 := top_parts l r ((HT.node l r).top a) (top_mem _ a)
    simp only [HT.give, List.length_append, h1, h2, HT.own1]
    unfold HT.cost
    have hb : (HT.node l r).base = l.base + r.base + (if l.inter r = [] then 1 else 0) := rfl
    rw [hb, ← h3]
    split <;> simp <;> omega
/-- No choice at a node is better than the one that is made. -/
theorem opt_node (l r : HT) (a b : Nat) : (HT.node l r).cost a ≤ (if a = b then 0 else 1) + l.cost b + r.cost b := by
  unfold HT.cost
  have hb : (HT.node l r).base = l.base + r.base + (if l.inter r = [] then 1 else 0) := rfl
  rw [hb, set_node]
  by_cases h : l.inter r = []
  · rw [if_pos h, if_pos h]
    have hn := inter_nil h b
    by_cases h1 : b ∈ l.set
    · have h2 : b ∉ r.set := fun k => hn ⟨h1, k⟩
      rw [if_pos h1, if_neg h2]
      by_cases e : a = b
      · subst e
        rw [if_pos (List.mem_append_left _ h1)]
        simp
        omega
      · rw [if_neg e]
        split <;> omega
    · rw [if_neg h1]
      by_cases h2 : b ∈ r.set
      · rw [if_pos h2]
        by_cases e : a = b
        · subst e
          rw [if_pos (List.mem_append_right _ h2)]
          simp
          omega
        · rw [if_neg e]
          split <;> omega
      · rw [if_neg h2]
        split <;> split <;> omega
  · rw [if_neg h, if_neg h]
    by_cases e : a = b
    · subst e
      rw [if_pos rfl]
      by_cases h1 : a ∈ l.set
      · by_cases h2 : a ∈ r.set
        · rw [if_pos (mem_inter.2 ⟨h1, h2⟩), if_pos h1, if_pos h2]; omega
        · rw [if_neg h2]; repeat' split
          all_goals omega
      · rw [if_neg h1]; repeat' split
        all_goals omega
    · rw [if_neg e]; repeat' split
      all_goals omega
theorem opt_leaf (h a b : Nat) : (HT.leaf h).cost a ≤ (if a = b then 0 else 1) + (HT.leaf h).cost b + (HT.leaf h).cost b := by
  simp only [HT.cost, HT.base, HT.set, List.mem_singleton]
  by_cases e : a = b
  · subst e
    rw [if_pos rfl]
    split <;> omega
  · rw [if_neg e]; repeat' split
    all_goals omega
theorem cost_top (l r : HT) (a : Nat) : (HT.node l r).cost a = (if a = (HT.node l r).top a then 0 else 1) + l.cost ((HT.node l r).top a) + r.cost ((HT.node l r).top a) := by
  have h3 := top_parts l r ((HT.node l r).top a) (top_mem _ a)
  have hb : (HT.node l r).base = l.base + r.base + (if l.inter r = [] then 1 else 0) := rfl
  have ht : (if a ∈ (HT.node l r).set then 0 else 1) = (if a = (HT.node l r).top a then 0 else 1) := by
    by_cases h : a ∈ (HT.node l r).set
    · have : (HT.node l r).top a = a := if_pos h
      rw [this, if_pos h, if_pos rfl]
    · have h2 : a ≠ (HT.node l r).top a := fun e => h (e ▸ top_mem _ a)
      rw [if_neg h, if_neg h2]
  unfold HT.cost
  rw [hb, ht, ← h3]
  omega
theorem tell_cost (g : Nat) : ∀ t : HT, (t.tell g).set = [g] ∧ (t.tell g).base = 0
  | .leaf _ => ⟨rfl, rfl⟩
  | .node l r => by
    obtain ⟨l1, l2⟩ := tell_cost g l
    obtain ⟨r1, r2⟩ := tell_cost g r
    have hi : (l.tell g).inter (r.tell g) = [g] := by unfold HT.inter; rw [l1, r1]; simp
    constructor
    · show (HT.node (l.tell g) (r.tell g)).set = [g]
      rw [set_node, hi]; simp
    · show (l.tell g).base + (r.tell g).base + (if (l.tell g).inter (r.tell g) = [] then 1 else 0) = 0
      rw [l2, r2, hi]; simp
theorem putH_nil (g : Nat) (t : HT) : HT.put [] g t = t.tell g := by cases t <;> rfl
theorem leaf_cost (h a : Nat) : (HT.leaf h).cost a = if a = h then 0 else 1 := by simp [HT.cost, HT.base, HT.set]
/-- One route more is one route more at most. -/
theorem put_cost (g : Nat) : ∀ (bs : List Bool) (t : HT) (a : Nat), (HT.put bs g t).cost a ≤ t.cost a + 1
  | [], t, a => by
    rw [putH_nil]
    unfold HT.cost
    rw [(tell_cost g t).1, (tell_cost g t).2]
    split <;> split <;> omega
  | d :: bs, .leaf h, a => by
    have ih := put_cost g bs (.leaf h) h
    rw [leaf_cost, if_pos rfl] at ih
    rw [leaf_cost]
    cases d
    · have := opt_node (HT.put bs g (.leaf h)) (.leaf h) a h
      rw [leaf_cost, if_pos rfl] at this
      show (HT.node (HT.put bs g (.leaf h)) (.leaf h)).cost a ≤ _
      omega
    · have := opt_node (.leaf h) (HT.put bs g (.leaf h)) a h
      rw [leaf_cost, if_pos rfl] at this
      show (HT.node (.leaf h) (HT.put bs g (.leaf h))).cost a ≤ _
      omega
  | d :: bs, .node l r, a => by
    have e := cost_top l r a
    generalize (HT.node l r).top a = b at e
    cases d
    · have ih := put_cost g bs l b
      have := opt_node (HT.put bs g l) r a b
      show (HT.node (HT.put bs g l) r).cost a ≤ _
      omega
    · have ih := put_cost g bs r b
      have := opt_node l (HT.put bs g r) a b
      show (HT.node l (HT.put bs g r)).cost a ≤ _
      omega
theorem grow_cost : ∀ (n : Nat) (ys : List (Nat × Nat × Nat)), ys.length = n → (growL ys).cost 0 ≤ n
  | 0, ys, h => by
    obtain rfl := List.eq_nil_of_length_eq_zero h
    simp [growL, leaf_cost]
  | n + 1, ys, h => by
    rcases List.eq_nil_or_concat ys with rfl | ⟨zs, x, rfl⟩
    · simp at h
    · rw [List.concat_eq_append] at *
      have ih := grow_cost n zs (by simpa using h)
      rw [growL_snoc]
      have := put_cost x.2.2 (bitsL x.1 x.2.1) (growL zs) 0
      omega
theorem few_len (ys : List (Nat × Nat × Nat)) : (fewL ys).length ≤ ys.length := by
  unfold fewL
  rw [give_cost]
  exact grow_cost _ ys rfl
end Go.Proofs.Ytoecmoicaklbaaa

/- Fewest: plain laws: where an address goes: by a tree, by its routes, by a list of routes put one by one. -/
set_option linter.unusedVariables false
set_option linter.unusedSimpArgs false
namespace Go.Proofs.Ytoecmoicaklbaaa
open Go Go.RowKit Go.Sort Wc Wk

def HT.look : HT → Nat → Nat → Nat
  | .leaf h, _, _ => h
  | .node l r, k, a => if bitAt false a k = 1 then r.look (k + 1) a else l.look (k + 1) a
def HT.hops : HT → List Nat
  | .leaf h => [h]
  | .node l r => l.hops ++ r.hops
theorem set_hops : ∀ (t : HT), ∀ x ∈ t.set, x ∈ t.hops
  | .leaf h, x, hx => hx
  | .node l r, x, hx => by
    rw [set_node] at hx
    simp only [HT.hops, List.mem_append]
    split at hx
    · rcases List.mem_append.1 hx with h | h
      · exact .inl (set_hops l x h)
      · exact .inr (set_hops r x h)
    · exact .inl (set_hops l x (mem_inter.1 hx).1)
/-- The hop of the longest route of a list that has an address; else d. -/
def BestIs (L : List (Nat × Nat × Nat)) (a d v : Nat) : Prop :=
  (∃ y ∈ L, cutN 32 a y.2.1 = y.1 ∧ y.2.2 = v ∧ ∀ z ∈ L, cutN 32 a z.2.1 = z.1 → z.2.1 ≤ y.2.1) ∨ ((∀ z ∈ L, ¬ cutN 32 a z.2.1 = z.1) ∧ v = d)
theorem BestIs.mem {L M : List (Nat × Nat × Nat)} {a d v : Nat} (h : BestIs L a d v) (e : ∀ y, y ∈ L ↔ y ∈ M) : BestIs M a d v := by
  rcases h with ⟨y, hy, h1, h2, h3⟩ | ⟨h1, h2⟩
  · exact .inl ⟨y, (e y).1 hy, h1, h2, fun z hz => h3 z ((e z).2 hz)⟩
  · exact .inr ⟨fun z hz => h1 z ((e z).2 hz), h2⟩
theorem keys_one : ∀ {L : List (Nat × Nat × Nat)}, L.Pairwise (fun x y => ¬ (x.1 = y.1 ∧ x.2.1 = y.2.1)) → ∀ y ∈ L, ∀ z ∈ L, y.1 = z.1 → y.2.1 = z.2.1 → y = z
  | [], _, y, hy, _, _, _, _ => absurd hy List.not_mem_nil
  | x :: L, h, y, hy, z, hz, e1, e2 => by
    obtain ⟨h1, h2⟩ := List.pairwise_cons.1 h
    rcases List.mem_cons.1 hy with a | a
    · rcases List.mem_cons.1 hz with b | b
      · rw [a, b]
      · rw [a] at e1 e2; exact absurd ⟨e1, e2⟩ (h1 z b)
    · rcases List.mem_cons.1 hz with b | b
      · rw [b] at e1 e2; exact absurd ⟨e1.symm, e2.symm⟩ (h1 y a)
      · exact keys_one h2 y a z b e1 e2
theorem BestIs.one {L : List (Nat × Nat × Nat)} {a d v w : Nat} (hk : L.Pairwise (fun x y => ¬ (x.1 = y.1 ∧ x.2.1 = y.2.1))) (h : BestIs L a d v) (k : BestIs L a d w) : v = w := by
  rcases h with ⟨y, hy, h1, h2, h3⟩ | ⟨h1, h2⟩
  · rcases k with ⟨z, hz, k1, k2, k3⟩ | ⟨k1, k2⟩
    · have e : y.2.1 = z.2.1 := Nat.le_antisymm (k3 y hy h1) (h3 z hz k1)
      have e1 : y.1 = z.1 := by rw [← h1, ← k1, e]
      have : y = z := keys_one hk y hy z hz e1 e
      rw [← h2, ← k2, this]
    · exact absurd h1 (k1 y hy)
  · rcases k with ⟨z, hz, k1, k2, k3⟩ | ⟨k1, k2⟩
    · exact absurd k1 (h1 z hz)
    · rw [h2, k2]
theorem cov_tp {n k a : Nat} (h : VP false n k) : cutN 32 a k = n ↔ tp a k = tp n k := has_iff (six := false) h
theorem tp_half {n k : Nat} (h : VP false n k) (hk : k < 32) : tp n (k + 1) = 2 * tp n k ∧ tp (halfN 32 n k 1) (k + 1) = 2 * tp n k + 1 := half_heads (six := false) h (show k < wd false from hk)
theorem give_in : ∀ (t : HT) (n k ab : Nat), VP false n k → t.depth + k ≤ 32 → ∀ y ∈ t.give n k ab, VP false y.1 y.2.1 ∧ k ≤ y.2.1 ∧ tp y.1 k = tp n k ∧ y.2.2 ∈ t.hops := by
  have own : ∀ (t : HT) (n k ab : Nat), VP false n k → ∀ y ∈ t.own1 n k ab, VP false y.1 y.2.1 ∧ k ≤ y.2.1 ∧ tp y.1 k = tp n k ∧ y.2.2 ∈ t.hops := fun t n k ab hv y hy => by
    unfold HT.own1 at hy
    split at hy
    · cases hy
    · simp only [List.mem_singleton] at hy
      subst hy
      exact ⟨hv, Nat.le_refl _, rfl, set_hops t _ (hd_mem t)⟩
  intro t
  induction t with
  | leaf h => intro n k ab hv _ y hy; exact own _ n k ab hv y hy
  | node l r il ir =>
    intro n k ab hv hd y hy
    simp only [HT.depth] at hd
    have hk : k < 32 := by omega
    obtain ⟨v1, v2⟩ := half_vp hv (show k < wd false from hk)
    obtain ⟨t1, t2⟩ := tp_half hv hk
    simp only [HT.give, List.mem_append] at hy
    simp only [HT.hops, List.mem_append]
    rcases hy with hy | hy | hy
    · obtain ⟨a1, a2, a3, a4⟩ := own _ n k ab hv y hy
      exact ⟨a1, a2, a3, by simpa [HT.hops] using a4⟩
    · obtain ⟨a1, a2, a3, a4⟩ := il n (k + 1) _ v1 (by omega) y hy
      have := tp_succ y.1 k hk
      have := bitAt_le false y.1 k
      exact ⟨a1, by omega, by omega, .inl a4⟩
    · obtain ⟨a1, a2, a3, a4⟩ := ir (halfN 32 n k 1) (k + 1) _ v2 (by omega) y hy
      have := tp_succ y.1 k hk
      have := bitAt_le false y.1 k
      exact ⟨a1, by omega, by omega, .inr a4⟩
theorem best_join {A B C M : List (Nat × Nat × Nat)} {a ab b n k v : Nat} (hM : ∀ z, z ∈ M ↔ z ∈ A ∨ z ∈ B ∨ z ∈ C) (hB : BestIs B a b v) (hk : ∀ z ∈ B, k < z.2.1) (hC : ∀ z ∈ C, ¬ cutN 32 a z.2.1 = z.1) (hn : cutN 32 a k = n) (hA : (A = [] ∧ b = ab) ∨ A = [(n, k, b)]) : BestIs M a ab v := by
  rcases hB with ⟨y, hy, h1, h2, h3⟩ | ⟨h1, h2⟩
  · refine .inl ⟨y, (hM y).2 (.inr (.inl hy)), h1, h2, fun z hz hc => ?_⟩
    rcases (hM z).1 hz with hz | hz | hz
    · rcases hA with ⟨e, _⟩ | e
      · rw [e] at hz; cases hz
      · rw [e] at hz
        simp only [List.mem_singleton] at hz
        subst hz
        exact Nat.le_of_lt (hk y hy)
    · exact h3 z hz hc
    · exact absurd hc (hC z hz)
  · rcases hA with ⟨e, e2⟩ | e
    · refine .inr ⟨fun z hz => ?_, h2.trans e2⟩
      rcases (hM z).1 hz with hz | hz | hz
      · rw [e] at hz; cases hz
      · exact h1 z hz
      · exact hC z hz
    · refine .inl ⟨(n, k, b), (hM _).2 (.inl (by rw [e]; simp)), hn, h2.symm, fun z hz hc => ?_⟩
      rcases (hM z).1 hz with hz | hz | hz
      · rw [e] at hz
        simp only [List.mem_singleton] at hz
        subst hz
        exact Nat.le_refl _
      · exact absurd hc (h1 z hz)
      · exact absurd hc (hC z hz)
theorem own_or (t : HT) (n k ab : Nat) : (t.own1 n k ab = [] ∧ t.top ab = ab) ∨ t.own1 n k ab = [(n, k, t.top ab)] := by
  unfold HT.own1 HT.top
  split
  · exact .inl ⟨rfl, rfl⟩
  · exact .inr rfl
/-- The routes of a tree lead where the tree leads. -/
theorem give_best : ∀ (t : HT) (n k ab a : Nat), VP false n k → t.depth + k ≤ 32 → tp a k = tp n k → BestIs (t.give n k ab) a ab (t.look k a) := by
  intro t
  induction t with
  | leaf h =>
    intro n k ab a hv hd ha
    have hn := (cov_tp hv).2 ha
    have ht : (HT.leaf h).top ab = h := by
      unfold HT.top HT.hd
      by_cases c : ab = h <;> simp [HT.set, c]
    have ho := own_or (.leaf h) n k ab
    rw [ht] at ho
    show BestIs ((HT.leaf h).own1 n k ab) a ab h
    exact best_join (B := []) (C := []) (fun z => by simp) (.inr ⟨fun z hz => (by cases hz), rfl⟩) (fun z hz => by cases hz) (fun z hz => by cases hz) hn ho
  | node l r il ir =>
    intro n k ab a hv hd ha
    simp only [HT.depth] at hd
    have hk : k < 32 := by omega
    have hn := (cov_tp hv).2 ha
    obtain ⟨v1, v2⟩ := half_vp hv (show k < wd false from hk)
    obtain ⟨t1, t2⟩ := tp_half hv hk
    have hs := tp_succ a k hk
    have hb := bitAt_le false a k
    have ho := own_or (.node l r) n k ab
    have gl := give_in l n (k + 1) ((HT.node l r).top ab) v1 (by omega)
    have gr := give_in r (halfN 32 n k 1) (k + 1) ((HT.node l r).top ab) v2 (by omega)
    have miss : ∀ {z : Nat × Nat × Nat} {m : Nat}, VP false z.1 z.2.1 → k + 1 ≤ z.2.1 → tp z.1 (k + 1) = tp m (k + 1) → tp a (k + 1) ≠ tp m (k + 1) → ¬ cutN 32 a z.2.1 = z.1 := fun {z m} hz h1 h2 h3 h4 => by
      have h5 := (cov_tp hz).1 h4
      exact h3 ((tp_mono h5 h1 (vp_iff.1 hz).2.1).trans h2)
    by_cases hbit : bitAt false a k = 1
    · have e : (HT.node l r).look k a = r.look (k + 1) a := if_pos hbit
      rw [e]
      have ha2 : tp a (k + 1) = tp (halfN 32 n k 1) (k + 1) := by omega
      refine best_join (A := (HT.node l r).own1 n k ab) (C := l.give n (k + 1) ((HT.node l r).top ab)) (fun z => by simp only [HT.give, List.mem_append]; exact ⟨fun h => h.elim .inl (fun h => h.elim (fun h => .inr (.inr h)) (fun h => .inr (.inl h))), fun h => h.elim .inl (fun h => h.elim (fun h => .inr (.inr h)) (fun h => .inr (.inl h)))⟩) (ir (halfN 32 n k 1) (k + 1) ((HT.node l r).top ab) a v2 (by omega) ha2) (fun z hz => (gr z hz).2.1) (fun z hz => miss (gl z hz).1 (gl z hz).2.1 (gl z hz).2.2.1 (by omega)) hn ho
    · have e : (HT.node l r).look k a = l.look (k + 1) a := if_neg hbit
      rw [e]
      have ha2 : tp a (k + 1) = tp n (k + 1) := by omega
      refine best_join (A := (HT.node l r).own1 n k ab) (C := r.give (halfN 32 n k 1) (k + 1) ((HT.node l r).top ab)) (fun z => by simp only [HT.give, List.mem_append]) (il n (k + 1) ((HT.node l r).top ab) a v1 (by omega) ha2) (fun z hz => (gl z hz).2.1) (fun z hz => miss (gr z hz).1 (gr z hz).2.1 (gr z hz).2.2.1 (by omega)) hn ho
/-- Routes of a tree have prefixes of their own. -/
theorem give_keys : ∀ (t : HT) (n k ab : Nat), VP false n k → t.depth + k ≤ 32 → (t.give n k ab).Pairwise (fun x y => ¬ (x.1 = y.1 ∧ x.2.1 = y.2.1)) := by
  intro t
  induction t with
  | leaf h =>
    intro n k ab _ _
    show ((HT.leaf h).own1 n k ab).Pairwise _
    unfold HT.own1
    split
    · exact List.Pairwise.nil
    · exact List.pairwise_singleton _ _
  | node l r il ir =>
    intro n k ab hv hd
    simp only [HT.depth] at hd
    have hk : k < 32 := by omega
    obtain ⟨v1, v2⟩ := half_vp hv (show k < wd false from hk)
    obtain ⟨t1, t2⟩ := tp_half hv hk
    have gl := give_in l n (k + 1) ((HT.node l r).top ab) v1 (by omega)
    have gr := give_in r (halfN 32 n k 1) (k + 1) ((HT.node l r).top ab) v2 (by omega)
    simp only [HT.give]
    refine List.pairwise_append.2 ⟨?_, List.pairwise_append.2 ⟨il n (k + 1) _ v1 (by omega), ir _ (k + 1) _ v2 (by omega), fun x hx y hy e => ?_⟩, fun x hx y hy e => ?_⟩
    · unfold HT.own1
      split
      · exact List.Pairwise.nil
      · exact List.pairwise_singleton _ _
    · have h1 := (gl x hx).2.2.1
      have h2 := (gr y hy).2.2.1
      rw [e.1] at h1
      omega
    · have hxk : x.2.1 = k := by
        unfold HT.own1 at hx
        split at hx
        · cases hx
        · simp only [List.mem_singleton] at hx
          subst hx
          rfl
      rcases List.mem_append.1 hy with hy | hy
      · have := (gl y hy).2.1; omega
      · have := (gr y hy).2.1; omega
/-- Where the way down goes. -/
def matchB : List Bool → Nat → Nat → Prop
  | [], _, _ => True
  | d :: bs, k, a => decide (bitAt false a k = 1) = d ∧ matchB bs (k + 1) a
theorem look_tell (g : Nat) : ∀ (t : HT) (k a : Nat), (t.tell g).look k a = g
  | .leaf _, _, _ => rfl
  | .node l r, k, a => by
    show (if bitAt false a k = 1 then (r.tell g).look (k + 1) a else (l.tell g).look (k + 1) a) = g
    rw [look_tell g l, look_tell g r]
    simp
theorem look_put (g : Nat) : ∀ (bs : List Bool) (t : HT) (k a : Nat), (matchB bs k a → (HT.put bs g t).look k a = g) ∧ (¬ matchB bs k a → (HT.put bs g t).look k a = t.look k a)
  | [], t, k, a => by
    rw [putH_nil]
    exact ⟨fun _ => look_tell g t k a, fun h => absurd trivial h⟩
  | d :: bs, .leaf h, k, a => by
    obtain ⟨i1, i2⟩ := look_put g bs (.leaf h) (k + 1) a
    cases d
    · show (_ ∧ _ → (if bitAt false a k = 1 then h else (HT.put bs g (.leaf h)).look (k + 1) a) = g) ∧ (¬ (_ ∧ _) → (if bitAt false a k = 1 then h else (HT.put bs g (.leaf h)).look (k + 1) a) = h)
      by_cases c : bitAt false a k = 1
      · simp [c]
      · simp only [c, if_false, decide_false, true_and]
        exact ⟨i1, i2⟩
    · show (_ ∧ _ → (if bitAt false a k = 1 then (HT.put bs g (.leaf h)).look (k + 1) a else h) = g) ∧ (¬ (_ ∧ _) → (if bitAt false a k = 1 then (HT.put bs g (.leaf h)).look (k + 1) a else h) = h)
      by_cases c : bitAt false a k = 1
      · simp only [c, if_true, decide_true, true_and]
        exact ⟨i1, i2⟩
      · simp [c]
  | d :: bs, .node l r, k, a => by
    obtain ⟨i1, i2⟩ := look_put g bs l (k + 1) a
    obtain ⟨j1, j2⟩ := look_put g bs r (k + 1) a
    cases d
    · show (_ ∧ _ → (if bitAt false a k = 1 then r.look (k + 1) a else (HT.put bs g l).look (k + 1) a) = g) ∧ (¬ (_ ∧ _) → (if bitAt false a k = 1 then r.look (k + 1) a else (HT.put bs g l).look (k + 1) a) = (if bitAt false a k = 1 then r.look (k + 1) a else l.look (k + 1) a))
      by_cases c : bitAt false a k = 1
      · simp [c]
      · simp only [c, if_false, decide_false, true_and]
        exact ⟨i1, i2⟩
    · show (_ ∧ _ → (if bitAt false a k = 1 then (HT.put bs g r).look (k + 1) a else l.look (k + 1) a) = g) ∧ (¬ (_ ∧ _) → (if bitAt false a k = 1 then (HT.put bs g r).look (k + 1) a else l.look (k + 1) a) = (if bitAt false a k = 1 then r.look (k + 1) a else l.look (k + 1) a))
      by_cases c : bitAt false a k = 1
      · simp only [c, if_true, decide_true, true_and]
        exact ⟨j1, j2⟩
      · simp [c]
theorem match_drop {n kk a : Nat} (hkk : kk ≤ 32) : ∀ (m j : Nat), j + m = kk → tp a j = tp n j → (matchB ((bitsL n kk).drop j) j a ↔ tp a kk = tp n kk)
  | 0, j, h, e => by
    obtain rfl : j = kk := by omega
    rw [List.drop_of_length_le (by rw [bits_len]; exact Nat.le_refl _)]
    exact ⟨fun _ => e, fun _ => trivial⟩
  | m + 1, j, h, e => by
    have hj : j < kk := by omega
    rw [bits_drop hj]
    have s1 := tp_succ a j (by omega)
    have s2 := tp_succ n j (by omega)
    have b1 := bitAt_le false a j
    have b2 := bitAt_le false n j
    show (decide (bitAt false a j = 1) = decide (bitAt false n j = 1) ∧ matchB ((bitsL n kk).drop (j + 1)) (j + 1) a) ↔ _
    constructor
    · rintro ⟨h1, h2⟩
      have hb : bitAt false a j = bitAt false n j := by
        by_cases c : bitAt false n j = 1
        · rw [decide_eq_true c, decide_eq_true_iff] at h1
          omega
        · rw [decide_eq_false c, decide_eq_false_iff_not] at h1
          omega
      exact (match_drop hkk m (j + 1) (by omega) (by omega)).1 h2
    · intro h1
      have h2 := tp_mono h1 (show j + 1 ≤ kk by omega) hkk
      have hb : bitAt false a j = bitAt false n j := by omega
      exact ⟨by rw [hb], (match_drop hkk m (j + 1) (by omega) h2).2 h1⟩
theorem match_iff {n kk a : Nat} (hv : VP false n kk) (ha : Fits false a) : matchB (bitsL n kk) 0 a ↔ cutN 32 a kk = n := by
  rw [cov_tp hv]
  have hf : n < 2 ^ 32 := (vp_iff.1 hv).1
  have ha' : a < 2 ^ 32 := ha
  exact match_drop (n := n) (kk := kk) (a := a) (vp_iff.1 hv).2.1 kk 0 (by omega) (by unfold tp; rw [Nat.div_eq_of_lt (by simpa using ha'), Nat.div_eq_of_lt (by simpa using hf)])
/-- A list of routes put one by one, shorter ones first: the longest one has the say. -/
theorem grow_best (a : Nat) (ha : Fits false a) : ∀ (n : Nat) (ys : List (Nat × Nat × Nat)), ys.length = n → (∀ x ∈ ys, VP false x.1 x.2.1) → ys.Pairwise (fun x y => ¬ (y.2.1 < x.2.1)) → BestIs ys a 0 ((growL ys).look 0 a)
  | 0, ys, h, _, _ => by
    obtain rfl := List.eq_nil_of_length_eq_zero h
    exact .inr ⟨fun z hz => (by cases hz), rfl⟩
  | n + 1, ys, h, hv, hs => by
    rcases List.eq_nil_or_concat ys with rfl | ⟨zs, x, rfl⟩
    · simp at h
    · rw [List.concat_eq_append] at *
      obtain ⟨s1, _, s3⟩ := List.pairwise_append.1 hs
      have ih := grow_best a ha n zs (by simpa using h) (fun y hy => hv y (List.mem_append_left _ hy)) s1
      have hvx := hv x (by simp)
      obtain ⟨p1, p2⟩ := look_put x.2.2 (bitsL x.1 x.2.1) (growL zs) 0 a
      rw [match_iff hvx ha] at p1 p2
      rw [growL_snoc]
      by_cases c : cutN 32 a x.2.1 = x.1
      · rw [p1 c]
        refine .inl ⟨x, by simp, c, rfl, fun z hz hc => ?_⟩
        rcases List.mem_append.1 hz with hz | hz
        · exact Nat.le_of_not_lt (s3 z hz x (by simp))
        · simp only [List.mem_singleton] at hz
          subst hz
          exact Nat.le_refl _
      · rw [p2 c]
        rcases ih with ⟨y, hy, h1, h2, h3⟩ | ⟨h1, h2⟩
        · refine .inl ⟨y, List.mem_append_left _ hy, h1, h2, fun z hz hc => ?_⟩
          rcases List.mem_append.1 hz with hz | hz
          · exact h3 z hz hc
          · simp only [List.mem_singleton] at hz
            subst hz
            exact absurd hc c
        · refine .inr ⟨fun z hz => ?_, h2⟩
          rcases List.mem_append.1 hz with hz | hz
          · exact h1 z hz
          · simp only [List.mem_singleton] at hz
            subst hz
            exact c
end Go.Proofs.Ytoecmoicaklbaaa

/- Fewest: plain laws: the fewest routes make a table that leads where the routes lead; no such table has fewer. -/
set_option linter.unusedVariables false
set_option linter.unusedSimpArgs false
namespace Go.Proofs.Ytoecmoicaklbaaa
open Go Go.RowKit Go.Sort Wc Wk

theorem hops_tell (g : Nat) : ∀ t : HT, ∀ x ∈ (t.tell g).hops, x = g
  | .leaf _, x, hx => by simpa [HT.tell, HT.hops] using hx
  | .node l r, x, hx => by
    simp only [HT.tell, HT.hops, List.mem_append] at hx
    exact hx.elim (hops_tell g l x) (hops_tell g r x)
theorem hops_put (g : Nat) : ∀ (bs : List Bool) (t : HT), ∀ x ∈ (HT.put bs g t).hops, x = g ∨ x ∈ t.hops
  | [], t, x, hx => by rw [putH_nil] at hx; exact .inl (hops_tell g t x hx)
  | d :: bs, .leaf h, x, hx => by
    have ih := hops_put g bs (.leaf h) x
    cases d
    · have hx' : x ∈ (HT.put bs g (.leaf h)).hops ++ [h] := hx
      rcases List.mem_append.1 hx' with e | e
      · exact ih e
      · exact .inr e
    · have hx' : x ∈ [h] ++ (HT.put bs g (.leaf h)).hops := hx
      rcases List.mem_append.1 hx' with e | e
      · exact .inr e
      · exact ih e
  | d :: bs, .node l r, x, hx => by
    cases d
    · have hx' : x ∈ (HT.put bs g l).hops ++ r.hops := hx
      rcases List.mem_append.1 hx' with e | e
      · exact (hops_put g bs l x e).imp id (fun h => List.mem_append_left _ h)
      · exact .inr (List.mem_append_right _ e)
    · have hx' : x ∈ l.hops ++ (HT.put bs g r).hops := hx
      rcases List.mem_append.1 hx' with e | e
      · exact .inr (List.mem_append_left _ e)
      · exact (hops_put g bs r x e).imp id (fun h => List.mem_append_right _ h)
theorem hops_fold : ∀ (ys : List (Nat × Nat × Nat)) (t : HT), ∀ x ∈ (ys.foldl (fun T x => HT.put (bitsL x.1 x.2.1) x.2.2 T) t).hops, x ∈ t.hops ∨ ∃ y ∈ ys, x = y.2.2
  | [], t, x, hx => .inl hx
  | y :: ys, t, x, hx => by
    rcases hops_fold ys _ x hx with h | ⟨z, hz, e⟩
    · rcases hops_put y.2.2 _ t x h with e | e
      · exact .inr ⟨y, by simp, e⟩
      · exact .inl e
    · exact .inr ⟨z, List.mem_cons_of_mem _ hz, e⟩
/-- With a route for all, all goes where a route says. -/
theorem grow_hops {rs ys : List (Nat × Nat × Nat)} (hs : SortL rs ys) (hex : ∃ x ∈ rs, x.2.1 = 0) : ∀ x ∈ (growL ys).hops, ∃ y ∈ ys, x = y.2.2 := by
  obtain ⟨hp, hw⟩ := hs
  cases ys with
  | nil => obtain ⟨x, hx, _⟩ := hex; exact absurd (hp.mem_iff.2 hx) List.not_mem_nil
  | cons y ys =>
    have hy0 : y.2.1 = 0 := by
      obtain ⟨x, hx, h0⟩ := hex
      rcases List.mem_cons.1 (hp.mem_iff.2 hx) with e | e
      · rw [← e]; exact h0
      · have := (List.pairwise_cons.1 hw).1 x e
        omega
    intro x hx
    have hx' : x ∈ (ys.foldl (fun T x => HT.put (bitsL x.1 x.2.1) x.2.2 T) (HT.put (bitsL y.1 y.2.1) y.2.2 (.leaf 0))).hops := hx
    rcases hops_fold ys _ x hx' with h | ⟨z, hz, e⟩
    · have e0 : bitsL y.1 y.2.1 = [] := by rw [hy0]; rfl
      rw [e0, putH_nil] at h
      exact ⟨y, by simp, hops_tell _ _ x h⟩
    · exact ⟨z, List.mem_cons_of_mem _ hz, e⟩
theorem grow_depth {rs ys : List (Nat × Nat × Nat)} (hok : RtOk rs) (hs : SortL rs ys) : (growL ys).depth ≤ 32 :=
  (growL_bounds _ ys rfl (fun x hx => (vp_iff.1 (hok.vp x (hs.1.mem_iff.1 hx))).2.1)).1
theorem vp_zero : VP false 0 0 := vp_iff.2 ⟨Nat.two_pow_pos _, Nat.zero_le _, Nat.zero_mod _⟩
/-- The fewest routes are a table. -/
theorem few_ok {rs ys : List (Nat × Nat × Nat)} (hok : RtOk rs) (hs : SortL rs ys) (hex : ∃ x ∈ rs, x.2.1 = 0) : RtOk (fewL ys) := by
  have hd := grow_depth hok hs
  have hin := give_in (growL ys) 0 0 0 vp_zero (by omega)
  have hh : ∀ y ∈ fewL ys, 1 ≤ y.2.2 ∧ y.2.2 ≤ 999 := fun y hy => by
    obtain ⟨z, hz, e⟩ := grow_hops hs hex _ (hin y hy).2.2.2
    have hm := hs.1.mem_iff.1 hz
    rw [e]
    exact ⟨hok.lo z hm, hok.hi z hm⟩
  exact ⟨fun y hy => (hin y hy).1, fun y hy => (hh y hy).1, fun y hy => (hh y hy).2, give_keys _ 0 0 0 vp_zero (by omega), Nat.le_trans (few_len ys) (by rw [hs.1.length_eq]; exact hok.len)⟩
theorem tp_zero {a : Nat} (ha : Fits false a) : tp a 0 = tp 0 0 := by
  have h1 : a < 2 ^ 32 := ha
  unfold tp
  rw [Nat.div_eq_of_lt (by simpa using h1)]
theorem few_best {rs ys : List (Nat × Nat × Nat)} (hok : RtOk rs) (hs : SortL rs ys) {a : Nat} (ha : Fits false a) : BestIs (fewL ys) a 0 ((growL ys).look 0 a) :=
  give_best (growL ys) 0 0 0 a vp_zero (by have := grow_depth hok hs; omega) (tp_zero ha)
theorem list_best {rs ys : List (Nat × Nat × Nat)} (hok : RtOk rs) (hs : SortL rs ys) {a : Nat} (ha : Fits false a) : BestIs rs a 0 ((growL ys).look 0 a) :=
  (grow_best a ha _ ys rfl (fun x hx => hok.vp x (hs.1.mem_iff.1 hx)) hs.2).mem (fun y => hs.1.mem_iff)
theorem best_keys {L : List (Nat × Nat × Nat)} (hok : RtOk L) (a : Nat) : BestIs L a 0 (goesL (putAll L) a).1 := by
  obtain ⟨s1, s2, s3, _⟩ := putAll_ok _ hok rfl
  obtain ⟨g1, _⟩ := goesL_says s1 s2 (fun x hx => hok.vp x ((s3 x).1 hx)) a
  have : BestIs (putAll L) a 0 (goesL (putAll L) a).1 := by
    rcases g1 with ⟨h1, _, h3⟩ | ⟨x, hx, h1, h2, _, h4⟩
    · exact .inr ⟨h3, h1⟩
    · exact .inl ⟨x, hx, h1, h2.symm, h4⟩
  exact this.mem s3
/-- Addresses go where they went. -/
theorem few_goes {rs ys : List (Nat × Nat × Nat)} (hok : RtOk rs) (hs : SortL rs ys) (hex : ∃ x ∈ rs, x.2.1 = 0) {a : Nat} (ha : Fits false a) : (goesL (putAll (fewL ys)) a).1 = (goesL (putAll rs) a).1 := by
  have hf := few_ok hok hs hex
  have h1 := BestIs.one hf.keys (best_keys hf a) (few_best hok hs ha)
  have h2 := BestIs.one hok.keys (best_keys hok a) (list_best hok hs ha)
  rw [h1, h2]
theorem few_pos {rs ys : List (Nat × Nat × Nat)} (hok : RtOk rs) (hs : SortL rs ys) (hex : ∃ x ∈ rs, x.2.1 = 0) : 0 < (fewL ys).length := by
  refine List.length_pos_iff.2 fun e => ?_
  have h := few_best hok hs (a := 0) (Nat.two_pow_pos _)
  rw [e] at h
  rcases h with ⟨y, hy, _⟩ | ⟨_, h2⟩
  · cases hy
  · have h3 := list_best hok hs (a := 0) (Nat.two_pow_pos _)
    rw [h2] at h3
    obtain ⟨x, hx, h0⟩ := hex
    have hx1 := hok.vp x hx
    have hc : cutN 32 0 x.2.1 = x.1 := by
      rw [cov_tp hx1, h0]
      exact (tp_zero (vp_iff.1 hx1).1).symm
    rcases h3 with ⟨y, hy, _, k2, _⟩ | ⟨k1, _⟩
    · have := hok.lo y hy
      omega
    · exact k1 x hx hc
/-- What is left of a list below one half. -/
theorem best_part {O B C M : List (Nat × Nat × Nat)} {a ab b k v : Nat} (hM : ∀ z, z ∈ M ↔ z ∈ O ∨ z ∈ B ∨ z ∈ C) (hB : BestIs M a ab v) (hO : (O = [] ∧ b = ab) ∨ ∃ o, O = [o] ∧ b = o.2.2 ∧ o.2.1 = k ∧ cutN 32 a o.2.1 = o.1) (hk : ∀ z ∈ B, k < z.2.1) (hC : ∀ z ∈ C, ¬ cutN 32 a z.2.1 = z.1) : BestIs B a b v := by
  rcases hB with ⟨y, hy, h1, h2, h3⟩ | ⟨h1, h2⟩
  · rcases (hM y).1 hy with h | h | h
    · rcases hO with ⟨e, _⟩ | ⟨o, e, e2, e3, e4⟩
      · rw [e] at h; cases h
      · rw [e] at h
        simp only [List.mem_singleton] at h
        subst h
        refine .inr ⟨fun z hz hc => ?_, by rw [← h2, e2]⟩
        have := h3 z ((hM z).2 (.inr (.inl hz))) hc
        have := hk z hz
        omega
    · exact .inl ⟨y, h, h1, h2, fun z hz hc => h3 z ((hM z).2 (.inr (.inl hz))) hc⟩
    · exact absurd h1 (hC y h)
  · rcases hO with ⟨e, e2⟩ | ⟨o, e, e2, e3, e4⟩
    · exact .inr ⟨fun z hz => h1 z ((hM z).2 (.inr (.inl hz))), by rw [h2, e2]⟩
    · exact absurd e4 (h1 o ((hM o).2 (.inl (by rw [e]; simp))))
theorem parts_len (p : Nat × Nat × Nat → Bool) : ∀ L : List (Nat × Nat × Nat), (L.filter p).length + (L.filter (fun y => !p y)).length = L.length
  | [] => rfl
  | x :: L => by
    have ih := parts_len p L
    cases h : p x <;> simp [List.filter_cons, h] <;> omega
def HT.kids : HT → HT × HT
  | .leaf h => (.leaf h, .leaf h)
  | .node l r => (l, r)
theorem kids_look (t : HT) (k a : Nat) : t.look k a = if bitAt false a k = 1 then t.kids.2.look (k + 1) a else t.kids.1.look (k + 1) a := by
  cases t with
  | leaf h => show h = if _ then h else h; simp
  | node l r => rfl
theorem kids_opt (t : HT) (a b : Nat) : t.cost a ≤ (if a = b then 0 else 1) + t.kids.1.cost b + t.kids.2.cost b := by
  cases t with
  | leaf h => exact opt_leaf h a b
  | node l r => exact opt_node l r a b
theorem kids_depth (t : HT) {m : Nat} (h : t.depth ≤ m + 1) : t.kids.1.depth ≤ m ∧ t.kids.2.depth ≤ m := by
  cases t with
  | leaf h => exact ⟨Nat.zero_le _, Nat.zero_le _⟩
  | node l r => simp only [HT.depth] at h; exact ⟨by show l.depth ≤ m; omega, by show r.depth ≤ m; omega⟩
/-- No table that leads where a tree leads has fewer routes than the tree needs. -/
theorem least : ∀ (d : Nat) (t : HT) (n k ab : Nat) (L : List (Nat × Nat × Nat)), k + d = 32 → VP false n k → t.depth ≤ d → (∀ y ∈ L, VP false y.1 y.2.1 ∧ k ≤ y.2.1 ∧ tp y.1 k = tp n k) → L.Pairwise (fun x y => ¬ (x.1 = y.1 ∧ x.2.1 = y.2.1)) →
    (∀ a, Fits false a → tp a k = tp n k → BestIs L a ab (t.look k a)) → t.cost ab ≤ L.length
  | 0, t, n, k, ab, L, hkd, hv, hd, hin, hkeys, hb => by
    cases t with
    | node l r => simp only [HT.depth] at hd; omega
    | leaf h =>
      rw [leaf_cost]
      have := hb n (vp_iff.1 hv).1 rfl
      cases L with
      | nil =>
        rcases this with ⟨y, hy, _⟩ | ⟨_, e⟩
        · cases hy
        · have e' : h = ab := e
          rw [e', if_pos rfl]
          exact Nat.zero_le _
      | cons y L => simp only [List.length_cons]; split <;> omega
  | d + 1, t, n, k, ab, L, hkd, hv, hd, hin, hkeys, hb => by
    have hk : k < 32 := by omega
    obtain ⟨v1, v2⟩ := half_vp hv (show k < wd false from hk)
    obtain ⟨t1, t2⟩ := tp_half hv hk
    obtain ⟨O, hO⟩ : ∃ O, O = L.filter (fun y => decide (y.2.1 = k)) := ⟨_, rfl⟩
    obtain ⟨R, hR⟩ : ∃ R, R = L.filter (fun y => !decide (y.2.1 = k)) := ⟨_, rfl⟩
    obtain ⟨Bl, hBl⟩ : ∃ B, B = R.filter (fun y => decide (tp y.1 (k + 1) = 2 * tp n k)) := ⟨_, rfl⟩
    obtain ⟨Br, hBr⟩ : ∃ B, B = R.filter (fun y => !decide (tp y.1 (k + 1) = 2 * tp n k)) := ⟨_, rfl⟩
    have len1 : O.length + R.length = L.length := by rw [hO, hR]; exact parts_len _ _
    have len2 : Bl.length + Br.length = R.length := by rw [hBl, hBr]; exact parts_len _ _
    have mO : ∀ y, y ∈ O ↔ y ∈ L ∧ y.2.1 = k := fun y => by rw [hO, List.mem_filter, decide_eq_true_iff]
    have mR : ∀ y, y ∈ R ↔ y ∈ L ∧ y.2.1 ≠ k := fun y => by rw [hR, List.mem_filter]; simp
    have mBl : ∀ y, y ∈ Bl ↔ y ∈ R ∧ tp y.1 (k + 1) = 2 * tp n k := fun y => by rw [hBl, List.mem_filter, decide_eq_true_iff]
    have mBr : ∀ y, y ∈ Br ↔ y ∈ R ∧ tp y.1 (k + 1) ≠ 2 * tp n k := fun y => by rw [hBr, List.mem_filter]; simp
    have kO : O.Pairwise (fun x y => ¬ (x.1 = y.1 ∧ x.2.1 = y.2.1)) := by rw [hO]; exact hkeys.filter _
    have kR : R.Pairwise (fun x y => ¬ (x.1 = y.1 ∧ x.2.1 = y.2.1)) := by rw [hR]; exact hkeys.filter _
    have kl : Bl.Pairwise (fun x y => ¬ (x.1 = y.1 ∧ x.2.1 = y.2.1)) := by rw [hBl]; exact kR.filter _
    have kr : Br.Pairwise (fun x y => ¬ (x.1 = y.1 ∧ x.2.1 = y.2.1)) := by rw [hBr]; exact kR.filter _
    clear hO hR hBl hBr
    have inR : ∀ y ∈ R, VP false y.1 y.2.1 ∧ k + 1 ≤ y.2.1 ∧ (tp y.1 (k + 1) = 2 * tp n k ∨ tp y.1 (k + 1) = 2 * tp n k + 1) := fun y hy => by
      obtain ⟨h1, h2⟩ := (mR y).1 hy
      obtain ⟨a1, a2, a3⟩ := hin y h1
      have := tp_succ y.1 k hk
      have := bitAt_le false y.1 k
      exact ⟨a1, by omega, by omega⟩
    have eO : ∀ y ∈ O, y.1 = n := fun y hy => by
      obtain ⟨h1, h2⟩ := (mO y).1 hy
      obtain ⟨a1, a2, a3⟩ := hin y h1
      rw [h2] at a1
      have e1 := vp_tp a1
      have e2 := vp_tp hv
      rw [← e1, ← e2, a3]
    obtain ⟨b, hbO⟩ : ∃ b, ((O = [] ∧ b = ab) ∨ ∃ o, O = [o] ∧ b = o.2.2 ∧ o.2.1 = k ∧ o.1 = n) := by
      match O, mO, kO, eO with
      | [], _, _, _ => exact ⟨ab, .inl ⟨rfl, rfl⟩⟩
      | [o], mO, _, eO => exact ⟨o.2.2, .inr ⟨o, rfl, rfl, ((mO o).1 (by simp)).2, eO o (by simp)⟩⟩
      | o :: o' :: O, mO, kO, eO =>
        have h1 := (List.pairwise_cons.1 kO).1 o' (by simp)
        exact absurd ⟨(eO o (by simp)).trans (eO o' (by simp)).symm, (((mO o).1 (by simp)).2).trans (((mO o').1 (by simp)).2).symm⟩ h1
    have oc : ∀ a, tp a k = tp n k → (O = [] ∧ b = ab) ∨ ∃ o, O = [o] ∧ b = o.2.2 ∧ o.2.1 = k ∧ cutN 32 a o.2.1 = o.1 := fun a ha => by
      rcases hbO with h | ⟨o, e1, e2, e3, e4⟩
      · exact .inl h
      · exact .inr ⟨o, e1, e2, e3, by rw [e3, e4]; exact (cov_tp hv).2 ha⟩
    have hcost : (if ab = b then 0 else 1) ≤ O.length := by
      rcases hbO with ⟨e1, e2⟩ | ⟨o, e1, _⟩
      · rw [e1, e2]; simp
      · rw [e1]; simp only [List.length_cons, List.length_nil]; split <;> omega
    have miss : ∀ {z : Nat × Nat × Nat} {a : Nat}, VP false z.1 z.2.1 → k + 1 ≤ z.2.1 → tp a (k + 1) ≠ tp z.1 (k + 1) → ¬ cutN 32 a z.2.1 = z.1 := fun {z a} hz h1 h3 h4 => h3 (tp_mono ((cov_tp hz).1 h4) h1 (vp_iff.1 hz).2.1)
    have mem1 : ∀ z, z ∈ L ↔ z ∈ O ∨ z ∈ Bl ∨ z ∈ Br := fun z => by
      rw [mO, mBl, mBr, mR]
      by_cases c1 : z.2.1 = k <;> by_cases c2 : tp z.1 (k + 1) = 2 * tp n k <;> simp [c1, c2]
    have mem2 : ∀ z, z ∈ L ↔ z ∈ O ∨ z ∈ Br ∨ z ∈ Bl := fun z => (mem1 z).trans ⟨fun h => h.imp id Or.symm, fun h => h.imp id Or.symm⟩
    obtain ⟨d1, d2⟩ := kids_depth t hd
    have il := least d t.kids.1 n (k + 1) b Bl (by omega) v1 d1 (fun y hy => by
      obtain ⟨h1, h2⟩ := (mBl y).1 hy
      obtain ⟨a1, a2, _⟩ := inR y h1
      exact ⟨a1, a2, h2.trans t1.symm⟩) kl (fun a ha hta => by
      have s := tp_succ a k hk
      have h0 := bitAt_le false a k
      have hta' : tp a k = tp n k := by omega
      have hbit : ¬ bitAt false a k = 1 := by omega
      have h1 := hb a ha hta'
      rw [kids_look, if_neg hbit] at h1
      exact best_part mem1 h1 (oc a hta') (fun z hz => (inR z ((mBl z).1 hz).1).2.1) (fun z hz => miss (inR z ((mBr z).1 hz).1).1 (inR z ((mBr z).1 hz).1).2.1 (by have := ((mBr z).1 hz).2; omega)))
    have ir := least d t.kids.2 (halfN 32 n k 1) (k + 1) b Br (by omega) v2 d2 (fun y hy => by
      obtain ⟨h1, h2⟩ := (mBr y).1 hy
      obtain ⟨a1, a2, a3⟩ := inR y h1
      exact ⟨a1, a2, by omega⟩) kr (fun a ha hta => by
      have s := tp_succ a k hk
      have h0 := bitAt_le false a k
      have hta' : tp a k = tp n k := by omega
      have hbit : bitAt false a k = 1 := by omega
      have h1 := hb a ha hta'
      rw [kids_look, if_pos hbit] at h1
      exact best_part mem2 h1 (oc a hta') (fun z hz => (inR z ((mBr z).1 hz).1).2.1) (fun z hz => miss (inR z ((mBl z).1 hz).1).1 (inR z ((mBl z).1 hz).1).2.1 (by have := ((mBl z).1 hz).2; omega)))
    have := kids_opt t ab b
    omega
/-- The fewest routes are as few as can be. -/
theorem few_least {rs ys L : List (Nat × Nat × Nat)} (hok : RtOk rs) (hs : SortL rs ys) (hL : RtOk L) (h : ∀ a, Fits false a → (goesL (putAll L) a).1 = (goesL (putAll rs) a).1) : (fewL ys).length ≤ L.length := by
  unfold fewL
  rw [give_cost]
  refine least 32 (growL ys) 0 0 0 L rfl vp_zero (grow_depth hok hs) (fun y hy => ⟨hL.vp y hy, Nat.zero_le _, tp_zero (vp_iff.1 (hL.vp y hy)).1⟩) hL.keys (fun a ha _ => ?_)
  have h1 := best_keys hL a
  rw [h a ha, BestIs.one hok.keys (best_keys hok a) (list_best hok hs ha)] at h1
  exact h1
end Go.Proofs.Ytoecmoicaklbaaa
