
/- Trees of strides: plain laws: the list of nodes; the walk down, and what it tells. -/
import Derived.Test.YtoecmoicaklbaaaDoorStP
set_option linter.unusedVariables false
set_option linter.unusedSimpArgs false
namespace Go.Proofs.YtoecmoicaklbaaaDoor
open Go Go.RowKit Go.Sort Wc Wk

/-- A node by its numbers. -/
structure NodeD where
  ib : List Nat
  ob : List Nat
  hops : List Nat
  kids : List Nat
def sumB (l : List Nat) : Nat := (l.map (fun i => 2 ^ i)).sum
def pick16 (P : Nat → Bool) : List Nat := (List.range 16).filter P
theorem mem_pick {P : Nat → Bool} {i : Nat} : i ∈ pick16 P ↔ i < 16 ∧ P i = true := by unfold pick16; rw [List.mem_filter, List.mem_range]
theorem pick_nodup (P : Nat → Bool) : (pick16 P).Nodup := List.nodup_range.filter _
def innB (H : Nat → Nat → Nat → Nat) (x : Nat × Nat) : List Nat := pick16 (fun i => decide (0 < H x.1 x.2 i))
def outB (N : Nat → Nat → Bool) (x : Nat × Nat) : List Nat := pick16 (fun i => N (x.1 + 1) (16 * x.2 + i))
theorem kidsQ_eq (N : Nat → Nat → Bool) (x : Nat × Nat) : kidsQ N x = (outB N x).map (fun i => (x.1 + 1, 16 * x.2 + i)) := rfl
def nodeAt (N : Nat → Nat → Bool) (H : Nat → Nat → Nat → Nat) (x : Nat × Nat) (s : Nat) : NodeD := ⟨innB H x, outB N x, (innB H x).map (H x.1 x.2), (List.range (outB N x).length).map (fun m => s + m)⟩
def treeL (N : Nat → Nat → Bool) (H : Nat → Nat → Nat → Nat) (T : Nat) : List NodeD := (List.range T).map (fun i => nodeAt N H ((bq N i)[i]?.getD (0, 0)) (bq N i).length)
theorem treeL_len (N : Nat → Nat → Bool) (H : Nat → Nat → Nat → Nat) (T : Nat) : (treeL N H T).length = T := by simp [treeL]
theorem treeL_at {N : Nat → Nat → Bool} {H : Nat → Nat → Nat → Nat} {T i : Nat} (hi : i < T) {x : Nat × Nat} (hx : (bq N i)[i]? = some x) : (treeL N H T)[i]? = some (nodeAt N H x (bq N i).length) := by
  unfold treeL
  rw [List.getElem?_map, List.getElem?_range hi]
  simp [hx]
theorem treeL_snoc (N : Nat → Nat → Bool) (H : Nat → Nat → Nat → Nat) (T : Nat) {x : Nat × Nat} (hx : (bq N T)[T]? = some x) : treeL N H (T + 1) = treeL N H T ++ [nodeAt N H x (bq N T).length] := by
  unfold treeL
  rw [List.range_succ, List.map_append]
  simp [hx]
/-- The node that stands at a place stood there already when it was met. -/
theorem bq_at {N : Nat → Nat → Bool} {T i : Nat} (hi : i < T) {x : Nat × Nat} (hx : (bq N T)[i]? = some x) : (bq N i)[i]? = some x := by
  cases hh : (bq N i)[i]? with
  | some y => rw [← bq_get hh (show i ≤ T by omega), hx]
  | none =>
    exfalso
    have h2 := bq_stay (List.getElem?_eq_none_iff.1 hh) (T - i)
    rw [show i + (T - i) = T by omega] at h2
    rw [h2, hh] at hx
    cases hx
theorem bq_full {N : Nat → Nat → Bool} {T : Nat} (hT : (bq N T).length = T) {i : Nat} (hi : i < T) : ∃ x, (bq N T)[i]? = some x ∧ (bq N i)[i]? = some x := by
  have h := List.getElem?_eq_getElem (show i < (bq N T).length by omega)
  exact ⟨_, h, bq_at hi h⟩

/-- The nodes below a node, itself among them, so many levels down. -/
def dfsN (N : Nat → Nat → Bool) : Nat → Nat × Nat → List (Nat × Nat)
  | 0, _ => []
  | d + 1, x => x :: (kidsQ N x).flatMap (dfsN N d)
theorem up_iter {N : Nat → Nat → Bool} (hup : ∀ j q, N (j + 1) q = true → N j (q / 16) = true) : ∀ (m j q : Nat), N (j + m) q = true → N j (q / 16 ^ m) = true
  | 0, j, q, h => by simpa using h
  | m + 1, j, q, h => by
    have := up_iter hup m j (q / 16) (hup (j + m) q h)
    rwa [Nat.div_div_eq_div_mul, ← Nat.pow_succ'] at this
theorem mem_dfs {N : Nat → Nat → Bool} (hup : ∀ j q, N (j + 1) q = true → N j (q / 16) = true) : ∀ (d : Nat) (x y : Nat × Nat), y ∈ dfsN N d x ↔ (y = x ∧ 0 < d) ∨ (x.1 < y.1 ∧ y.1 < x.1 + d ∧ N y.1 y.2 = true ∧ y.2 / 16 ^ (y.1 - x.1) = x.2)
  | 0, x, y => by simp [dfsN]; intros; omega
  | d + 1, x, y => by
    show y ∈ x :: (kidsQ N x).flatMap (dfsN N d) ↔ _
    rw [List.mem_cons, List.mem_flatMap]
    constructor
    · rintro (h | ⟨z, hz, hy⟩)
      · exact .inl ⟨h, by omega⟩
      · obtain ⟨a, b, c⟩ := mem_kidsQ.1 hz
        rcases (mem_dfs hup d z y).1 hy with ⟨rfl, h0⟩ | ⟨h1, h2, h3, h4⟩
        · exact .inr ⟨by omega, by omega, c, by rw [a, show x.1 + 1 - x.1 = 1 by omega, Nat.pow_one]; exact b⟩
        · refine .inr ⟨by omega, by omega, h3, ?_⟩
          rw [show y.1 - x.1 = (y.1 - z.1) + 1 by omega, Nat.pow_succ, ← Nat.div_div_eq_div_mul, h4, b]
    · rintro (⟨h, _⟩ | ⟨h1, h2, h3, h4⟩)
      · exact .inl h
      · refine .inr ⟨(x.1 + 1, y.2 / 16 ^ (y.1 - x.1 - 1)), mem_kidsQ.2 ⟨rfl, ?_, ?_⟩, (mem_dfs hup d _ y).2 ?_⟩
        · rw [← h4, show y.1 - x.1 = (y.1 - x.1 - 1) + 1 by omega, Nat.pow_succ, ← Nat.div_div_eq_div_mul]
          simp
        · exact up_iter hup (y.1 - x.1 - 1) (x.1 + 1) y.2 (by rw [show x.1 + 1 + (y.1 - x.1 - 1) = y.1 by omega]; exact h3)
        · by_cases e : y.1 = x.1 + 1
          · refine .inl ⟨?_, by omega⟩
            rw [e, show x.1 + 1 - x.1 - 1 = 0 by omega]
            obtain ⟨a, b⟩ := y
            simp at e ⊢
            exact e
          · exact .inr ⟨by show x.1 + 1 < y.1; omega, by show y.1 < x.1 + 1 + d; omega, h3, by show y.2 / 16 ^ (y.1 - (x.1 + 1)) = _; rw [show y.1 - (x.1 + 1) = y.1 - x.1 - 1 by omega]⟩
theorem dfs_nodup {N : Nat → Nat → Bool} (hup : ∀ j q, N (j + 1) q = true → N j (q / 16) = true) : ∀ (d : Nat) (x : Nat × Nat), (dfsN N d x).Nodup
  | 0, x => List.nodup_nil
  | d + 1, x => by
    refine List.nodup_cons.2 ⟨fun h => ?_, ?_⟩
    · obtain ⟨z, hz, hy⟩ := List.mem_flatMap.1 h
      obtain ⟨a, b, c⟩ := mem_kidsQ.1 hz
      rcases (mem_dfs hup d z x).1 hy with ⟨e, _⟩ | ⟨h1, _⟩
      · rw [e] at a; omega
      · omega
    · refine List.pairwise_flatMap.2 ⟨fun z _ => dfs_nodup hup d z, ?_⟩
      refine (List.Pairwise.and_mem.1 (kidsQ_nodup N x)).imp ?_
      rintro u v ⟨hu, hv, hne⟩ y hy z hz rfl
      obtain ⟨a1, b1, _⟩ := mem_kidsQ.1 hu
      obtain ⟨a2, b2, _⟩ := mem_kidsQ.1 hv
      have key : ∀ t : Nat × Nat, t.1 = x.1 + 1 → y ∈ dfsN N d t → y.2 / 16 ^ (y.1 - (x.1 + 1)) = t.2 := fun t ht hyt => by
        rcases (mem_dfs hup d t y).1 hyt with ⟨e, _⟩ | ⟨_, _, _, h4⟩
        · rw [e, ht]; simp
        · rw [← ht]; exact h4
      exact hne (Prod.ext (a1.trans a2.symm) ((key u a1 hy).symm.trans (key v a2 hz)))
theorem same_len {α : Type} {a b : List α} (ha : a.Nodup) (hb : b.Nodup) (h : ∀ x, x ∈ a ↔ x ∈ b) : a.length = b.length :=
  Nat.le_antisymm (ha.length_le_of_subset (fun x hx => (h x).1 hx)) (hb.length_le_of_subset (fun x hx => (h x).2 hx))
section
variable {R : List (Nat × Nat × Nat)} (hR : RtOk R) {T : Nat}
include hR
theorem mem_bqT (hT : (bq (nodeIn R) T).length = T) (x : Nat × Nat) : x ∈ bq (nodeIn R) T ↔ nodeIn R x.1 x.2 = true := by
  constructor
  · intro h
    rcases (bq_says (nodeIn R) T).2 x h with e | ⟨_, b, _⟩
    · rw [e]; exact nodeIn_zero R
    · exact b
  · intro h
    exact bq_all (Nat.le_of_eq hT) (fun q => nodeIn_root hR) (fun j q => nodeIn_up hR) x.1 x.2 h
theorem mem_dfsT (x : Nat × Nat) : x ∈ dfsN (nodeIn R) 9 (0, 0) ↔ nodeIn R x.1 x.2 = true := by
  rw [mem_dfs (fun j q => nodeIn_up hR)]
  constructor
  · rintro (⟨rfl, _⟩ | ⟨_, _, h, _⟩)
    · exact nodeIn_zero R
    · exact h
  · intro h
    have h8 := nodeIn_low hR h
    have h0 := nodeIn_root hR (up_iter (fun j q => nodeIn_up hR) x.1 0 x.2 (by rw [Nat.zero_add]; exact h))
    obtain ⟨j, q⟩ := x
    cases j with
    | zero =>
      have e : q = 0 := nodeIn_root hR h
      exact .inl ⟨by rw [e], by decide⟩
    | succ j => exact .inr ⟨by show 0 < j + 1; omega, by show j + 1 < 0 + 9; simp at h8; omega, h, by simpa using h0⟩
theorem dfs_len (hT : (bq (nodeIn R) T).length = T) : (dfsN (nodeIn R) 9 (0, 0)).length = T := by
  rw [same_len (dfs_nodup (fun j q => nodeIn_up hR) 9 (0, 0)) (bq_nodup (nodeIn R) T) (fun x => (mem_dfsT hR x).trans (mem_bqT hR hT x).symm), hT]
end
/-- A route of a node: of a number within it. -/
def hopR (n k i h : Nat) : Nat × Nat × Nat := (n + (i - 2 ^ i.log2) * 2 ^ (32 - (k + i.log2)), k + i.log2, h)
def rtsQ (H : Nat → Nat → Nat → Nat) (x : Nat × Nat) : List (Nat × Nat × Nat) := (innB H x).map (fun i => hopR (x.2 * 2 ^ (32 - 4 * x.1)) (4 * x.1) i (H x.1 x.2 i))
theorem log2_add {m a : Nat} (h : a < 2 ^ m) : (2 ^ m + a).log2 = m := by
  have h0 : 2 ^ m + a ≠ 0 := by have := Nat.two_pow_pos m; omega
  refine Nat.le_antisymm ?_ ((Nat.le_log2 h0).2 (by omega))
  have := (Nat.log2_lt h0 (k := m + 1)).2 (by rw [Nat.pow_succ]; omega)
  omega
theorem hopR_isAt {r : Nat × Nat × Nat} {j q i : Nat} (hr : VP false r.1 r.2.1) (h : isAt r j q i) : hopR (q * 2 ^ (32 - 4 * j)) (4 * j) i r.2.2 = r := by
  have e := isAt_tp hr h
  obtain ⟨h1, h2, h3⟩ := h
  have hk : r.2.1 ≤ 32 := hr.2.1
  have hm : i.log2 = r.2.1 % 4 := by
    rw [← h3]
    exact log2_add (Nat.mod_lt _ (Nat.two_pow_pos _))
  have hkk : 4 * j + r.2.1 % 4 = r.2.1 := by omega
  unfold hopR
  rw [hm, hkk]
  refine Prod.ext ?_ rfl
  show q * 2 ^ (32 - 4 * j) + (i - 2 ^ (r.2.1 % 4)) * 2 ^ (32 - r.2.1) = r.1
  rw [← vp_tp hr, e, Nat.add_mul, Nat.mul_assoc, ← Nat.pow_add, show r.2.1 % 4 + (32 - r.2.1) = 32 - 4 * j by omega]
theorem isAt_fun {r s : Nat × Nat × Nat} {j q i j' q' i' : Nat} (h : isAt r j q i) (k : isAt s j' q' i') (e1 : r.1 = s.1) (e2 : r.2.1 = s.2.1) : j = j' ∧ q = q' ∧ i = i' := by
  obtain ⟨h1, h2, h3⟩ := h
  obtain ⟨k1, k2, k3⟩ := k
  have hj : j = j' := by rw [← h1, ← k1, e2]
  subst hj
  exact ⟨rfl, by rw [← h2, ← k2, e1], by rw [← h3, ← k3, e1, e2]⟩
theorem keys_nodup {S : List (Nat × Nat × Nat)} (h : S.Pairwise (fun x y => ¬ (x.1 = y.1 ∧ x.2.1 = y.2.1))) : S.Nodup := h.imp (fun {x y} k e => k (by rw [e]; exact ⟨rfl, rfl⟩))
section
variable {R : List (Nat × Nat × Nat)} (hR : RtOk R) {L : List (Nat × Nat)} (hn : L.Nodup) (hL : ∀ x, x ∈ L ↔ nodeIn R x.1 x.2 = true)
include hR
theorem rts_one {x : Nat × Nat} {i : Nat} (hi : i ∈ innB (hopAt R) x) : ∃ r ∈ R, isAt r x.1 x.2 i ∧ hopR (x.2 * 2 ^ (32 - 4 * x.1)) (4 * x.1) i (hopAt R x.1 x.2 i) = r := by
  have h0 : 0 < hopAt R x.1 x.2 i := by simpa using (mem_pick.1 hi).2
  rcases hopAt_says R x.1 x.2 i with ⟨r, hr, h1, h2⟩ | ⟨_, h2⟩
  · exact ⟨r, hr, h1, by rw [← h2, hopR_isAt (hR.vp r hr) h1]⟩
  · omega
theorem rts_at {x : Nat × Nat} {r : Nat × Nat × Nat} (h : r ∈ rtsQ (hopAt R) x) : r ∈ R ∧ ∃ i, isAt r x.1 x.2 i := by
  obtain ⟨i, hi, e⟩ := List.mem_map.1 h
  obtain ⟨s, hs, h1, h2⟩ := rts_one hR hi
  have : s = r := h2.symm.trans e
  subst this
  exact ⟨hs, i, h1⟩
include hL in
theorem mem_rts (r : Nat × Nat × Nat) : r ∈ L.flatMap (rtsQ (hopAt R)) ↔ r ∈ R := by
  rw [List.mem_flatMap]
  constructor
  · rintro ⟨x, _, h⟩
    exact (rts_at hR h).1
  · intro h
    have ha : isAt r (r.2.1 / 4) (tp r.1 (4 * (r.2.1 / 4))) (innN r.1 r.2.1) := ⟨rfl, rfl, rfl⟩
    refine ⟨(r.2.1 / 4, tp r.1 (4 * (r.2.1 / 4))), (hL _).2 (nodeIn_iff.2 (.inr ⟨r, h, Nat.le_refl _, rfl⟩)), List.mem_map.2 ⟨innN r.1 r.2.1, mem_pick.2 ⟨(inn_lt _ _).2, ?_⟩, ?_⟩⟩
    · rw [decide_eq_true_iff, hopAt_of hR h ha]
      exact hR.lo r h
    · rw [hopAt_of hR h ha]
      exact hopR_isAt (hR.vp r h) ha
include hn in
theorem rts_keys : (L.flatMap (rtsQ (hopAt R))).Pairwise (fun x y => ¬ (x.1 = y.1 ∧ x.2.1 = y.2.1)) := by
  refine List.pairwise_flatMap.2 ⟨fun x _ => ?_, ?_⟩
  · refine List.pairwise_map.2 ((List.Pairwise.and_mem.1 (pick_nodup _)).imp ?_)
    rintro a b ⟨ha, hb, hne⟩ ⟨e1, e2⟩
    obtain ⟨r, _, h1, g1⟩ := rts_one hR ha
    obtain ⟨s, _, h2, g2⟩ := rts_one hR hb
    rw [g1, g2] at e1 e2
    exact hne (isAt_fun h1 h2 e1 e2).2.2
  · refine hn.imp ?_
    rintro u v hne r hr s hs ⟨e1, e2⟩
    obtain ⟨_, i, h1⟩ := rts_at hR hr
    obtain ⟨_, i', h2⟩ := rts_at hR hs
    obtain ⟨a, b, _⟩ := isAt_fun h1 h2 e1 e2
    exact hne (Prod.ext a b)
include hn hL in
theorem rts_len : (L.flatMap (rtsQ (hopAt R))).length = R.length := same_len (keys_nodup (rts_keys hR hn)) (keys_nodup hR.keys) (mem_rts hR hL)
include hn hL in
/-- What a tree's nodes tell is its routes. -/
theorem rts_ok : RtOk (L.flatMap (rtsQ (hopAt R))) :=
  ⟨fun r hr => hR.vp r ((mem_rts hR hL r).1 hr), fun r hr => hR.lo r ((mem_rts hR hL r).1 hr), fun r hr => hR.hi r ((mem_rts hR hL r).1 hr), rts_keys hR hn, by rw [rts_len hR hn hL]; exact hR.len⟩
end
theorem node_same {R S : List (Nat × Nat × Nat)} (hR : RtOk R) (hS : RtOk S) (h : ∀ x, x ∈ R ↔ x ∈ S) : nodeIn R = nodeIn S ∧ hopAt R = hopAt S :=
  ⟨funext fun j => funext fun q => nodeIn_mem h j q, funext fun j => funext fun q => funext fun i => hopAt_mem hR hS h j q i⟩
/-- The tree of some routes. -/
def bT (R : List (Nat × Nat × Nat)) : Nat := (bq (nodeIn R) (1 + 8 * R.length)).length
def treeOf (R : List (Nat × Nat × Nat)) : List NodeD := treeL (nodeIn R) (hopAt R) (bT R)
theorem bT_le {R : List (Nat × Nat × Nat)} (hR : RtOk R) : bT R ≤ 1 + 8 * R.length := bq_few hR _
theorem bT_done {R : List (Nat × Nat × Nat)} (hR : RtOk R) : (bq (nodeIn R) (bT R)).length = bT R := by
  have h1 := bT_le hR
  refine Nat.le_antisymm (bq_len_mono _ h1) ?_
  apply Classical.byContradiction
  intro hlt
  have h3 := bq_stay (N := nodeIn R) (i := bT R) (by omega) (1 + 8 * R.length - bT R)
  rw [show bT R + (1 + 8 * R.length - bT R) = 1 + 8 * R.length by omega] at h3
  have h4 : bT R = (bq (nodeIn R) (bT R)).length := congrArg List.length h3
  omega
theorem bT_one {R : List (Nat × Nat × Nat)} (hR : RtOk R) {T : Nat} (hT : (bq (nodeIn R) T).length = T) : T = bT R := by
  have h1 := bq_few hR T
  have h3 := bq_stay (Nat.le_of_eq hT) (1 + 8 * R.length - T)
  rw [show T + (1 + 8 * R.length - T) = 1 + 8 * R.length by omega] at h3
  have h4 : bT R = (bq (nodeIn R) T).length := congrArg List.length h3
  omega
theorem treeOf_same {R S : List (Nat × Nat × Nat)} (hR : RtOk R) (hS : RtOk S) (h : ∀ x, x ∈ R ↔ x ∈ S) : treeOf R = treeOf S := by
  obtain ⟨e1, e2⟩ := node_same hR hS h
  have e3 : bT R = bT S := bT_one hS (by rw [← e1]; exact bT_done hR)
  unfold treeOf
  rw [e1, e2, e3]

/-- May a node be, so many bits down? -/
def NodeD.ok (x : NodeD) (k : Nat) : Bool := !(x.ib.contains 0) && decide (x.hops.length = x.ib.length) && decide (x.kids.length = x.ob.length) && !(decide (k = 32) && (decide (2 < sumB x.ib) || decide (0 < sumB x.ob)))
def NodeD.rts (x : NodeD) (n k : Nat) : List (Nat × Nat × Nat) := (x.ib.zip x.hops).map (fun p => hopR n k p.1 p.2)
def kidsF (f : Nat → Nat → Nat → Nat → Option (List (Nat × Nat × Nat) × Nat)) (n k : Nat) : List (Nat × Nat) → Nat → Option (List (Nat × Nat × Nat) × Nat)
  | [], b => some ([], b)
  | p :: l, b => match f b p.2 (n + p.1 * 2 ^ (32 - (k + 4))) (k + 4) with
    | none => none
    | some (r, b') => (kidsF f n k l b').map (fun s => (r ++ s.1, s.2))
/-- The walk down a list of nodes; none: it is no tree. -/
def walkF (t : List NodeD) : Nat → Nat → Nat → Nat → Nat → Option (List (Nat × Nat × Nat) × Nat)
  | 0, _, _, _, _ => none
  | d + 1, b, i, n, k => match t[i]? with
    | none => none
    | some x => if b = 0 ∨ x.ok k = false then none else (kidsF (walkF t d) n k (x.ob.zip x.kids) (b - 1)).map (fun s => (x.rts n k ++ s.1, s.2))
theorem kidsF_all {f : Nat → Nat → Nat → Nat → Option (List (Nat × Nat × Nat) × Nat)} {n k : Nat} {g : Nat × Nat → List (Nat × Nat × Nat)} {sz : Nat × Nat → Nat} : ∀ (l ys : List (Nat × Nat)), l.length = ys.length →
    (∀ (m : Nat) p y, l[m]? = some p → ys[m]? = some y → ∀ b, sz y ≤ b → f b p.2 (n + p.1 * 2 ^ (32 - (k + 4))) (k + 4) = some (g y, b - sz y)) → ∀ b, (ys.map sz).sum ≤ b → kidsF f n k l b = some (ys.flatMap g, b - (ys.map sz).sum)
  | [], [], _, _, b, _ => by simp [kidsF]
  | [], _ :: _, h, _, _, _ => by simp at h
  | _ :: _, [], h, _, _, _ => by simp at h
  | p :: l, y :: ys, h, hf, b, hb => by
    simp only [List.map_cons, List.sum_cons] at hb ⊢
    have h1 := hf 0 p y rfl rfl b (by omega)
    have h2 := kidsF_all l ys (by simpa using h) (fun m p' y' e1 e2 => hf (m + 1) p' y' (by simpa using e1) (by simpa using e2)) (b - sz y) (by omega)
    simp only [kidsF, h1, h2, Option.map_some, List.flatMap_cons]
    rw [Nat.sub_sub]
theorem zip_map_self {α β : Type} (l : List α) (f : α → β) : l.zip (l.map f) = l.map (fun a => (a, f a)) := by
  induction l with
  | nil => rfl
  | cons a l ih => simp [ih]
section
variable {R : List (Nat × Nat × Nat)} (hR : RtOk R) {T : Nat} (hT : (bq (nodeIn R) T).length = T)
include hR
theorem node_ok {x : Nat × Nat} (s : Nat) (hx : nodeIn R x.1 x.2 = true) : (nodeAt (nodeIn R) (hopAt R) x s).ok (4 * x.1) = true := by
  have h8 := nodeIn_low hR hx
  have h0 : 0 ∉ innB (hopAt R) x := fun h => by
    have := (mem_pick.1 h).2
    rw [decide_eq_true_iff] at this
    have := (hopAt_lt (R := R) (j := x.1) (q := x.2) (i := 0) (by omega)).1
    omega
  unfold NodeD.ok nodeAt
  simp only [List.length_map, List.length_range, decide_true, Bool.and_true, Bool.and_eq_true, Bool.not_eq_true', Bool.and_eq_false_iff]
  refine ⟨by simpa using h0, ?_⟩
  by_cases e : 4 * x.1 = 32
  · refine .inr ?_
    have e8 : x.1 = 8 := by omega
    have ho : outB (nodeIn R) x = [] := by
      refine List.eq_nil_iff_forall_not_mem.2 (fun i hi => ?_)
      have := nodeIn_low hR (mem_pick.1 hi).2
      omega
    have hi : ∀ i ∈ innB (hopAt R) x, i = 1 := fun i hi => by
      obtain ⟨r, hr, ⟨h1, _, h3⟩, _⟩ := rts_one hR hi
      have hk : r.2.1 ≤ 32 := ((hR.vp r hr)).2.1
      have hk2 : r.2.1 = 32 := by omega
      rw [← h3, hk2]
      unfold innN
      simp [Nat.mod_one]
    have hs : sumB (innB (hopAt R) x) ≤ 2 := by
      have hnd : (innB (hopAt R) x).Nodup := pick_nodup _
      generalize innB (hopAt R) x = l at *
      match l, hi, hnd with
      | [], _, _ => simp [sumB]
      | [a], hi, _ => rw [hi a (by simp)]; simp [sumB]
      | a :: b :: l, hi, hnd =>
        have := (List.nodup_cons.1 hnd).1
        rw [hi a (by simp), hi b (by simp)] at this
        simp at this
    rw [ho, decide_eq_false (show ¬ 2 < sumB (innB (hopAt R) x) by omega)]
    rfl
  · exact .inl (by simpa using e)
include hT
/-- The walk down a tree of routes tells them. -/
theorem walk_tree {t : List NodeD} (ht : ∀ i, i < T → t[i]? = (treeL (nodeIn R) (hopAt R) T)[i]?) : ∀ (d : Nat) (x : Nat × Nat) (i b : Nat), d + x.1 = 9 → nodeIn R x.1 x.2 = true → (bq (nodeIn R) T)[i]? = some x → (dfsN (nodeIn R) d x).length ≤ b →
    walkF t d b i (x.2 * 2 ^ (32 - 4 * x.1)) (4 * x.1) = some ((dfsN (nodeIn R) d x).flatMap (rtsQ (hopAt R)), b - (dfsN (nodeIn R) d x).length)
  | 0, x, i, b, hd, hx, _, _ => by have := nodeIn_low hR hx; omega
  | d + 1, x, i, b, hd, hx, hi, hb => by
    have hiT : i < T := by rw [← hT]; exact (List.getElem?_eq_some_iff.1 hi).1
    have hi2 := bq_at hiT hi
    have hti := (ht i hiT).trans (treeL_at (H := hopAt R) hiT hi2)
    have hok := node_ok hR (bq (nodeIn R) i).length hx
    have hb' : (dfsN (nodeIn R) (d + 1) x).length = 1 + ((kidsQ (nodeIn R) x).map (fun y => (dfsN (nodeIn R) d y).length)).sum := by
      show (x :: (kidsQ (nodeIn R) x).flatMap (dfsN (nodeIn R) d)).length = _
      rw [List.length_cons, List.length_flatMap, Nat.add_comm]
    rw [hb'] at hb
    have hks : ∀ (m : Nat) p y, ((outB (nodeIn R) x).zip ((List.range (outB (nodeIn R) x).length).map (fun m => (bq (nodeIn R) i).length + m)))[m]? = some p → (kidsQ (nodeIn R) x)[m]? = some y → ∀ b, (dfsN (nodeIn R) d y).length ≤ b →
        walkF t d b p.2 (x.2 * 2 ^ (32 - 4 * x.1) + p.1 * 2 ^ (32 - (4 * x.1 + 4))) (4 * x.1 + 4) = some ((dfsN (nodeIn R) d y).flatMap (rtsQ (hopAt R)), b - (dfsN (nodeIn R) d y).length) := by
      intro m p y hp hy b hb
      rw [List.getElem?_zip_eq_some] at hp
      obtain ⟨hp1, hp2⟩ := hp
      rw [List.getElem?_map, Option.map_eq_some_iff] at hp2
      obtain ⟨m', hm', hp2⟩ := hp2
      have hmm : m' = m := by
        obtain ⟨hl, e⟩ := List.getElem?_eq_some_iff.1 hm'
        rw [List.getElem_range] at e
        exact e.symm
      subst hmm
      have hyk := List.mem_of_getElem? hy
      obtain ⟨y1, y2, y3⟩ := mem_kidsQ.1 hyk
      have hy0 : y = (x.1 + 1, 16 * x.2 + p.1) := by
        rw [kidsQ_eq, List.getElem?_map, hp1] at hy
        simpa using hy.symm
      have hyT : (bq (nodeIn R) T)[p.2]? = some y := by
        refine bq_get (i := i + 1) ?_ (by omega)
        rw [bq_some hi2, ← hp2, List.getElem?_append_right (by omega), show (bq (nodeIn R) i).length + m' - (bq (nodeIn R) i).length = m' by omega]
        exact hy
      have h8 := nodeIn_low hR y3
      have ih := walk_tree ht d y p.2 b (by omega) y3 hyT hb
      have e1 : y.2 * 2 ^ (32 - 4 * y.1) = x.2 * 2 ^ (32 - 4 * x.1) + p.1 * 2 ^ (32 - (4 * x.1 + 4)) := by
        rw [hy0]
        show (16 * x.2 + p.1) * 2 ^ (32 - 4 * (x.1 + 1)) = _
        rw [show 32 - 4 * x.1 = (32 - (4 * x.1 + 4)) + 4 by omega, show 32 - 4 * (x.1 + 1) = 32 - (4 * x.1 + 4) by omega, Nat.pow_add, Nat.add_mul, Nat.mul_comm 16 x.2, Nat.mul_assoc, Nat.mul_comm 16]
      rw [← e1, show 4 * x.1 + 4 = 4 * y.1 by omega]
      exact ih
    have hkl : ((outB (nodeIn R) x).zip ((List.range (outB (nodeIn R) x).length).map (fun m => (bq (nodeIn R) i).length + m))).length = (kidsQ (nodeIn R) x).length := by
      rw [kidsQ_eq]; simp
    have hk := kidsF_all _ _ hkl hks (b - 1) (by omega)
    show (match t[i]? with
      | none => none
      | some x' => if b = 0 ∨ x'.ok (4 * x.1) = false then none else (kidsF (walkF t d) (x.2 * 2 ^ (32 - 4 * x.1)) (4 * x.1) (x'.ob.zip x'.kids) (b - 1)).map (fun (s : List (Nat × Nat × Nat) × Nat) => (x'.rts (x.2 * 2 ^ (32 - 4 * x.1)) (4 * x.1) ++ s.1, s.2))) = _
    rw [hti]
    dsimp only
    rw [if_neg (by rw [hok]; simp; omega)]
    show (kidsF (walkF t d) (x.2 * 2 ^ (32 - 4 * x.1)) (4 * x.1) ((outB (nodeIn R) x).zip ((List.range (outB (nodeIn R) x).length).map (fun m => (bq (nodeIn R) i).length + m))) (b - 1)).map _ = _
    rw [hk, hb']
    simp only [Option.map_some, Option.some.injEq, Prod.mk.injEq]
    refine ⟨?_, by omega⟩
    show ((innB (hopAt R) x).zip ((innB (hopAt R) x).map (hopAt R x.1 x.2))).map (fun p => hopR (x.2 * 2 ^ (32 - 4 * x.1)) (4 * x.1) p.1 p.2) ++ _ = (x :: (kidsQ (nodeIn R) x).flatMap (dfsN (nodeIn R) d)).flatMap (rtsQ (hopAt R))
    rw [zip_map_self, List.map_map, List.flatMap_cons, List.flatMap_assoc]
    rfl
end
end Go.Proofs.YtoecmoicaklbaaaDoor
