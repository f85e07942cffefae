
/- FewestHalves: plain laws. -/
import Derived.Test.YtoecmoicaklbaaaFw8
set_option linter.unusedVariables false
set_option linter.unusedSimpArgs false
namespace Go.Proofs.Ytoecmoicaklbaaa
open Go Go.RowKit Go.Sort Wc Wk

/-- Bits of the halves. -/
theorem half_bits {n k : Nat} (h : VP false n k) (hk : k < 32) : bitsL n (k + 1) = bitsL n k ++ [false] ∧ bitsL (halfN 32 n k 1) (k + 1) = bitsL n k ++ [true] := by
  obtain ⟨q1, q2⟩ := half_heads h (show k < wd false from hk)
  rw [show wd false = 32 from rfl] at q1 q2
  have e1 : bitAt false n k = 0 := by
    unfold bitAt
    rw [show wd false - 1 - k = 32 - (k + 1) from by show 32 - 1 - k = 32 - (k + 1); omega, q1]
    omega
  have e2 : bitAt false (halfN 32 n k 1) k = 1 := by
    unfold bitAt
    rw [show wd false - 1 - k = 32 - (k + 1) from by show 32 - 1 - k = 32 - (k + 1); omega, q2]
    omega
  have e3 : ∀ i, i < k → bitAt false (halfN 32 n k 1) i = bitAt false n i := fun i hi => by
    unfold bitAt
    have e : (2 : Nat) ^ (wd false - 1 - i) = 2 ^ (32 - (k + 1)) * 2 ^ (k - i) := by rw [← Nat.pow_add]; congr 1; show 32 - 1 - i = 32 - (k + 1) + (k - i); omega
    rw [e, ← Nat.div_div_eq_div_mul, ← Nat.div_div_eq_div_mul, q1, q2]
    have e' : (2 : Nat) ^ (k - i) = 2 * 2 ^ (k - i - 1) := by rw [← Nat.pow_succ']; congr 1; omega
    rw [e', ← Nat.div_div_eq_div_mul, ← Nat.div_div_eq_div_mul]
    congr 2
    omega
  constructor
  · unfold bitsL
    rw [List.range_succ, List.map_append]
    simp [e1]
  · unfold bitsL
    rw [List.range_succ, List.map_append]
    congr 1
    · refine List.map_congr_left fun i hi => ?_
      rw [e3 i (List.mem_range.1 hi)]
    · simp [e2]
/-- A path down to a tree, all beside it going one way. -/
def pathT (o : Nat) : List Bool → HT → HT
  | [], s => s
  | d :: bs, s => if d then .node (.leaf o) (pathT o bs s) else .node (pathT o bs s) (.leaf o)
theorem put_path (o h : Nat) : ∀ (bs : List Bool) (d : Bool), HT.put (bs ++ [d]) h (.leaf o) = pathT o bs (if d then .node (.leaf o) (.leaf h) else .node (.leaf h) (.leaf o))
  | [], d => by cases d <;> rfl
  | b :: bs, d => by
    have ih := put_path o h bs d
    cases b
    · show HT.node (HT.put (bs ++ [d]) h (.leaf o)) (.leaf o) = _
      rw [ih]; rfl
    · show HT.node (.leaf o) (HT.put (bs ++ [d]) h (.leaf o)) = _
      rw [ih]; rfl
theorem put_path2 (o h : Nat) (s : HT) (d : Bool) (hs : ∃ l r, s = .node l r) : ∀ bs : List Bool, HT.put (bs ++ [d]) h (pathT o bs s) = pathT o bs (HT.put [d] h s)
  | [] => rfl
  | b :: bs => by
    have ih := put_path2 o h s d hs bs
    cases b
    · show HT.node (HT.put (bs ++ [d]) h (pathT o bs s)) (.leaf o) = _
      rw [ih]; rfl
    · show HT.node (.leaf o) (HT.put (bs ++ [d]) h (pathT o bs s)) = _
      rw [ih]; rfl
def two (h : Nat) : HT := .node (.leaf h) (.leaf h)
theorem two_set (h : Nat) : (two h).set = [h] := by simp [two, HT.set]
theorem leaf_give (h n k a : Nat) : ((HT.leaf h).give n k a).length = if a = h then 0 else 1 := by
  simp only [HT.give, HT.own1, HT.set, List.mem_singleton]
  split <;> simp
theorem node_give (l r : HT) (n k a : Nat) : ((HT.node l r).give n k a).length = (if a ∈ (HT.node l r).set then 0 else 1) + ((l.give n (k + 1) ((HT.node l r).top a)).length + (r.give (halfN 32 n k 1) (k + 1) ((HT.node l r).top a)).length) := by
  simp only [HT.give, List.length_append, HT.own1]
  split <;> simp
theorem two_give (h n k a : Nat) : ((two h).give n k a).length = if a = h then 0 else 1 := by
  unfold two
  rw [node_give, leaf_give, leaf_give]
  have e : (HT.node (.leaf h) (.leaf h)).set = [h] := two_set h
  have t : (HT.node (.leaf h) (.leaf h)).top a = h := by
    unfold HT.top HT.hd
    rw [e]
    by_cases c : a = h <;> simp [c]
  rw [t, e]
  by_cases c : a = h <;> simp [c]
/-- All goes one way. -/
theorem path_one (o : Nat) : ∀ bs : List Bool, (pathT o bs (two o)).set = [o] ∧ ∀ n k a, ((pathT o bs (two o)).give n k a).length = if a = o then 0 else 1
  | [] => ⟨two_set o, fun n k a => two_give o n k a⟩
  | b :: bs => by
    obtain ⟨i1, i2⟩ := path_one o bs
    cases b
    · have e : (HT.node (pathT o bs (two o)) (.leaf o)).set = [o] := by simp [HT.set, i1]
      refine ⟨e, fun n k a => ?_⟩
      show ((HT.node (pathT o bs (two o)) (.leaf o)).give n k a).length = _
      have t : (HT.node (pathT o bs (two o)) (.leaf o)).top a = o := by
        unfold HT.top HT.hd
        rw [e]
        by_cases c : a = o <;> simp [c]
      rw [node_give, t, e, i2, leaf_give]
      by_cases c : a = o <;> simp [c]
    · have e : (HT.node (.leaf o) (pathT o bs (two o))).set = [o] := by simp [HT.set, i1]
      refine ⟨e, fun n k a => ?_⟩
      show ((HT.node (.leaf o) (pathT o bs (two o))).give n k a).length = _
      have t : (HT.node (.leaf o) (pathT o bs (two o))).top a = o := by
        unfold HT.top HT.hd
        rw [e]
        by_cases c : a = o <;> simp [c]
      rw [node_give, t, e, i2, leaf_give]
      by_cases c : a = o <;> simp [c]
/-- Two ways. -/
theorem path_two {o h : Nat} (hne : h ≠ o) : ∀ bs : List Bool, bs ≠ [] → (o ∈ (pathT o bs (two h)).set ∧ (∀ x ∈ (pathT o bs (two h)).set, x = o ∨ x = h) ∧ (pathT o bs (two h)).set.filter (fun x => decide (x ∈ [o])) = [o]) ∧ ∀ n k a, ((pathT o bs (two h)).give n k a).length = (if a ∈ (pathT o bs (two h)).set then 0 else 1) + 1
  | [], hb => absurd rfl hb
  | b :: bs, _ => by
    have hne' : ¬ o = h := fun e => hne e.symm
    by_cases hbs : bs = []
    · subst hbs
      cases b
      · have e : (HT.node (two h) (.leaf o)).set = [h, o] := by
          rw [HT.set, two_set]
          simp [HT.set, hne]
        show (o ∈ (HT.node (two h) (.leaf o)).set ∧ (∀ x ∈ (HT.node (two h) (.leaf o)).set, x = o ∨ x = h) ∧ (HT.node (two h) (.leaf o)).set.filter _ = [o]) ∧ ∀ n k a, ((HT.node (two h) (.leaf o)).give n k a).length = (if a ∈ (HT.node (two h) (.leaf o)).set then 0 else 1) + 1
        rw [e]
        refine ⟨⟨by simp, fun x hx => by simp at hx; omega, by simp [hne]⟩, fun n k a => ?_⟩
        rw [node_give, two_give, leaf_give, e]
        unfold HT.top HT.hd
        rw [e]
        by_cases c1 : a = h
        · subst c1; simp [hne]
        · by_cases c2 : a = o
          · subst c2; simp [c1]
          · simp [c1, c2, hne]
      · have e : (HT.node (.leaf o) (two h)).set = [o, h] := by
          rw [HT.set, two_set]
          simp [HT.set, hne']
        show (o ∈ (HT.node (.leaf o) (two h)).set ∧ (∀ x ∈ (HT.node (.leaf o) (two h)).set, x = o ∨ x = h) ∧ (HT.node (.leaf o) (two h)).set.filter _ = [o]) ∧ ∀ n k a, ((HT.node (.leaf o) (two h)).give n k a).length = (if a ∈ (HT.node (.leaf o) (two h)).set then 0 else 1) + 1
        rw [e]
        refine ⟨⟨by simp, fun x hx => by simp at hx; omega, by simp [hne]⟩, fun n k a => ?_⟩
        rw [node_give, two_give, leaf_give, e]
        unfold HT.top HT.hd
        rw [e]
        by_cases c1 : a = h
        · subst c1; simp [hne]
        · by_cases c2 : a = o
          · subst c2; simp [c1]
          · simp [c1, c2, hne']
    · obtain ⟨⟨i1, i2, i3⟩, i4⟩ := path_two hne bs hbs
      cases b
      · have e : (HT.node (pathT o bs (two h)) (.leaf o)).set = [o] := by
          have : (pathT o bs (two h)).set.filter (fun x => decide (x ∈ (HT.leaf o).set)) = [o] := i3
          rw [HT.set, this]
          simp
        show (o ∈ (HT.node (pathT o bs (two h)) (.leaf o)).set ∧ (∀ x ∈ (HT.node (pathT o bs (two h)) (.leaf o)).set, x = o ∨ x = h) ∧ (HT.node (pathT o bs (two h)) (.leaf o)).set.filter _ = [o]) ∧ ∀ n k a, ((HT.node (pathT o bs (two h)) (.leaf o)).give n k a).length = (if a ∈ (HT.node (pathT o bs (two h)) (.leaf o)).set then 0 else 1) + 1
        rw [e]
        refine ⟨⟨by simp, fun x hx => by simp at hx; exact .inl hx, by simp⟩, fun n k a => ?_⟩
        have t : (HT.node (pathT o bs (two h)) (.leaf o)).top a = o := by
          unfold HT.top HT.hd
          rw [e]
          by_cases c : a = o <;> simp [c]
        rw [node_give, t, e, i4, leaf_give, if_pos i1]
        simp
      · have e : (HT.node (.leaf o) (pathT o bs (two h))).set = [o] := by
          rw [HT.set]
          simp [HT.set, i1]
        show (o ∈ (HT.node (.leaf o) (pathT o bs (two h))).set ∧ (∀ x ∈ (HT.node (.leaf o) (pathT o bs (two h))).set, x = o ∨ x = h) ∧ (HT.node (.leaf o) (pathT o bs (two h))).set.filter _ = [o]) ∧ ∀ n k a, ((HT.node (.leaf o) (pathT o bs (two h))).give n k a).length = (if a ∈ (HT.node (.leaf o) (pathT o bs (two h))).set then 0 else 1) + 1
        rw [e]
        refine ⟨⟨by simp, fun x hx => by simp at hx; exact .inl hx, by simp⟩, fun n k a => ?_⟩
        have t : (HT.node (.leaf o) (pathT o bs (two h))).top a = o := by
          unfold HT.top HT.hd
          rw [e]
          by_cases c : a = o <;> simp [c]
        rw [node_give, t, e, i4, leaf_give, if_pos i1]
        simp
/-- Three routes: the whole and both halves of a prefix. -/
def threeR (n k o h : Nat) : List (Nat × Nat × Nat) := [(0, 0, o), (n, k + 1, h), (halfN 32 n k 1, k + 1, h)]
theorem three_ok {n k o h : Nat} (hv : VP false n k) (hk : k < 32) (ho : 1 ≤ o ∧ o ≤ 999) (hh : 1 ≤ h ∧ h ≤ 999) : RtOk (threeR n k o h) := by
  obtain ⟨v1, v2⟩ := half_vp hv (show k < wd false from hk)
  have hne : n ≠ halfN 32 n k 1 := by
    unfold halfN
    have := Nat.one_le_two_pow (n := 32 - (k + 1))
    omega
  refine ⟨fun x hx => ?_, fun x hx => ?_, fun x hx => ?_, ?_, by simp [threeR]⟩
  · simp only [threeR, List.mem_cons, List.not_mem_nil, or_false] at hx
    rcases hx with rfl | rfl | rfl
    · exact vp_iff.2 ⟨Nat.two_pow_pos _, Nat.zero_le _, Nat.zero_mod _⟩
    · exact v1
    · exact v2
  · simp only [threeR, List.mem_cons, List.not_mem_nil, or_false] at hx
    rcases hx with rfl | rfl | rfl
    · exact ho.1
    · exact hh.1
    · exact hh.1
  · simp only [threeR, List.mem_cons, List.not_mem_nil, or_false] at hx
    rcases hx with rfl | rfl | rfl
    · exact ho.2
    · exact hh.2
    · exact hh.2
  · simp only [threeR, List.pairwise_cons, List.mem_cons, List.not_mem_nil, or_false]
    refine ⟨fun x hx => ?_, fun x hx => ?_, fun x hx => absurd hx (by simp), List.Pairwise.nil⟩
    · rcases hx with rfl | rfl
      · simp
      · simp
    · subst hx
      simp [hne]
theorem few_three {n k o h : Nat} (hv : VP false n k) (hk : k < 32) (hk0 : 0 < k) (ho : 1 ≤ o) (hh : 1 ≤ h) {ys : List (Nat × Nat × Nat)} (hs : SortL (threeR n k o h) ys) : (fewL ys).length = if h = o then 1 else 2 := by
  obtain ⟨b1, b2⟩ := half_bits hv hk
  obtain ⟨hp, hw⟩ := hs
  -- the whole comes first
  have hlen : ys.length = 3 := by rw [hp.length_eq]; rfl
  obtain ⟨x, y, z, rfl⟩ : ∃ x y z, ys = [x, y, z] := by
    match ys, hlen with
    | [x, y, z], _ => exact ⟨x, y, z, rfl⟩
  have hmem : ∀ u, u ∈ [x, y, z] ↔ u ∈ threeR n k o h := fun u => hp.mem_iff
  have hnd : [x, y, z].Nodup := by
    refine hp.nodup_iff.2 ?_
    have hne : n ≠ halfN 32 n k 1 := by
      unfold halfN
      have := Nat.one_le_two_pow (n := 32 - (k + 1))
      omega
    simp [threeR, hne]
  have mx : x ∈ threeR n k o h := (hmem x).1 (by simp)
  have my : y ∈ threeR n k o h := (hmem y).1 (by simp)
  have mz : z ∈ threeR n k o h := (hmem z).1 (by simp)
  have m0 : (0, 0, o) ∈ [x, y, z] := (hmem _).2 (by simp [threeR])
  simp only [List.pairwise_cons, List.mem_cons, List.not_mem_nil, or_false] at hw
  simp only [List.nodup_cons, List.mem_cons, List.not_mem_nil, or_false, not_or] at hnd
  simp only [threeR, List.mem_cons, List.not_mem_nil, or_false] at mx my mz
  have hx0 : x = (0, 0, o) := by
    simp only [List.mem_cons, List.not_mem_nil, or_false] at m0
    rcases m0 with e | e | e
    · exact e.symm
    · have := hw.1 y (.inl rfl)
      rcases mx with e' | e' | e'
      · exact e'
      · rw [← e, e'] at this; simp at this
      · rw [← e, e'] at this; simp at this
    · have := hw.1 z (.inr rfl)
      rcases mx with e' | e' | e'
      · exact e'
      · rw [← e, e'] at this; simp at this
      · rw [← e, e'] at this; simp at this
  have hyz : (y = (n, k + 1, h) ∧ z = (halfN 32 n k 1, k + 1, h)) ∨ (y = (halfN 32 n k 1, k + 1, h) ∧ z = (n, k + 1, h)) := by
    rcases my with e | e | e
    · exact absurd (hx0.trans e.symm) hnd.1.1
    · rcases mz with e' | e' | e'
      · exact absurd (hx0.trans e'.symm) hnd.1.2
      · exact absurd (e.trans e'.symm) hnd.2.1
      · exact .inl ⟨e, e'⟩
    · rcases mz with e' | e' | e'
      · exact absurd (hx0.trans e'.symm) hnd.1.2
      · exact .inr ⟨e, e'⟩
      · exact absurd (e.trans e'.symm) hnd.2.1
  have hg : growL [x, y, z] = pathT o (bitsL n k) (two h) := by
    have e0 : HT.put (bitsL 0 0) o (.leaf 0) = .leaf o := rfl
    rw [hx0]
    rcases hyz with ⟨rfl, rfl⟩ | ⟨rfl, rfl⟩
    · show HT.put (bitsL (halfN 32 n k 1) (k + 1)) h (HT.put (bitsL n (k + 1)) h (HT.put (bitsL 0 0) o (.leaf 0))) = _
      rw [e0, b1, b2, put_path]
      exact put_path2 o h (.node (.leaf h) (.leaf o)) true ⟨_, _, rfl⟩ _
    · show HT.put (bitsL n (k + 1)) h (HT.put (bitsL (halfN 32 n k 1) (k + 1)) h (HT.put (bitsL 0 0) o (.leaf 0))) = _
      rw [e0, b1, b2, put_path]
      exact put_path2 o h (.node (.leaf o) (.leaf h)) false ⟨_, _, rfl⟩ _
  unfold fewL
  rw [hg]
  by_cases c : h = o
  · subst c
    rw [if_pos rfl, (path_one h (bitsL n k)).2]
    rw [if_neg (by omega)]
  · rw [if_neg c]
    obtain ⟨⟨i1, i2, i3⟩, i4⟩ := path_two c (bitsL n k) (fun e => by have := bits_len n k; rw [e] at this; simp at this; omega)
    rw [i4, if_neg (fun hm => by rcases i2 0 hm with e | e <;> omega)]
end Go.Proofs.Ytoecmoicaklbaaa
