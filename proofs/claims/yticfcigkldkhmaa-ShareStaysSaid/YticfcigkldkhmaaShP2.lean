
/- Buckets dealt and turned: plain. -/
import Derived.Test.YticfcigkldkhmaaShP1
set_option linter.unusedVariables false
namespace Go.Proofs.Yticfcigkldkhmaa

def slot (hs : List Nat) (x : Nat) : Nat := hs.findIdx (· == x)
/-- First round of a turn: a bucket keeps its hop while there is room. -/
def t1s (hs left : List Nat) (x : Nat) : Nat × List Nat :=
  if slot hs x < hs.length ∧ 0 < left.getD (slot hs x) 0 then (x, left.set (slot hs x) (left.getD (slot hs x) 0 - 1)) else (0, left)
def t1o (hs : List Nat) : List Nat → List Nat → List Nat
  | _, [] => []
  | left, x :: l => (t1s hs left x).1 :: t1o hs (t1s hs left x).2 l
def t1e (hs : List Nat) : List Nat → List Nat → List Nat
  | left, [] => left
  | left, x :: l => t1e hs (t1s hs left x).2 l
def frst (left : List Nat) : Nat := left.findIdx (fun x => decide (0 < x))
/-- Second round: what is empty takes the first hop that has room. -/
def t2s (hs left : List Nat) (o : Nat) : Nat × List Nat :=
  if 0 < o then (o, left) else (hs.getD (frst left) 0, left.set (frst left) (left.getD (frst left) 0 - 1))
def t2o (hs : List Nat) : List Nat → List Nat → List Nat
  | _, [] => []
  | left, x :: l => (t2s hs left x).1 :: t2o hs (t2s hs left x).2 l
def t2e (hs : List Nat) : List Nat → List Nat → List Nat
  | left, [] => left
  | left, x :: l => t2e hs (t2s hs left x).2 l
def turnL (hs ps xs : List Nat) : List Nat := t2o hs (t1e hs ps xs) (t1o hs ps xs)

theorem t1o_len (hs : List Nat) : ∀ (l left : List Nat), (t1o hs left l).length = l.length
  | [], _ => rfl
  | x :: l, left => by show (t1o hs _ l).length + 1 = _; rw [t1o_len]; rfl
theorem t2o_len (hs : List Nat) : ∀ (l left : List Nat), (t2o hs left l).length = l.length
  | [], _ => rfl
  | x :: l, left => by show (t2o hs _ l).length + 1 = _; rw [t2o_len]; rfl
theorem t1s_len (hs left : List Nat) (x : Nat) : (t1s hs left x).2.length = left.length := by unfold t1s; split <;> simp
theorem t2s_len (hs left : List Nat) (x : Nat) : (t2s hs left x).2.length = left.length := by unfold t2s; split <;> simp
theorem t1e_len (hs : List Nat) : ∀ (l left : List Nat), (t1e hs left l).length = left.length
  | [], _ => rfl
  | x :: l, left => by show (t1e hs _ l).length = _; rw [t1e_len, t1s_len]
theorem t1o_app (hs : List Nat) : ∀ (a b left : List Nat), t1o hs left (a ++ b) = t1o hs left a ++ t1o hs (t1e hs left a) b
  | [], _, _ => rfl
  | x :: a, b, left => by show _ :: t1o hs _ (a ++ b) = _; rw [t1o_app]; rfl
theorem t1e_app (hs : List Nat) : ∀ (a b left : List Nat), t1e hs left (a ++ b) = t1e hs (t1e hs left a) b
  | [], _, _ => rfl
  | x :: a, b, left => by show t1e hs _ (a ++ b) = _; rw [t1e_app]; rfl
theorem t2o_app (hs : List Nat) : ∀ (a b left : List Nat), t2o hs left (a ++ b) = t2o hs left a ++ t2o hs (t2e hs left a) b
  | [], _, _ => rfl
  | x :: a, b, left => by show _ :: t2o hs _ (a ++ b) = _; rw [t2o_app]; rfl
theorem t2e_app (hs : List Nat) : ∀ (a b left : List Nat), t2e hs left (a ++ b) = t2e hs (t2e hs left a) b
  | [], _, _ => rfl
  | x :: a, b, left => by show t2e hs _ (a ++ b) = _; rw [t2e_app]; rfl

theorem slot_at {hs : List Nat} (hn : hs.Nodup) {k : Nat} (hk : k < hs.length) : slot hs (hs.getD k 0) = k := by
  rw [getD_eq hk]
  unfold slot
  rw [List.findIdx_eq hk]
  refine ⟨by simp, fun j hj => ?_⟩
  have : hs[j] ≠ hs[k] := fun e => by have := (List.getElem_inj hn).1 e; omega
  simpa using this
theorem slot_lt {hs : List Nat} {x : Nat} (h : slot hs x < hs.length) : hs.getD (slot hs x) 0 = x := by
  rw [getD_eq h]
  have := List.findIdx_getElem (w := h)
  exact eq_of_beq this
theorem getD_set (l : List Nat) (i v t : Nat) : (l.set i v).getD t 0 = if t = i ∧ t < l.length then v else l.getD t 0 := by
  simp only [List.getD_eq_getElem?_getD, List.getElem?_set]
  by_cases h : i = t
  · subst h
    by_cases h2 : i < l.length
    · simp [h2]
    · simp [h2]
  · simp [h, Ne.symm h]
/-- What the first round leaves. -/
theorem t1_count {hs : List Nat} (hn : hs.Nodup) (h0 : 0 ∉ hs) : ∀ (xs left : List Nat), left.length = hs.length → ∀ k, k < hs.length →
    (t1e hs left xs).getD k 0 = left.getD k 0 - min (xs.count (hs.getD k 0)) (left.getD k 0) ∧ (t1o hs left xs).count (hs.getD k 0) = min (xs.count (hs.getD k 0)) (left.getD k 0)
  | [], left, _, k, _ => by simp [t1e, t1o]
  | x :: xs, left, hl, k, hk => by
    have ih := t1_count hn h0 xs (t1s hs left x).2 (by rw [t1s_len, hl]) k hk
    show (t1e hs (t1s hs left x).2 xs).getD k 0 = _ ∧ ((t1s hs left x).1 :: t1o hs (t1s hs left x).2 xs).count _ = _
    have hz : hs.getD k 0 ≠ 0 := fun e => h0 (by rw [← e, getD_eq hk]; exact List.getElem_mem hk)
    rw [List.count_cons, List.count_cons, ih.1, ih.2]
    unfold t1s
    by_cases hc : slot hs x < hs.length ∧ 0 < left.getD (slot hs x) 0
    · rw [if_pos hc]
      simp only [getD_set]
      by_cases hks : k = slot hs x
      · subst hks
        have := slot_lt hc.1
        rw [if_pos ⟨rfl, by omega⟩, this]
        simp only [beq_self_eq_true, if_true]
        omega
      · have hne : (x == hs.getD k 0) = false := by
          rw [beq_eq_false_iff_ne]
          intro e
          exact hks (by rw [e, slot_at hn hk])
        rw [if_neg (by intro h; exact hks h.1), hne]
        simp
    · rw [if_neg hc]
      have h00 : ((0 : Nat) == hs.getD k 0) = false := by rw [beq_eq_false_iff_ne]; exact fun e => hz e.symm
      rw [h00]
      by_cases hxe : x = hs.getD k 0
      · subst hxe
        rw [slot_at hn hk] at hc
        simp only [beq_self_eq_true, if_true]
        have : left.getD k 0 = 0 := by omega
        rw [this]; simp
      · have hne : (x == hs.getD k 0) = false := by rw [beq_eq_false_iff_ne]; exact hxe
        rw [hne]; simp
theorem t1_at {hs : List Nat} : ∀ (xs left : List Nat) (i : Nat), i < xs.length → (t1o hs left xs).getD i 0 = 0 ∨ ((t1o hs left xs).getD i 0 = xs.getD i 0 ∧ xs.getD i 0 ∈ hs)
  | [], _, i, h => absurd h (Nat.not_lt_zero _)
  | x :: xs, left, 0, _ => by
    show (t1s hs left x).1 = 0 ∨ ((t1s hs left x).1 = x ∧ x ∈ hs)
    unfold t1s
    split
    · rename_i hc
      exact .inr ⟨rfl, by have := slot_lt hc.1; rw [← this, getD_eq hc.1]; exact List.getElem_mem hc.1⟩
    · exact .inl rfl
  | x :: xs, left, i + 1, h => t1_at xs _ i (by simpa using h)
theorem t1_sum {hs : List Nat} (h0 : 0 ∉ hs) : ∀ (xs left : List Nat), left.length = hs.length → (t1o hs left xs).count 0 + left.sum = xs.length + (t1e hs left xs).sum
  | [], left, _ => by simp [t1o, t1e]
  | x :: xs, left, hl => by
    have ih := t1_sum h0 xs (t1s hs left x).2 (by rw [t1s_len, hl])
    show ((t1s hs left x).1 :: t1o hs (t1s hs left x).2 xs).count 0 + _ = _ + (t1e hs (t1s hs left x).2 xs).sum
    rw [List.count_cons]
    have hs2 : (if ((t1s hs left x).1 == 0) = true then 1 else 0) + left.sum = 1 + (t1s hs left x).2.sum := by
      unfold t1s
      split
      · rename_i hc
        have hx : x ≠ 0 := fun e => h0 (by have := slot_lt hc.1; rw [e] at this; rw [e] at hc; rw [← this, getD_eq hc.1]; exact List.getElem_mem hc.1)
        have := sum_set left (slot hs x) (left.getD (slot hs x) 0 - 1) (by omega)
        simp only [show (x == 0) = false by rw [beq_eq_false_iff_ne]; exact hx]
        simp only [Bool.false_eq_true, if_false]
        omega
      · simp
    simp only [List.length_cons]
    omega
theorem frst_lt {left : List Nat} (h : 0 < left.sum) : frst left < left.length ∧ 0 < left.getD (frst left) 0 ∧ ∀ j, j < frst left → left.getD j 0 = 0 := by
  have h1 : frst left < left.length := by
    unfold frst
    rw [List.findIdx_lt_length]
    refine Classical.byContradiction fun hno => ?_
    have : ∀ x ∈ left, x = 0 := fun x hx => by
      refine Classical.byContradiction fun hx0 => hno ⟨x, hx, by simp; omega⟩
    have : left.sum = 0 := by
      clear h hno
      induction left with
      | nil => rfl
      | cons y l ih => rw [List.sum_cons, this y (by simp), ih (fun x hx => this x (by simp [hx]))]
    omega
  refine ⟨h1, ?_, fun j hj => ?_⟩
  · rw [getD_eq h1]
    have := List.findIdx_getElem (w := h1)
    exact of_decide_eq_true this
  · rw [getD_eq (by omega)]
    have := List.not_of_lt_findIdx hj
    simpa using this
/-- What the second round leaves. -/
theorem t2_count {hs : List Nat} (hn : hs.Nodup) (h0 : 0 ∉ hs) : ∀ (os left : List Nat), left.length = hs.length → os.count 0 = left.sum → ∀ k, k < hs.length →
    (t2o hs left os).count (hs.getD k 0) = os.count (hs.getD k 0) + left.getD k 0
  | [], left, hl, hc, k, hk => by
    simp only [List.count_nil] at hc
    have : left.getD k 0 = 0 := by
      rcases Nat.eq_zero_or_pos (left.getD k 0) with h | h
      · exact h
      · have := sum_set left k 0 (by omega)
        omega
    rw [this]; rfl
  | o :: os, left, hl, hc, k, hk => by
    show ((t2s hs left o).1 :: t2o hs (t2s hs left o).2 os).count _ = _
    have hz : hs.getD k 0 ≠ 0 := fun e => h0 (by rw [← e, getD_eq hk]; exact List.getElem_mem hk)
    rw [List.count_cons] at hc ⊢
    rw [List.count_cons]
    by_cases ho : 0 < o
    · have e : t2s hs left o = (o, left) := by unfold t2s; rw [if_pos ho]
      rw [e]
      have hb : (o == 0) = false := by rw [beq_eq_false_iff_ne]; omega
      rw [hb] at hc
      have := t2_count hn h0 os left hl (by simpa using hc) k hk
      show List.count _ (t2o hs left os) + _ = _
      rw [this]; dsimp only; omega
    · obtain rfl : o = 0 := by omega
      simp only [beq_self_eq_true, if_true] at hc
      obtain ⟨f1, f2, f3⟩ := frst_lt (left := left) (by omega)
      have e : t2s hs left 0 = (hs.getD (frst left) 0, left.set (frst left) (left.getD (frst left) 0 - 1)) := by unfold t2s; rw [if_neg (by omega)]
      rw [e]
      have hss := sum_set left (frst left) (left.getD (frst left) 0 - 1) f1
      have := t2_count hn h0 os (left.set (frst left) (left.getD (frst left) 0 - 1)) (by simpa using hl) (by omega) k hk
      show List.count _ (t2o hs (left.set (frst left) (left.getD (frst left) 0 - 1)) os) + _ = _
      rw [this, getD_set]
      have h00 : ((0 : Nat) == hs.getD k 0) = false := by rw [beq_eq_false_iff_ne]; exact fun e => hz e.symm
      rw [h00]
      by_cases hkf : k = frst left
      · subst hkf
        rw [if_pos ⟨rfl, f1⟩]
        simp only [beq_self_eq_true, if_true, Bool.false_eq_true, if_false]
        omega
      · rw [if_neg (fun h => hkf h.1)]
        have : (hs.getD (frst left) 0 == hs.getD k 0) = false := by
          rw [beq_eq_false_iff_ne]
          intro e2
          have h1 := slot_at hn hk
          rw [← e2, slot_at hn (by omega)] at h1
          exact hkf h1.symm
        rw [this]
        simp only [Bool.false_eq_true, if_false]
        omega
theorem t2_at {hs : List Nat} : ∀ (os left : List Nat), left.length = hs.length → os.count 0 = left.sum → ∀ i, i < os.length →
    (0 < os.getD i 0 ∧ (t2o hs left os).getD i 0 = os.getD i 0) ∨ (os.getD i 0 = 0 ∧ ∃ k, k < hs.length ∧ (t2o hs left os).getD i 0 = hs.getD k 0 ∧ 0 < left.getD k 0)
  | [], _, _, _, i, h => absurd h (Nat.not_lt_zero _)
  | o :: os, left, hl, hc, i, hi => by
    rw [List.count_cons] at hc
    by_cases ho : 0 < o
    · have e : t2s hs left o = (o, left) := by unfold t2s; rw [if_pos ho]
      have hb : (o == 0) = false := by rw [beq_eq_false_iff_ne]; omega
      rw [hb] at hc
      match i, hi with
      | 0, _ =>
        refine .inl ⟨ho, ?_⟩
        show (t2s hs left o).1 = o
        rw [e]
      | i + 1, hi =>
        have := t2_at os left hl (by simpa using hc) i (by simpa using hi)
        show (0 < os.getD i 0 ∧ (t2o hs (t2s hs left o).2 os).getD i 0 = _) ∨ (os.getD i 0 = 0 ∧ ∃ k, _ ∧ (t2o hs (t2s hs left o).2 os).getD i 0 = _ ∧ _)
        rw [e]
        exact this
    · obtain rfl : o = 0 := by omega
      simp only [beq_self_eq_true, if_true] at hc
      obtain ⟨f1, f2, f3⟩ := frst_lt (left := left) (by omega)
      have e : t2s hs left 0 = (hs.getD (frst left) 0, left.set (frst left) (left.getD (frst left) 0 - 1)) := by unfold t2s; rw [if_neg (by omega)]
      have hss := sum_set left (frst left) (left.getD (frst left) 0 - 1) f1
      match i, hi with
      | 0, _ =>
        refine .inr ⟨rfl, frst left, by omega, ?_, f2⟩
        show (t2s hs left 0).1 = _
        rw [e]
      | i + 1, hi =>
        have := t2_at os (left.set (frst left) (left.getD (frst left) 0 - 1)) (by simpa using hl) (by omega) i (by simpa using hi)
        show (0 < os.getD i 0 ∧ (t2o hs (t2s hs left 0).2 os).getD i 0 = _) ∨ (os.getD i 0 = 0 ∧ ∃ k, _ ∧ (t2o hs (t2s hs left 0).2 os).getD i 0 = _ ∧ _)
        rw [e]
        rcases this with h | ⟨h1, k, h2, h3, h4⟩
        · exact .inl h
        · refine .inr ⟨h1, k, h2, h3, ?_⟩
          rw [getD_set] at h4
          split at h4
          · rename_i h5; rw [h5.1]; exact f2
          · exact h4

/-- How often both lists have h at one place. -/
def both2 (h : Nat) : List Nat → List Nat → Nat
  | x :: xs, z :: zs => (if x = h ∧ z = h then 1 else 0) + both2 h xs zs
  | _, _ => 0
def same2 : List Nat → List Nat → Nat
  | x :: xs, z :: zs => (if x = z then 1 else 0) + same2 xs zs
  | _, _ => 0
theorem both2_count (h : Nat) : ∀ (xs zs os : List Nat), xs.length = zs.length → os.length = zs.length → (∀ i, i < zs.length → (xs.getD i 0 = h ∧ zs.getD i 0 = h ↔ os.getD i 0 = h)) → both2 h xs zs = os.count h
  | [], [], [], _, _, _ => rfl
  | [], [], _ :: _, _, h2, _ => by simp at h2
  | _ :: _, [], _, h1, _, _ => by simp at h1
  | [], _ :: _, _, h1, _, _ => by simp at h1
  | _ :: _, _ :: _, [], _, h2, _ => by simp at h2
  | x :: xs, z :: zs, o :: os, h1, h2, hh => by
    have ih := both2_count h xs zs os (by simpa using h1) (by simpa using h2) (fun i hi => by simpa using hh (i + 1) (by simpa using hi))
    have h0 : (x = h ∧ z = h) ↔ o = h := hh 0 (by simp)
    show (if x = h ∧ z = h then 1 else 0) + both2 h xs zs = _
    rw [ih, List.count_cons]
    by_cases e : o = h
    · rw [if_pos (h0.2 e)]; simp [e]; omega
    · rw [if_neg (fun x => e (h0.1 x))]; simp [e]

structure TurnOk (hs ps xs : List Nat) : Prop where
  len : (turnL hs ps xs).length = xs.length
  count : ∀ k, k < hs.length → (turnL hs ps xs).count (hs.getD k 0) = ps.getD k 0
  stay : ∀ k, k < hs.length → both2 (hs.getD k 0) xs (turnL hs ps xs) = min (xs.count (hs.getD k 0)) (ps.getD k 0)
  mem : ∀ x ∈ turnL hs ps xs, x ∈ hs
theorem turn_ok {hs ps xs : List Nat} (hn : hs.Nodup) (h0 : 0 ∉ hs) (hl : ps.length = hs.length) (hsum : ps.sum = xs.length) : TurnOk hs ps xs := by
  have l1 := t1o_len hs xs ps
  have l2 := t2o_len hs (t1o hs ps xs) (t1e hs ps xs)
  have e1 : (t1e hs ps xs).length = hs.length := by rw [t1e_len, hl]
  have s1 := t1_sum h0 xs ps hl
  have s2 : (t1o hs ps xs).count 0 = (t1e hs ps xs).sum := by omega
  have c1 := fun k hk => t1_count hn h0 xs ps hl k hk
  have c2 := fun k hk => t2_count hn h0 (t1o hs ps xs) (t1e hs ps xs) e1 s2 k hk
  have a2 := fun i hi => t2_at (hs := hs) (t1o hs ps xs) (t1e hs ps xs) e1 s2 i hi
  have a1 := fun i hi => t1_at (hs := hs) xs ps i hi
  refine ⟨by unfold turnL; rw [l2, l1], fun k hk => ?_, fun k hk => ?_, fun x hx => ?_⟩
  · unfold turnL
    rw [c2 k hk, (c1 k hk).1, (c1 k hk).2]
    omega
  · rw [← (c1 k hk).2]
    have hz : hs.getD k 0 ≠ 0 := fun e => h0 (by rw [← e, getD_eq hk]; exact List.getElem_mem hk)
    refine both2_count _ _ _ _ (by unfold turnL; rw [l2, l1]) (by unfold turnL; rw [l2]) (fun i hi => ?_)
    have hi' : i < xs.length := by unfold turnL at hi; rw [l2, l1] at hi; exact hi
    have hio : i < (t1o hs ps xs).length := by rw [l1]; exact hi'
    constructor
    · rintro ⟨x1, x2⟩
      rcases a2 i hio with ⟨h1, h2⟩ | ⟨h1, j, h2, h3, h4⟩
      · rw [← h2]; exact x2
      · exfalso
        have hj : j = k := by
          have e2 : hs.getD j 0 = hs.getD k 0 := by rw [← h3]; exact x2
          have h5 := slot_at hn hk
          rw [← e2, slot_at hn h2] at h5
          exact h5
        subst hj
        rw [(c1 j hk).1] at h4
        have hm : (t1o hs ps xs).count (hs.getD j 0) = xs.count (hs.getD j 0) := by rw [(c1 j hk).2]; omega
        -- all of them were kept
        have hall : ∀ (xs os : List Nat) (h : Nat), xs.length = os.length → (∀ i, i < xs.length → os.getD i 0 = h → xs.getD i 0 = h) → os.count h = xs.count h → ∀ i, i < xs.length → xs.getD i 0 = h → os.getD i 0 = h := by
          intro xs
          induction xs with
          | nil => intro os h _ _ _ i hi; exact absurd hi (Nat.not_lt_zero _)
          | cons x xs ih =>
            intro os h hlen hsub hcnt i hi hx
            match os, hlen with
            | o :: os, hlen =>
              have hsub' : ∀ i, i < xs.length → os.getD i 0 = h → xs.getD i 0 = h := fun i hi he => by simpa using hsub (i + 1) (by simpa using hi) (by simpa using he)
              have hle : ∀ (xs os : List Nat), xs.length = os.length → (∀ i, i < xs.length → os.getD i 0 = h → xs.getD i 0 = h) → os.count h ≤ xs.count h := by
                intro xs
                induction xs with
                | nil => intro os hl _; cases os with | nil => exact Nat.le_refl _ | cons _ _ => simp at hl
                | cons x xs ih =>
                  intro os hl hs
                  match os, hl with
                  | o :: os, hl =>
                    have h1 := ih os (by simpa using hl) (fun i hi he => by simpa using hs (i + 1) (by simpa using hi) (by simpa using he))
                    have h2 : o = h → x = h := hs 0 (by simp)
                    rw [List.count_cons, List.count_cons]
                    by_cases ho : o = h
                    · simp [ho, h2 ho]; exact h1
                    · simp [ho]; omega
              have h1 := hle xs os (by simpa using hlen) hsub'
              have h2 : o = h → x = h := hsub 0 (by simp)
              rw [List.count_cons, List.count_cons] at hcnt
              match i, hi, hx with
              | 0, _, hx =>
                have hx' : x = h := hx
                show o = h
                refine Classical.byContradiction fun ho => ?_
                simp [hx', ho] at hcnt
                omega
              | i + 1, hi, hx =>
                have hcnt' : os.count h = xs.count h := by
                  by_cases ho : o = h
                  · simp [ho, h2 ho] at hcnt; exact hcnt
                  · by_cases hxx : x = h
                    · simp [ho, hxx] at hcnt; omega
                    · simp [ho, hxx] at hcnt; exact hcnt
                exact ih os h (by simpa using hlen) hsub' hcnt' i (by simpa using hi) hx
        have := hall xs (t1o hs ps xs) (hs.getD j 0) (by rw [l1]) (fun i hi he => by
          rcases a1 i hi with h | ⟨h, _⟩
          · rw [he] at h; exact absurd h hz
          · rw [← h]; exact he) hm i hi' x1
        rw [h1] at this
        exact hz this.symm
    · intro ho
      have hx : xs.getD i 0 = hs.getD k 0 := by
        rcases a1 i hi' with h | ⟨h, _⟩
        · rw [ho] at h; exact absurd h hz
        · rw [← h]; exact ho
      refine ⟨hx, ?_⟩
      rcases a2 i hio with ⟨h1, h2⟩ | ⟨h1, _⟩
      · show (t2o hs _ _).getD i 0 = _
        rw [h2, ho]
      · rw [ho] at h1; exact absurd h1 hz
  · obtain ⟨i, hi, rfl⟩ := List.getElem_of_mem hx
    have hi' : i < xs.length := by unfold turnL at hi; rw [l2, l1] at hi; exact hi
    have hio : i < (t1o hs ps xs).length := by rw [l1]; exact hi'
    have e : (turnL hs ps xs).getD i 0 = (turnL hs ps xs)[i] := getD_eq hi
    rw [← e]
    rcases a2 i hio with ⟨h1, h2⟩ | ⟨h1, j, h2, h3, h4⟩
    · show (t2o hs _ _).getD i 0 ∈ hs
      rw [h2]
      rcases a1 i hi' with h | ⟨h, hm⟩
      · omega
      · rw [h]; exact hm
    · show (t2o hs _ _).getD i 0 ∈ hs
      rw [h3, getD_eq h2]; exact List.getElem_mem h2
end Go.Proofs.Yticfcigkldkhmaa
