
/- Tables as bytes: what is cut off or changed is seen. -/
import Derived.Test.YteadfobfenopkaaIm6
set_option linter.unusedVariables false
set_option linter.unusedSimpArgs false
namespace Go.Proofs.Yteadfobfenopkaa
open Go Go.RowKit Go.Sort Wc Wk

theorem sumS_mod : ∀ (l : List Nat) (p : Nat × Nat), (l.foldl sstep p).1 % 65521 = (p.1 + l.sum) % 65521
  | [], p => by simp
  | x :: l, p => by
    have h := sumS_mod l (sstep p x)
    rw [List.foldl_cons, h, List.sum_cons]
    show ((p.1 + x) % 65521 + l.sum) % 65521 = _
    omega
theorem sumS_fst (l : List Nat) : (sumS l).1 = (1 + l.sum) % 65521 := by
  have h := sumS_mod l (1, 0)
  have h2 := (sumS_lt l).1
  have e : (l.foldl sstep (1, 0)).1 = (sumS l).1 := rfl
  rw [e] at h
  omega
theorem sum_set : ∀ (l : List Nat) (k o y : Nat), l[k]? = some o → (l.set k y).sum + o = l.sum + y
  | [], k, o, y, h => by simp at h
  | x :: l, 0, o, y, h => by simp at h; subst h; simp; omega
  | x :: l, k + 1, o, y, h => by
    have := sum_set l k o y (by simpa using h)
    simp only [List.set_cons_succ, List.sum_cons]
    omega
theorem sumV_set {l : List Nat} {k o y : Nat} (h : l[k]? = some o) (ho : o < 256) (hy : y < 256) (hne : y ≠ o) : sumV (l.set k y) ≠ sumV l := fun e => by
  have h1 := sumS_lt l
  have h2 := sumS_lt (l.set k y)
  unfold sumV at e
  have e1 : (sumS (l.set k y)).1 = (sumS l).1 := by omega
  rw [sumS_fst, sumS_fst] at e1
  have := sum_set l k o y h
  omega
theorem kfold_set (V k y : Nat) (hV : V < 4294967296) (hk : k < 4) (hy : y < 256) (hne : (be4 V)[k]? ≠ some y) : kfold ((be4 V).set k y) ≠ V := fun e => by
  match k, hk with
  | 0, _ =>
    have e2 : 256 * (256 * (256 * (256 * 0 + y) + V / 65536 % 256) + V / 256 % 256) + V % 256 = V := e
    exact hne (by show some (V / 16777216 % 256) = _; congr 1; omega)
  | 1, _ =>
    have e2 : 256 * (256 * (256 * (256 * 0 + V / 16777216 % 256) + y) + V / 256 % 256) + V % 256 = V := e
    exact hne (by show some (V / 65536 % 256) = _; congr 1; omega)
  | 2, _ =>
    have e2 : 256 * (256 * (256 * (256 * 0 + V / 16777216 % 256) + V / 65536 % 256) + y) + V % 256 = V := e
    exact hne (by show some (V / 256 % 256) = _; congr 1; omega)
  | 3, _ =>
    have e2 : 256 * (256 * (256 * (256 * 0 + V / 16777216 % 256) + V / 65536 % 256) + V / 256 % 256) + y = V := e
    exact hne (by show some (V % 256) = _; congr 1; omega)
theorem saveB_take (L : List (Nat × Nat × Nat)) : (saveB L).take ((saveB L).length - 4) = headB L ++ bodyB L ∧ (saveB L).drop ((saveB L).length - 4) = be4 (sumV (headB L ++ bodyB L)) := by
  have hl := saveB_len L
  have e : (saveB L).length - 4 = (headB L ++ bodyB L).length := by rw [List.length_append]; show _ = 4 + _; omega
  rw [e]
  unfold saveB
  exact ⟨List.take_left, List.drop_left⟩
theorem saveB_lt {L : List (Nat × Nat × Nat)} (t : TabOk L) : ∀ y ∈ saveB L, y < 256 := fun y hy => by
  unfold saveB at hy
  rcases List.mem_append.1 hy with g | g
  · rcases List.mem_append.1 g with g | g
    · exact headB_lt t.len y g
    · exact bodyB_lt (fun z hz => (t.vp z hz).2.1) y g
  · exact be4_lt _ y g
/-- The whole is read. -/
theorem hyp_full (L : List (Nat × Nat × Nat)) : ∃ J, J ≤ (bodyB L).length ∧ (saveB L).take ((saveB L).length - 4) = headB L ++ (bodyB L).take J ∧ (J = (bodyB L).length → saveB L = saveB L) :=
  ⟨_, Nat.le_refl _, by rw [(saveB_take L).1, List.take_length], fun _ => rfl⟩
theorem full_sum (L : List (Nat × Nat × Nat)) : kfold ((saveB L).drop ((saveB L).length - 4)) = sumV ((saveB L).take ((saveB L).length - 4)) := by
  rw [(saveB_take L).1, (saveB_take L).2]
  exact kfold_be4 _ (sumV_lt _)
/-- What is cut off. -/
theorem hyp_cut (L : List (Nat × Nat × Nat)) {k : Nat} (hk : k < (saveB L).length) (h8 : 8 ≤ ((saveB L).take k).length) :
    ∃ J, J ≤ (bodyB L).length ∧ ((saveB L).take k).take (((saveB L).take k).length - 4) = headB L ++ (bodyB L).take J ∧ (J = (bodyB L).length → (saveB L).take k = saveB L) := by
  have hl := saveB_len L
  have e : ((saveB L).take k).length = k := by rw [List.length_take]; omega
  rw [e] at h8 ⊢
  refine ⟨k - 8, by omega, ?_, fun h => by omega⟩
  rw [List.take_take, Nat.min_eq_left (by omega)]
  unfold saveB
  have h4 : (headB L).length = 4 := rfl
  have e1 : headB L ++ bodyB L ++ be4 (sumV (headB L ++ bodyB L)) = headB L ++ (bodyB L ++ be4 (sumV (headB L ++ bodyB L))) := List.append_assoc _ _ _
  rw [e1, List.take_append, h4, List.take_of_length_le (by rw [h4]; omega), show k - 4 - 4 = k - 8 by omega, List.take_append_of_le_length (by omega)]
/-- What is changed. -/
theorem changed_sum {L : List (Nat × Nat × Nat)} (t : TabOk L) {k o y : Nat} (h : (saveB L)[k]? = some o) (hy : y < 256) (hne : y ≠ o) :
    kfold (((saveB L).set k y).drop (((saveB L).set k y).length - 4)) ≠ sumV (((saveB L).set k y).take (((saveB L).set k y).length - 4)) := by
  have hl := saveB_len L
  have ho := saveB_lt t o (List.mem_of_getElem? h)
  have hkl := (List.getElem?_eq_some_iff.1 h).1
  obtain ⟨e1, e2⟩ := saveB_take L
  have eP : (headB L ++ bodyB L).length = 4 + (bodyB L).length := by rw [List.length_append]; rfl
  rw [List.length_set]
  by_cases hk : k < (saveB L).length - 4
  · rw [List.drop_set, if_pos hk, List.take_set, e1, e2, kfold_be4 _ (sumV_lt _)]
    refine fun e => sumV_set (o := o) ?_ ho hy hne e.symm
    rw [← e1, List.getElem?_take_of_lt hk]
    exact h
  · rw [List.drop_set, if_neg hk, List.take_set_of_le (by omega), e1, e2]
    refine kfold_set _ _ y (sumV_lt _) (by omega) hy (fun e => hne ?_)
    rw [← e2, List.getElem?_drop, show (saveB L).length - 4 + (k - ((saveB L).length - 4)) = k by omega, h] at e
    cases e
    rfl
theorem changed_ne {l : List Nat} {k o y : Nat} (h : l[k]? = some o) (hne : y ≠ o) : l.set k y ≠ l := fun e => by
  have h1 : (l.set k y)[k]? = some y := by rw [List.getElem?_set_self (List.getElem?_eq_some_iff.1 h).1]
  rw [e, h] at h1
  cases h1
  exact hne rfl
theorem xor_u8 (a b : Nat) (ha : a < 256) (hb : b < 256) : bits .xor .u8 (a : Int) (b : Int) = ((a ^^^ b : Nat) : Int) ∧ a ^^^ b < 256 := by
  have hx : a ^^^ b < 2 ^ 8 := Nat.xor_lt_two_pow (by omega) (by omega)
  have h1 : (BitVec.ofInt 8 (a : Int)).toNat = a := by
    rw [BitVec.ofInt_natCast, BitVec.toNat_ofNat]; exact Nat.mod_eq_of_lt (by omega)
  have h2 : (BitVec.ofInt 8 (b : Int)).toNat = b := by
    rw [BitVec.ofInt_natCast, BitVec.toNat_ofNat]; exact Nat.mod_eq_of_lt (by omega)
  refine ⟨?_, by omega⟩
  show IntKind.u8.wrap ((BitVec.ofInt 8 (a : Int) ^^^ BitVec.ofInt 8 (b : Int)).toNat : Int) = _
  rw [BitVec.toNat_xor, h1, h2, IntKind.wrap_u8]
  omega
theorem xor_ne {a b : Nat} (hb : b ≠ 0) : a ^^^ b ≠ a := fun e => by
  have h : a ^^^ (a ^^^ b) = a ^^^ a := by rw [e]
  rw [← Nat.xor_assoc, Nat.xor_self, Nat.zero_xor] at h
  exact hb h
theorem wf_u8 {n : Int} (h : (Lit.int .u8 n).wf = true) : 0 ≤ n ∧ n ≤ 255 := by
  have := h
  simp [Lit.wf] at this
  have e1 : IntKind.u8.min = 0 := by decide
  have e2 : IntKind.u8.max = 255 := by decide
  rw [e1, e2] at this
  exact this
end Go.Proofs.Yteadfobfenopkaa
