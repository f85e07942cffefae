
/- Tables as bytes: plain laws of reading them again. -/
import Derived.Test.YteadfobfenopkaaIm4
set_option linter.unusedVariables false
set_option linter.unusedSimpArgs false
namespace Go.Proofs.Yteadfobfenopkaa
open Go Go.RowKit Go.Sort Wc Wk

theorem bodyB_split {L : List (Nat × Nat × Nat)} {m : Nat} {x : Nat × Nat × Nat} (h : L[m]? = some x) : bodyB L = bodyB (L.take m) ++ (routeB x ++ bodyB (L.drop (m + 1))) := by
  have hlt := (List.getElem?_eq_some_iff.1 h).1
  have e : L = L.take m ++ x :: L.drop (m + 1) := by
    conv => lhs; rw [← List.take_append_drop m L]
    congr 1
    rw [List.drop_eq_getElem_cons hlt]
    congr 1
    exact (List.getElem?_eq_some_iff.1 h).2
  conv => lhs; rw [e]
  unfold bodyB
  simp
/-- The reader's bytes: how many routes, and what was kept of their bytes. -/
def rdL (L : List (Nat × Nat × Nat)) (J : Nat) : List Nat := L.length :: (bodyB L).take J
theorem rdL_at {L : List (Nat × Nat × Nat)} {J m : Nat} {x : Nat × Nat × Nat} (h : L[m]? = some x) (t : Nat) :
    (rdL L J).getD (1 + (bodyB (L.take m)).length + t) 0 = if (bodyB (L.take m)).length + t < J then (routeB x ++ bodyB (L.drop (m + 1))).getD t 0 else 0 := by
  unfold rdL
  rw [show 1 + (bodyB (L.take m)).length + t = ((bodyB (L.take m)).length + t) + 1 by omega, List.getD_cons_succ, bodyB_split h]
  by_cases hj : (bodyB (L.take m)).length + t < J
  · rw [if_pos hj, List.getD_eq_getElem?_getD, List.getElem?_take_of_lt hj, List.getElem?_append_right (Nat.le_add_right _ _), Nat.add_sub_cancel_left, List.getD_eq_getElem?_getD]
  · rw [if_neg hj, List.getD_eq_getElem?_getD, List.getElem?_eq_none]
    · rfl
    · rw [List.length_take]; omega
theorem routeB_at (x : Nat × Nat × Nat) (r : List Nat) :
    (routeB x ++ r).getD 0 0 = 0 ∧ (routeB x ++ r).getD 1 0 = x.2.1 ∧ (∀ i, i < wide8 x.2.1 → (routeB x ++ r).getD (2 + i) 0 = octN x.1 i) ∧ (routeB x ++ r).getD (2 + wide8 x.2.1) 0 = x.2.2 / 256 % 256 ∧ (routeB x ++ r).getD (3 + wide8 x.2.1) 0 = x.2.2 % 256 := by
  have e : routeB x ++ r = 0 :: x.2.1 :: ((List.range (wide8 x.2.1)).map (octN x.1) ++ (x.2.2 / 256 % 256 :: x.2.2 % 256 :: r)) := by unfold routeB; simp
  rw [e]
  have hl : ((List.range (wide8 x.2.1)).map (octN x.1)).length = wide8 x.2.1 := by simp
  refine ⟨rfl, rfl, fun i hi => ?_, ?_, ?_⟩
  · rw [show 2 + i = i + 1 + 1 by omega, List.getD_cons_succ, List.getD_cons_succ, List.getD_eq_getElem?_getD, List.getElem?_append_left (by rw [hl]; exact hi), List.getElem?_map, List.getElem?_range hi]
    rfl
  · rw [show 2 + wide8 x.2.1 = wide8 x.2.1 + 1 + 1 by omega, List.getD_cons_succ, List.getD_cons_succ, List.getD_eq_getElem?_getD, List.getElem?_append_right (by rw [hl]; exact Nat.le_refl _), hl, Nat.sub_self]
    rfl
  · rw [show 3 + wide8 x.2.1 = (wide8 x.2.1 + 1) + 1 + 1 by omega, List.getD_cons_succ, List.getD_cons_succ, List.getD_eq_getElem?_getD, List.getElem?_append_right (by rw [hl]; omega), hl, Nat.add_sub_cancel_left]
    rfl
theorem loF_back (n k : Nat) (hv : VP false n k) (g : Nat → Nat) (hg : ∀ i, i < wide8 k → g (2 + i) = octN n i) : loF g (wide8 k) 4 = n := by
  obtain ⟨hf, hk, hc⟩ := hv
  have hn : n < 4294967296 := by unfold Fits wd at hf; simpa using hf
  have hk32 : k ≤ 32 := hk
  have hc2 : n / 2 ^ (32 - k) * 2 ^ (32 - k) = n := hc
  have hdv : 2 ^ (32 - 8 * wide8 k) ∣ n := by
    refine Nat.dvd_trans (Nat.pow_dvd_pow 2 (show 32 - 8 * wide8 k ≤ 32 - k by unfold wide8; omega)) ⟨n / 2 ^ (32 - k), ?_⟩
    rw [Nat.mul_comm]; exact hc2.symm
  have hw : wide8 k ≤ 4 := by unfold wide8; omega
  generalize wide8 k = w at *
  obtain ⟨c, hcn⟩ := hdv
  simp only [loF]
  match w, hw with
  | 0, _ => simp at hcn ⊢; omega
  | 1, _ =>
    have h0 := hg 0 (by decide)
    unfold octN at h0
    simp at h0 hcn ⊢
    omega
  | 2, _ =>
    have h0 := hg 0 (by decide)
    have h1 := hg 1 (by decide)
    unfold octN at h0 h1
    simp at h0 h1 hcn ⊢
    omega
  | 3, _ =>
    have h0 := hg 0 (by decide)
    have h1 := hg 1 (by decide)
    have h2 := hg 2 (by decide)
    unfold octN at h0 h1 h2
    simp at h0 h1 h2 hcn ⊢
    omega
  | 4, _ =>
    have h0 := hg 0 (by decide)
    have h1 := hg 1 (by decide)
    have h2 := hg 2 (by decide)
    have h3 := hg 3 (by decide)
    unfold octN at h0 h1 h2 h3
    simp at h0 h1 h2 h3 hcn ⊢
    omega
/-- One route of the reader: whole, or it goes bad. -/
theorem rd_step {L : List (Nat × Nat × Nat)} {J m : Nat} {x : Nat × Nat × Nat} (hJ : J ≤ (bodyB L).length) (h : L[m]? = some x) (hv : VP false x.1 x.2.1) (hh : x.2.2 ≤ 999) (c : Nat) (hc : c = 1 + (bodyB (L.take m)).length) :
    (rdL L J).getD c 0 = 0 ∧ (rdL L J).getD (c + 1) 0 ≤ 32 ∧
    (((bodyB (L.take (m + 1))).length ≤ J ∧ (rdL L J).getD (c + 1) 0 = x.2.1 ∧ loF (fun i => (rdL L J).getD (c + i) 0) (wide8 x.2.1) 4 = x.1 ∧ (rdL L J).getD (c + 2 + wide8 x.2.1) 0 * 256 + (rdL L J).getD (c + 3 + wide8 x.2.1) 0 = x.2.2 ∧ c + 4 + wide8 x.2.1 = 1 + (bodyB (L.take (m + 1))).length) ∨
     (J < (bodyB (L.take (m + 1))).length ∧ (rdL L J).length < c + 4 + wide8 ((rdL L J).getD (c + 1) 0))) := by
  have hat := fun t => rdL_at (J := J) h t
  rw [← hc] at hat
  obtain ⟨r0, r1, r2, r3, r4⟩ := routeB_at x (bodyB (L.drop (m + 1)))
  have hsn : (bodyB (L.take (m + 1))).length = (bodyB (L.take m)).length + (4 + wide8 x.2.1) := by rw [bodyB_snoc h, List.length_append, routeB_len]
  have hrl : (rdL L J).length = 1 + J := by unfold rdL; rw [List.length_cons, List.length_take]; omega
  have hk32 : x.2.1 ≤ 32 := hv.2.1
  have a0 := hat 0
  have a1 := hat 1
  rw [Nat.add_zero, Nat.add_zero, r0] at a0
  rw [r1] at a1
  refine ⟨by rw [a0]; split <;> rfl, by rw [a1]; split; (· exact hk32); (· exact Nat.zero_le _), ?_⟩
  by_cases hj : (bodyB (L.take (m + 1))).length ≤ J
  · left
    have b1 : (rdL L J).getD (c + 1) 0 = x.2.1 := by rw [a1, if_pos (by omega)]
    refine ⟨hj, b1, ?_, ?_, by omega⟩
    · refine loF_back x.1 x.2.1 hv _ (fun i hi => ?_)
      rw [hat (2 + i), if_pos (by omega), r2 i hi]
    · have b3 := hat (2 + wide8 x.2.1)
      have b4 := hat (3 + wide8 x.2.1)
      rw [if_pos (by omega), r3] at b3
      rw [if_pos (by omega), r4] at b4
      rw [show c + 2 + wide8 x.2.1 = c + (2 + wide8 x.2.1) by omega, show c + 3 + wide8 x.2.1 = c + (3 + wide8 x.2.1) by omega, b3, b4]
      omega
  · right
    refine ⟨by omega, ?_⟩
    rw [hrl, a1]
    by_cases h1 : (bodyB (L.take m)).length + 1 < J
    · rw [if_pos h1]; omega
    · rw [if_neg h1]
      show _ < c + 4 + 0
      omega
theorem kfold_bytes {l : List Nat} (h : ∀ x ∈ l, x < 256) (hl : l.length ≤ 3) : kfold l < 16777216 := by
  match l, hl, h with
  | [], _, _ => decide
  | [a], _, h => have h1 := h a (by simp); show 256 * 0 + a < _; omega
  | [a, b], _, h => have h1 := h a (by simp); have h2 := h b (by simp); show 256 * (256 * 0 + a) + b < _; omega
  | [a, b, c], _, h => have h1 := h a (by simp); have h2 := h b (by simp); have h3 := h c (by simp); show 256 * (256 * (256 * 0 + a) + b) + c < _; omega
theorem or_u32b (a b : Nat) (ha : a < 16777216) (hb : b < 256) : bits .or .u32 ((a : Int) * 256) (b : Int) = ((a * 256 + b : Nat) : Int) := by
  have e : (a : Int) * 256 = ((a * 256 : Nat) : Int) := by omega
  have h0 : a * 256 ||| b = a * 256 + b := by
    have := Nat.shiftLeft_add_eq_or_of_lt (i := 8) (b := b) (by omega) a
    rw [Nat.shiftLeft_eq] at this
    exact this.symm
  have h1 : (BitVec.ofInt 32 ((a * 256 : Nat) : Int)).toNat = a * 256 := by
    rw [BitVec.ofInt_natCast, BitVec.toNat_ofNat]; exact Nat.mod_eq_of_lt (by omega)
  have h2 : (BitVec.ofInt 32 (b : Int)).toNat = b := by
    rw [BitVec.ofInt_natCast, BitVec.toNat_ofNat]; exact Nat.mod_eq_of_lt (by omega)
  rw [e]
  show IntKind.u32.wrap ((BitVec.ofInt 32 ((a * 256 : Nat) : Int) ||| BitVec.ofInt 32 (b : Int)).toNat : Int) = _
  rw [BitVec.toNat_or, h1, h2, h0, IntKind.wrap_u32]
  omega
end Go.Proofs.Yteadfobfenopkaa
