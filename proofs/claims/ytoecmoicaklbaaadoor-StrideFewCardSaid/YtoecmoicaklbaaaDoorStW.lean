
/- Package stride: small laws for walk. -/
import Derived.Test.YtoecmoicaklbaaaDoorSt6
set_option linter.unusedVariables false
set_option linter.unusedSimpArgs false
namespace Go.Proofs.YtoecmoicaklbaaaDoor
open Go Go.RowKit Go.Sort Wc Wk

theorem ok_of {x : NodeD} {k : Nat} (h0 : 0 ∉ x.ib) (hA : x.hops.length = x.ib.length) (hB : x.kids.length = x.ob.length) : x.ok k = !decide (k = 32 ∧ (2 < sumB x.ib ∨ 0 < sumB x.ob)) := by
  unfold NodeD.ok
  rw [decide_eq_true hA, decide_eq_true hB]
  have : x.ib.contains 0 = false := by simpa using h0
  rw [this]
  simp
theorem not_ok {x : NodeD} {k : Nat} (h : ¬ (x.hops.length = x.ib.length ∧ x.kids.length = x.ob.length)) : x.ok k = false := by
  unfold NodeD.ok
  by_cases hA : x.hops.length = x.ib.length
  · rw [decide_eq_false (fun hB => h ⟨hA, hB⟩)]
    simp
  · rw [decide_eq_false hA]
    simp
theorem walkF_bad {t : List NodeD} {d b i n k : Nat} {x : NodeD} (hx : t[i]? = some x) (h : x.ok k = false) : walkF t (d + 1) b i n k = none := by
  unfold walkF
  rw [hx]
  dsimp only
  rw [if_pos (.inr h)]
theorem walkF_good {t : List NodeD} {d b i n k : Nat} {x : NodeD} (hx : t[i]? = some x) (h : x.ok k = true) : walkF t (d + 1) (b + 1) i n k = (kidsF (walkF t d) n k (x.ob.zip x.kids) b).map (fun s => (x.rts n k ++ s.1, s.2)) := by
  conv => lhs; unfold walkF
  rw [hx]
  dsimp only
  rw [if_neg (by rw [h]; simp)]
  rfl
theorem len_log : ∀ a : Fin 16, 1 ≤ a.val → Lib.bitLen a.val = a.val.log2 + 1 := by decide
theorem log_lt {a : Nat} (h0 : 1 ≤ a) (h : a < 16) : a.log2 < 4 ∧ 2 ^ a.log2 ≤ a ∧ a - 2 ^ a.log2 < 2 ^ a.log2 := by
  have h1 : a.log2 < 4 := (Nat.log2_lt (by omega)).2 h
  have h2 := Nat.log2_self_le (n := a) (by omega)
  have h3 := Nat.lt_log2_self (n := a)
  rw [Nat.pow_succ] at h3
  exact ⟨h1, h2, by omega⟩
theorem tab_in {w0 w : World} {g : Nat} (h : TabAt g Lib.deBruijn64tab w0) (hg : g < w0.heap.size) (hb : Below w0.heap.size w0 w) : TabAt g Lib.deBruijn64tab w := fun j hj => (hb.cell (p := ⟨g, j, none⟩) hg).trans (h j hj)
theorem rts_at_ {x : NodeD} {m a h nn k : Nat} (ha : x.ib[m]? = some a) (hh : x.hops[m]? = some h) : (x.rts nn k)[m]? = some (hopR nn k a h) := by
  have hz : (x.ib.zip x.hops)[m]? = some (a, h) := List.getElem?_zip_eq_some.2 ⟨ha, hh⟩
  unfold NodeD.rts
  rw [List.getElem?_map, hz]
  rfl
theorem and_pred_u64 {X X1 : Nat} (h1 : 1 ≤ X) (h2 : X < 65536) (hand : X &&& (X - 1) = X1) : bits .and .u64 (X : Int) (IntKind.u64.wrap ((X : Int) - 1)) = (X1 : Int) := by
  have e1 : IntKind.u64.wrap ((X : Int) - 1) = ((X - 1 : Nat) : Int) := by rw [IntKind.wrap_u64]; omega
  rw [e1, bits_and_u64_nat X (X - 1) (by omega) (by omega), hand]
theorem wrap_l {l : Nat} (h2 : l < 4) : IntKind.i64.wrap (((l + 1 : Nat) : Int) - 1) = (l : Int) := by rw [IntKind.wrap_i64]; omega
theorem and_pred_u64' {X X1 : Nat} (h1 : 1 ≤ X) (h2 : X < 65536) (hand : X &&& (X - 1) = X1) : bits .and .u64 (X : Int) ((X : Int) - 1) = (X1 : Int) := by
  have e1 : ((X : Int) - 1) = ((X - 1 : Nat) : Int) := by omega
  rw [e1, bits_and_u64_nat X (X - 1) (by omega) (by omega), hand]
theorem mem_sumB : ∀ {l : List Nat} {i : Nat}, i ∈ l → 2 ^ i ≤ sumB l
  | x :: l, i, h => by
    have h1 : sumB (x :: l) = 2 ^ x + sumB l := rfl
    rcases List.mem_cons.1 h with rfl | h
    · rw [h1]; exact Nat.le_add_right _ _
    · exact Nat.le_trans (mem_sumB h) (by rw [h1]; exact Nat.le_add_left _ _)
theorem hop_low {l : List Nat} {a k : Nat} {Z : Prop} (ha : a ∈ l) (h1 : 1 ≤ a) (h16 : a < 16) (hk : k ≤ 32) (h4 : k % 4 = 0) (hc : ¬ (k = 32 ∧ (2 < sumB l ∨ Z))) : k + a.log2 ≤ 32 := by
  obtain ⟨l1, l2, l3⟩ := log_lt h1 h16
  by_cases e : k = 32
  · have h2 : sumB l ≤ 2 := Nat.le_of_not_lt (fun x => hc ⟨e, .inl x⟩)
    have h3 := mem_sumB ha
    have h4 : a < 2 := Nat.lt_of_not_le (fun x => by
      have := Nat.pow_le_pow_right (show 0 < 2 by decide) x
      omega)
    obtain rfl : a = 1 := by omega
    have : Nat.log2 1 = 0 := by decide
    omega
  · omega
theorem wrap_s {k l s : Nat} (h : k + l ≤ 32) (hs : s = 32 - (k + l)) : IntKind.i64.wrap (32 - ((k : Int) + l)) = (s : Int) := by rw [IntKind.wrap_i64]; omega
theorem wrap_k {k l : Nat} (h : k ≤ 32) (h2 : l < 4) : IntKind.i64.wrap ((k : Int) + l) = ((k + l : Nat) : Int) := by rw [IntKind.wrap_i64]; omega
theorem wrap_b {B : Int} {b l : Nat} (h : B = ((b + 1 : Nat) : Int)) (hl : l + 16 * (b + 1) ≤ 100000) : IntKind.i64.wrap (B - 1) = (b : Int) := by
  subst h
  rw [IntKind.wrap_i64]
  omega
theorem wrap_b2 {B : Int} {b l : Nat} (h : B = ((b + 1 : Nat) : Int)) (hl : l + 16 * (b + 1) ≤ 100000) : wrap64 (B - 1) = (b : Int) := by
  have e : B - 1 = (b : Int) := by omega
  rw [e]
  exact wrap64_in (by omega) (by omega)
theorem asc_len : ∀ (l : List Nat) (lo : Nat), lo ≤ 16 → l.Pairwise (fun x y => x < y) → (∀ i ∈ l, lo ≤ i ∧ i < 16) → lo + l.length ≤ 16
  | [], lo, h, _, _ => by simpa using h
  | x :: l, lo, h, hp, hi => by
    have h1 := hi x List.mem_cons_self
    have h2 := asc_len l (x + 1) (by omega) (List.pairwise_cons.1 hp).2 (fun i m => ⟨(List.pairwise_cons.1 hp).1 i m, (hi i (List.mem_cons_of_mem _ m)).2⟩)
    simp only [List.length_cons]
    omega
theorem BitL.len {l : List Nat} (h : BitL l) : l.length ≤ 16 := by
  have := asc_len l 0 (by omega) h.asc (fun i m => ⟨Nat.zero_le _, h.lt i m⟩)
  omega
theorem or_hop {nn k ab l s : Nat} (hv : VP false nn k) (hkl : k + l ≤ 32) (hl : l < 4) (h : 2 ^ l ≤ ab ∧ ab - 2 ^ l < 2 ^ l) (hs : s = 32 - (k + l)) :
    bits .or .u64 (loOf nn) (IntKind.u64.wrap (IntKind.u64.wrap (IntKind.i64.wrap ((ab : Int) - IntKind.i64.wrap (2 ^ l))) * 2 ^ s)) = loOf (nn + (ab - 2 ^ l) * 2 ^ s) := by
  obtain ⟨d, hd⟩ : ∃ d, d = ab - 2 ^ l := ⟨_, rfl⟩
  have h8 : 2 ^ l ≤ 8 := Nat.le_trans (Nat.pow_le_pow_right (by decide) (show l ≤ 3 by omega)) (by decide)
  have e0 : ((2 : Int) ^ l) = ((2 ^ l : Nat) : Int) := by rw [Int.natCast_pow]; rfl
  have e1 : IntKind.i64.wrap ((2 : Int) ^ l) = ((2 ^ l : Nat) : Int) := by rw [e0, IntKind.wrap_i64]; omega
  have e2 : IntKind.i64.wrap ((ab : Int) - ((2 ^ l : Nat) : Int)) = (d : Int) := by rw [IntKind.wrap_i64]; omega
  have e3 : IntKind.u64.wrap (d : Int) = (d : Int) := by rw [IntKind.wrap_u64]; omega
  have e4 : (d : Int) * 2 ^ s = ((d * 2 ^ s : Nat) : Int) := by rw [Int.natCast_mul, Int.natCast_pow]; rfl
  have h9 : d * 2 ^ s < 2 ^ (32 - k) := by
    have : 2 ^ (32 - k) = 2 ^ l * 2 ^ s := by rw [← Nat.pow_add]; congr 1; omega
    rw [this]
    exact (Nat.mul_lt_mul_right (Nat.two_pow_pos s)).2 (by rw [hd]; exact h.2)
  have h10 : 2 ^ (32 - k) ≤ 4294967296 := Nat.le_trans (Nat.pow_le_pow_right (by decide) (Nat.sub_le 32 k)) (by decide)
  have e5 : IntKind.u64.wrap ((d * 2 ^ s : Nat) : Int) = ((d * 2 ^ s : Nat) : Int) := by rw [IntKind.wrap_u64]; omega
  have hn : nn < 4294967296 := hv.1
  have hc : nn / 2 ^ (32 - k) * 2 ^ (32 - k) = nn := hv.2.2
  have hor : nn ||| (d * 2 ^ s) = nn + d * 2 ^ s := by
    have h1 := Nat.two_pow_add_eq_or_of_lt h9 (nn / 2 ^ (32 - k))
    rw [Nat.mul_comm, hc] at h1
    exact h1.symm
  have hlt : nn + d * 2 ^ s < 18446744073709551616 := by omega
  unfold loOf
  rw [e1, e2, e3, e4, e5, ← hd, bits_or_u64_nat _ _ (by omega) (by omega), Nat.mod_eq_of_lt (show nn < 18446744073709551616 by omega), hor, Nat.mod_eq_of_lt hlt]
theorem ok_kid {l : List Nat} {a k : Nat} {Z : Prop} (ha : a ∈ l) (hk : k ≤ 32) (h4 : k % 4 = 0) (hc : ¬ (k = 32 ∧ (Z ∨ 0 < sumB l))) : k + 4 ≤ 32 := by
  by_cases e : k = 32
  · refine absurd ⟨e, .inr ?_⟩ hc
    exact Nat.lt_of_lt_of_le (Nat.two_pow_pos a) (mem_sumB ha)
  · omega
theorem or_kid {nn k a s : Nat} (hv : VP false nn k) (hk : k + 4 ≤ 32) (ha : a < 16) (hs : s = 32 - (k + 4)) :
    bits .or .u64 (loOf nn) (IntKind.u64.wrap ((a : Int) * 2 ^ s)) = loOf (nn + a * 2 ^ s) := by
  have e4 : (a : Int) * 2 ^ s = ((a * 2 ^ s : Nat) : Int) := by rw [Int.natCast_mul, Int.natCast_pow]; rfl
  have h9 : a * 2 ^ s < 2 ^ (32 - k) := by
    have : 2 ^ (32 - k) = 2 ^ 4 * 2 ^ s := by rw [← Nat.pow_add]; congr 1; omega
    rw [this]
    exact (Nat.mul_lt_mul_right (Nat.two_pow_pos s)).2 (by omega)
  have h10 : 2 ^ (32 - k) ≤ 4294967296 := Nat.le_trans (Nat.pow_le_pow_right (by decide) (Nat.sub_le 32 k)) (by decide)
  have e5 : IntKind.u64.wrap ((a * 2 ^ s : Nat) : Int) = ((a * 2 ^ s : Nat) : Int) := by rw [IntKind.wrap_u64]; omega
  have hn : nn < 4294967296 := hv.1
  have hc : nn / 2 ^ (32 - k) * 2 ^ (32 - k) = nn := hv.2.2
  have hor : nn ||| (a * 2 ^ s) = nn + a * 2 ^ s := by
    have h1 := Nat.two_pow_add_eq_or_of_lt h9 (nn / 2 ^ (32 - k))
    rw [Nat.mul_comm, hc] at h1
    exact h1.symm
  have hlt : nn + a * 2 ^ s < 18446744073709551616 := by omega
  unfold loOf
  rw [e4, e5, bits_or_u64_nat _ _ (by omega) (by omega), Nat.mod_eq_of_lt (show nn < 18446744073709551616 by omega), hor, Nat.mod_eq_of_lt hlt]
theorem vp_kid {nn k a s : Nat} (hv : VP false nn k) (hk : k + 4 ≤ 32) (ha : a < 16) (hs : s = 32 - (k + 4)) : VP false (nn + a * 2 ^ s) (k + 4) := by
  have hn : nn < 4294967296 := hv.1
  have hc : nn / 2 ^ (32 - k) * 2 ^ (32 - k) = nn := hv.2.2
  obtain ⟨q, hq⟩ : ∃ q, q = nn / 2 ^ (32 - k) := ⟨_, rfl⟩
  rw [← hq] at hc
  have e : 2 ^ (32 - k) = 16 * 2 ^ s := by rw [show 32 - k = 4 + s by omega, Nat.pow_add]
  have e2 : nn + a * 2 ^ s = (q * 16 + a) * 2 ^ s := by rw [← hc, e, Nat.add_mul, Nat.mul_assoc]
  have hql : q < 2 ^ k := by
    rw [hq]
    refine Nat.div_lt_of_lt_mul ?_
    rw [← Nat.pow_add, show 32 - k + k = 32 by omega]
    exact hn
  have h32 : 2 ^ (k + 4) * 2 ^ s = 4294967296 := by rw [← Nat.pow_add, show k + 4 + s = 32 by omega]
  refine ⟨?_, hk, ?_⟩
  · show nn + a * 2 ^ s < 4294967296
    rw [e2, ← h32]
    refine (Nat.mul_lt_mul_right (Nat.two_pow_pos s)).2 ?_
    rw [Nat.pow_add]
    omega
  · show (nn + a * 2 ^ s) / 2 ^ (32 - (k + 4)) * 2 ^ (32 - (k + 4)) = nn + a * 2 ^ s
    rw [← hs, e2, Nat.mul_div_cancel _ (Nat.two_pow_pos s)]
theorem wrap_k4 {k k4 : Nat} (h : k ≤ 32) (e : k4 = k + 4) : IntKind.i64.wrap ((k : Int) + 4) = (k4 : Int) := by rw [IntKind.wrap_i64]; omega
theorem wrap_s4 {k k4 s : Nat} (h : k + 4 ≤ 32) (e : k4 = k + 4) (hs : s = 32 - (k + 4)) : IntKind.i64.wrap (32 - (k4 : Int)) = (s : Int) := by rw [IntKind.wrap_i64]; omega
abbrev RL := List (Nat × Nat × Nat)
/-- Where the loop over kids stands. -/
def KidsAt (f : Nat → Nat → Nat → Nat → Option (RL × Nat)) (n k : Nat) (all : List (Nat × Nat)) (b0 m : Nat) (R : RL) (b : Nat) : Prop :=
  kidsF f n k all b0 = (kidsF f n k (all.drop m) b).map (fun s => (R ++ s.1, s.2))
theorem KidsAt.start (f : Nat → Nat → Nat → Nat → Option (RL × Nat)) (n k : Nat) (all : List (Nat × Nat)) (b0 : Nat) : KidsAt f n k all b0 0 [] b0 := by
  unfold KidsAt
  rw [List.drop_zero]
  cases kidsF f n k all b0 <;> rfl
theorem KidsAt.bad {f : Nat → Nat → Nat → Nat → Option (RL × Nat)} {n k : Nat} {all : List (Nat × Nat)} {b0 m : Nat} {R : RL} {b : Nat} (h : KidsAt f n k all b0 m R b) {p : Nat × Nat} (hp : all[m]? = some p)
    (hf : f b p.2 (n + p.1 * 2 ^ (32 - (k + 4))) (k + 4) = none) : kidsF f n k all b0 = none := by
  obtain ⟨hm, e⟩ := List.getElem?_eq_some_iff.1 hp
  unfold KidsAt at h
  rw [List.drop_eq_getElem_cons hm, e] at h
  rw [h]
  unfold kidsF
  rw [hf]
  rfl
theorem KidsAt.step {f : Nat → Nat → Nat → Nat → Option (RL × Nat)} {n k : Nat} {all : List (Nat × Nat)} {b0 m : Nat} {R : RL} {b : Nat} (h : KidsAt f n k all b0 m R b) {p : Nat × Nat} (hp : all[m]? = some p) {r : RL} {b1 : Nat}
    (hf : f b p.2 (n + p.1 * 2 ^ (32 - (k + 4))) (k + 4) = some (r, b1)) : KidsAt f n k all b0 (m + 1) (R ++ r) b1 := by
  obtain ⟨hm, e⟩ := List.getElem?_eq_some_iff.1 hp
  unfold KidsAt at h ⊢
  rw [List.drop_eq_getElem_cons hm, e] at h
  rw [h]
  conv => lhs; rw [kidsF]
  rw [hf]
  dsimp only
  cases kidsF f n k (all.drop (m + 1)) b1 with
  | none => rfl
  | some s => simp
theorem KidsAt.done {f : Nat → Nat → Nat → Nat → Option (RL × Nat)} {n k : Nat} {all : List (Nat × Nat)} {b0 m : Nat} {R : RL} {b : Nat} (h : KidsAt f n k all b0 m R b) (hm : all.length ≤ m) : kidsF f n k all b0 = some (R, b) := by
  unfold KidsAt at h
  rw [List.drop_of_length_le hm] at h
  rw [h]
  unfold kidsF
  simp
/-- What is told costs the budget. -/
theorem kidsF_len {f : Nat → Nat → Nat → Nat → Option (RL × Nat)} {n k : Nat} (hf : ∀ b i n k R b1, f b i n k = some (R, b1) → R.length + 16 * b1 ≤ 16 * b) : ∀ (l : List (Nat × Nat)) (b : Nat) (R : RL) (b1 : Nat), kidsF f n k l b = some (R, b1) → R.length + 16 * b1 ≤ 16 * b
  | [], b, R, b1, h => by
    unfold kidsF at h
    cases h
    simp
  | p :: l, b, R, b1, h => by
    unfold kidsF at h
    cases e : f b p.2 (n + p.1 * 2 ^ (32 - (k + 4))) (k + 4) with
    | none => rw [e] at h; cases h
    | some y =>
      obtain ⟨r, b2⟩ := y
      rw [e] at h
      dsimp only at h
      have h1 := hf _ _ _ _ _ _ e
      cases e2 : kidsF f n k l b2 with
      | none => rw [e2] at h; cases h
      | some z =>
        rw [e2] at h
        obtain ⟨r3, b3⟩ := z
        have h2 := kidsF_len hf l b2 r3 b3 e2
        cases h
        simp only [List.length_append]
        omega
theorem walkF_len {t : List NodeD} (ht : ∀ x ∈ t, x.ib.length ≤ 16) : ∀ (d b i n k : Nat) (R : RL) (b1 : Nat), walkF t d b i n k = some (R, b1) → R.length + 16 * b1 ≤ 16 * b
  | 0, b, i, n, k, R, b1, h => by unfold walkF at h; cases h
  | d + 1, b, i, n, k, R, b1, h => by
    unfold walkF at h
    cases hx : t[i]? with
    | none => rw [hx] at h; cases h
    | some x =>
      rw [hx] at h
      dsimp only at h
      by_cases hc : b = 0 ∨ x.ok k = false
      · rw [if_pos hc] at h; cases h
      · rw [if_neg hc] at h
        cases e2 : kidsF (walkF t d) n k (x.ob.zip x.kids) (b - 1) with
        | none => rw [e2] at h; cases h
        | some z =>
          rw [e2] at h
          obtain ⟨r3, b3⟩ := z
          have h2 := kidsF_len (walkF_len ht d) _ _ _ _ e2
          have h3 := ht x (List.mem_of_getElem? hx)
          cases h
          have h4 : (x.rts n k).length ≤ 16 := by unfold NodeD.rts; rw [List.length_map, List.length_zip]; omega
          simp only [List.length_append]
          omega
theorem rts_len16 {x : NodeD} {n k : Nat} (h : x.ib.length ≤ 16) : (x.rts n k).length ≤ 16 := by unfold NodeD.rts; rw [List.length_map, List.length_zip]; omega
theorem rts_take {x : NodeD} {n k m : Nat} (h : m = x.ib.length) : (x.rts n k).take m = x.rts n k := List.take_of_length_le (by unfold NodeD.rts; rw [List.length_map, List.length_zip]; omega)
end Go.Proofs.YtoecmoicaklbaaaDoor
