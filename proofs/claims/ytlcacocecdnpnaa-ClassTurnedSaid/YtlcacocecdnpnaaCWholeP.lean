
/- Matches: do they fit all flows between two prefixes? plain. -/
import Derived.Test.YtlcacocecdnpnaaCls5
set_option linter.unusedVariables false
namespace Go.Proofs.Ytlcacocecdnpnaa
open Go.RowKit Go.Sort Wc Wk

def hitM (n k m j : Nat) (q : MatchD) : Bool := decide (cov false q.n q.k n k) && decide (cov false q.m q.l m j)
def somM (n k m j : Nat) (q : MatchD) : Bool := (decide (cov false q.n q.k n k) || decide (cov false n k q.n q.k)) && (decide (cov false q.m q.l m j) || decide (cov false m j q.m q.l))
def wholeF : Nat → List MatchD → Nat → Nat → Nat → Nat → Bool
  | 0, _, _, _, _, _ => false
  | f + 1, l, n, k, m, j => if l.any (hitM n k m j) then true else
      if l.filter (somM n k m j) = [] then false else
        if (l.filter (somM n k m j)).any (fun q => decide (k < q.k)) then wholeF f (l.filter (somM n k m j)) n (k + 1) m j && wholeF f (l.filter (somM n k m j)) (halfN 32 n k 1) (k + 1) m j
        else wholeF f (l.filter (somM n k m j)) n k m (j + 1) && wholeF f (l.filter (somM n k m j)) n k (halfN 32 m j 1) (j + 1)

theorem cut_of_cov {n k m l a : Nat} (hp : VP false n k) (hq : VP false m l) (h : cov false n k m l) (ha : cutN 32 a l = m) : cutN 32 a k = n := by
  have e1 := (has_iff (six := false) hq).1 ha
  have e2 := (cov_iff hp).1 h
  exact (has_iff (six := false) hp).2 ((head_mono e1 e2.1 hq.2.1).trans e2.2)
theorem cov_of_cuts {n k m l a : Nat} (hp : VP false n k) (hq : VP false m l) (h1 : cutN 32 a k = n) (h2 : cutN 32 a l = m) : cov false n k m l ∨ cov false m l n k := by
  have e1 := (has_iff (six := false) hp).1 h1
  have e2 := (has_iff (six := false) hq).1 h2
  rw [cov_iff hp, cov_iff hq]
  rcases Nat.le_total k l with h | h
  · exact .inl ⟨h, (head_mono e2 h hq.2.1).symm.trans e1⟩
  · exact .inr ⟨h, (head_mono e1 h hp.2.1).symm.trans e2⟩
theorem cut_self {n k : Nat} (hp : VP false n k) : cutN 32 n k = n := hp.2.2
theorem in_half {n k a : Nat} (hp : VP false n k) (hk : k < 32) : cutN 32 a k = n ↔ cutN 32 a (k + 1) = n ∨ cutN 32 a (k + 1) = halfN 32 n k 1 := by
  have hv := half_vp (six := false) hp (show k < wd false from hk)
  have hh := half_heads (six := false) hp (show k < wd false from hk)
  have e := div_step a (32 - (k + 1))
  rw [show 32 - (k + 1) + 1 = 32 - k by omega] at e
  have i0 := has_iff (six := false) (a := a) hp
  have i1 := has_iff (six := false) (a := a) hv.1
  have i2 := has_iff (six := false) (a := a) hv.2
  rw [hh.1] at i1
  rw [hh.2] at i2
  have i0' : cutN 32 a k = n ↔ a / 2 ^ (32 - k) = n / 2 ^ (32 - k) := i0
  have i1' : cutN 32 a (k + 1) = n ↔ a / 2 ^ (32 - (k + 1)) = 2 * (n / 2 ^ (32 - k)) := i1
  have i2' : cutN 32 a (k + 1) = halfN 32 n k 1 ↔ a / 2 ^ (32 - (k + 1)) = 2 * (n / 2 ^ (32 - k)) + 1 := i2
  rw [i0', i1', i2']
  rcases Nat.mod_two_eq_zero_or_one (a / 2 ^ (32 - (k + 1))) with h | h <;> constructor <;> intro h2
  · left; omega
  · omega
  · right; omega
  · omega
def Whole (l : List MatchD) (n k m j : Nat) : Prop := ∀ a b, cutN 32 a k = n → cutN 32 b j = m → ∃ q ∈ l, q.fits a b
theorem whole_hit {l : List MatchD} {n k m j : Nat} (hok : ∀ q ∈ l, q.ok) (hp : VP false n k) (hq : VP false m j) (h : l.any (hitM n k m j) = true) : Whole l n k m j := by
  intro a b ha hb
  obtain ⟨q, hql, hh⟩ := List.any_eq_true.1 h
  unfold hitM at hh
  simp only [Bool.and_eq_true, decide_eq_true_eq] at hh
  have ho := hok q hql
  exact ⟨q, hql, cut_of_cov ho.1 hp hh.1 ha, cut_of_cov ho.2.1 hq hh.2 hb⟩
theorem whole_filter {l : List MatchD} {n k m j : Nat} (hok : ∀ q ∈ l, q.ok) (hp : VP false n k) (hq : VP false m j) : Whole (l.filter (somM n k m j)) n k m j ↔ Whole l n k m j := by
  constructor
  · intro h a b ha hb
    obtain ⟨q, hql, hf⟩ := h a b ha hb
    exact ⟨q, (List.mem_filter.1 hql).1, hf⟩
  · intro h a b ha hb
    obtain ⟨q, hql, hf⟩ := h a b ha hb
    have ho := hok q hql
    refine ⟨q, List.mem_filter.2 ⟨hql, ?_⟩, hf⟩
    unfold somM
    simp only [Bool.and_eq_true, Bool.or_eq_true, decide_eq_true_eq]
    exact ⟨cov_of_cuts ho.1 hp hf.1 ha, cov_of_cuts ho.2.1 hq hf.2 hb⟩
theorem whole_left {l : List MatchD} {n k m j : Nat} (hp : VP false n k) (hk : k < 32) : Whole l n k m j ↔ Whole l n (k + 1) m j ∧ Whole l (halfN 32 n k 1) (k + 1) m j := by
  constructor
  · intro h
    exact ⟨fun a b ha hb => h a b ((in_half hp hk).2 (.inl ha)) hb, fun a b ha hb => h a b ((in_half hp hk).2 (.inr ha)) hb⟩
  · rintro ⟨h1, h2⟩ a b ha hb
    rcases (in_half hp hk).1 ha with h | h
    · exact h1 a b h hb
    · exact h2 a b h hb
theorem whole_right {l : List MatchD} {n k m j : Nat} (hp : VP false m j) (hk : j < 32) : Whole l n k m j ↔ Whole l n k m (j + 1) ∧ Whole l n k (halfN 32 m j 1) (j + 1) := by
  constructor
  · intro h
    exact ⟨fun a b ha hb => h a b ha ((in_half hp hk).2 (.inl hb)), fun a b ha hb => h a b ha ((in_half hp hk).2 (.inr hb))⟩
  · rintro ⟨h1, h2⟩ a b ha hb
    rcases (in_half hp hk).1 hb with h | h
    · exact h1 a b ha h
    · exact h2 a b ha h
/-- What is left where none hits: some side can be halved. -/
theorem som_lt {l : List MatchD} {n k m j : Nat} (hok : ∀ q ∈ l, q.ok) (hp : VP false n k) (hq : VP false m j) (hit : l.any (hitM n k m j) = false) (hs : l.filter (somM n k m j) ≠ []) :
    ((l.filter (somM n k m j)).any (fun q => decide (k < q.k)) = true → k < 32) ∧ ((l.filter (somM n k m j)).any (fun q => decide (k < q.k)) = false → j < 32) := by
  constructor
  · intro h
    obtain ⟨q, hql, hh⟩ := List.any_eq_true.1 h
    have ho := hok q (List.mem_filter.1 hql).1
    have : q.k ≤ 32 := ho.1.2.1
    simp only [decide_eq_true_eq] at hh
    omega
  · intro h
    obtain ⟨q, hql⟩ := List.exists_mem_of_ne_nil _ hs
    have hn := (List.any_eq_false.1 h) q hql
    rw [List.mem_filter] at hql
    obtain ⟨hl, hso⟩ := hql
    have ho := hok q hl
    have h1 := (List.any_eq_false.1 hit) q hl
    unfold hitM at h1
    unfold somM at hso
    simp only [Bool.and_eq_true, Bool.or_eq_true, decide_eq_true_eq] at h1 hso hn
    obtain ⟨s1, s2⟩ := hso
    have c1 : cov false q.n q.k n k := by
      rcases s1 with s | s
      · exact s
      · have : k ≤ q.k := s.1
        have e : k = q.k := by omega
        have h2 := (cov_iff hp).1 s
        rw [cov_iff ho.1, ← e]
        exact ⟨Nat.le_refl _, h2.2.symm⟩
    have c2 : ¬ cov false q.m q.l m j := fun c2 => h1 ⟨c1, c2⟩
    rcases s2 with s | s
    · exact absurd s c2
    · have hl32 : q.l ≤ 32 := ho.2.1.2.1
      have hle : j ≤ q.l := s.1
      rcases Nat.lt_or_ge j q.l with h | h
      · omega
      · exfalso
        have e : j = q.l := by omega
        have h2 := (cov_iff hq).1 s
        refine c2 ?_
        rw [cov_iff ho.2.1, ← e]
        exact ⟨Nat.le_refl _, h2.2.symm⟩
theorem wholeF_iff : ∀ (f : Nat) (l : List MatchD) (n k m j : Nat), (∀ q ∈ l, q.ok) → VP false n k → VP false m j → 64 < f + k + j → (wholeF f l n k m j = true ↔ Whole l n k m j)
  | 0, l, n, k, m, j, hok, hp, hq, hf => by
    have h1 : k ≤ 32 := hp.2.1
    have h2 : j ≤ 32 := hq.2.1
    omega
  | f + 1, l, n, k, m, j, hok, hp, hq, hf => by
    unfold wholeF
    by_cases hit : l.any (hitM n k m j) = true
    · rw [if_pos hit]
      exact ⟨fun _ => whole_hit hok hp hq hit, fun _ => rfl⟩
    · rw [if_neg hit]
      have hit' : l.any (hitM n k m j) = false := by simpa using hit
      have hoks : ∀ q ∈ l.filter (somM n k m j), q.ok := fun q h => hok q (List.mem_filter.1 h).1
      rw [← whole_filter hok hp hq]
      by_cases hs : l.filter (somM n k m j) = []
      · rw [if_pos hs, hs]
        refine ⟨fun h => (by cases h), fun h => ?_⟩
        obtain ⟨q, hq2, _⟩ := h n m (cut_self hp) (cut_self hq)
        cases hq2
      · rw [if_neg hs]
        obtain ⟨l1, l2⟩ := som_lt hok hp hq hit' hs
        by_cases hc : (l.filter (somM n k m j)).any (fun q => decide (k < q.k)) = true
        · rw [if_pos hc, Bool.and_eq_true]
          have hv := half_vp (six := false) hp (show k < wd false from l1 hc)
          rw [wholeF_iff f _ n (k + 1) m j hoks hv.1 hq (by omega), wholeF_iff f _ (halfN 32 n k 1) (k + 1) m j hoks hv.2 hq (by omega), ← whole_left hp (l1 hc)]
        · rw [if_neg hc, Bool.and_eq_true]
          have hc' : (l.filter (somM n k m j)).any (fun q => decide (k < q.k)) = false := by simpa using hc
          have hv := half_vp (six := false) hq (show j < wd false from l2 hc')
          rw [wholeF_iff f _ n k m (j + 1) hoks hp hv.1 (by omega), wholeF_iff f _ n k (halfN 32 m j 1) (j + 1) hoks hp hv.2 (by omega), ← whole_right hq (l2 hc')]
end Go.Proofs.Ytlcacocecdnpnaa
