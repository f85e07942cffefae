
/- Rules: is there a prefix of a length that none of the rules fits? plain. -/
import Derived.Test.YtlcacocecdnpnaaSplit0
import Derived.Test.YtlcacocecdnpnaaPlain6
set_option linter.unusedVariables false
namespace Go.Proofs.Ytlcacocecdnpnaa
open Go.RowKit Go.Sort Wc Wk

instance (six : Bool) (n k m l : Nat) : Decidable (cov six n k m l) := by unfold cov; infer_instance
def hitR (n k wide : Nat) (r : RuleD) : Bool := decide (r.least ≤ wide) && decide (wide ≤ r.most) && decide (cov false r.n r.k n k)
def somR (n k wide : Nat) (r : RuleD) : Bool := decide (r.least ≤ wide) && decide (wide ≤ r.most) && decide (r.k ≤ wide) && decide (cov false n k r.n r.k)
/-- Is there a prefix of that length below it that no rule fits? -/
def freeF : Nat → List RuleD → Nat → Nat → Nat → Bool
  | 0, _, _, _, _ => true
  | f + 1, l, n, k, wide => if l.any (hitR n k wide) then false else
      if l.filter (somR n k wide) = [] then true else freeF f (l.filter (somR n k wide)) n (k + 1) wide || freeF f (l.filter (somR n k wide)) (halfN 32 n k 1) (k + 1) wide

theorem cov_trans' {n k m l o p : Nat} (hp : VP false n k) (hq : VP false m l) (h1 : cov false n k m l) (h2 : cov false m l o p) : cov false n k o p := by
  rw [cov_iff hp] at *
  rw [cov_iff hq] at h2
  exact ⟨Nat.le_trans h1.1 h2.1, (head_mono h2.2 h1.1 hq.2.1).trans h1.2⟩
theorem cov_comp {n k m l o p : Nat} (hp : VP false n k) (hq : VP false m l) (h1 : cov false n k o p) (h2 : cov false m l o p) : cov false n k m l ∨ cov false m l n k := by
  rw [cov_iff hp] at h1
  rw [cov_iff hq] at h2
  rw [cov_iff hp, cov_iff hq]
  rcases Nat.le_total k l with h | h
  · exact .inl ⟨h, ((head_mono h2.2 h hq.2.1).symm.trans h1.2)⟩
  · exact .inr ⟨h, ((head_mono h1.2 h hp.2.1).symm.trans h2.2)⟩
theorem cov_halves {n k m l : Nat} (hp : VP false n k) (hm : VP false m l) (h : k < l) (hl : l ≤ 32) : cov false n k m l ↔ cov false n (k + 1) m l ∨ cov false (halfN 32 n k 1) (k + 1) m l := by
  have hk : k < wd false := by show k < 32; omega
  have hv := half_vp hp hk
  have hh := half_heads hp hk
  have e := div_step (m) (wd false - (k + 1))
  rw [show wd false - (k + 1) + 1 = wd false - k from by show 32 - (k + 1) + 1 = 32 - k; omega] at e
  rw [cov_iff hp, cov_iff hv.1, show halfN 32 n k 1 = halfN (wd false) n k 1 from rfl, cov_iff hv.2, hh.1, hh.2]
  constructor
  · rintro ⟨_, h2⟩
    rw [h2] at e
    rcases Nat.mod_two_eq_zero_or_one (m / 2 ^ (wd false - (k + 1))) with h3 | h3
    · exact .inl ⟨h, by omega⟩
    · exact .inr ⟨h, by omega⟩
  · rintro (⟨_, h2⟩ | ⟨_, h2⟩)
    · exact ⟨by omega, by omega⟩
    · exact ⟨by omega, by omega⟩

theorem some_lt {n k wide : Nat} {l : List RuleD} (hok : ∀ q ∈ l, RuleD.ok q) (hp : VP false n k) (hit : l.any (hitR n k wide) = false) (hs : l.filter (somR n k wide) ≠ []) : k < wide := by
  obtain ⟨r, hr⟩ := List.exists_mem_of_ne_nil _ hs
  rw [List.mem_filter] at hr
  have h1 := (List.any_eq_false.1 hit) r hr.1
  have h2 := hr.2
  have ho := hok r hr.1
  unfold hitR at h1
  unfold somR at h2
  simp only [Bool.and_eq_true, decide_eq_true_eq] at h1 h2
  obtain ⟨⟨⟨a, b⟩, c⟩, d⟩ := h2
  have hd := d.1
  rcases Nat.lt_or_ge k r.k with h | h
  · omega
  · exfalso
    have e : k = r.k := by omega
    apply h1
    refine ⟨⟨a, b⟩, ?_⟩
    have := cov_self hp
    rw [cov_iff hp] at d
    rw [cov_iff ho.1]
    exact ⟨by omega, by rw [← e]; exact d.2.symm⟩

/-- What 'free' says. -/
theorem free_iff : ∀ (f : Nat) (l : List RuleD) (n k wide : Nat), (∀ q ∈ l, RuleD.ok q) → VP false n k → k ≤ wide → wide ≤ 32 → wide - k < f →
    (freeF f l n k wide = true ↔ ∃ m, VP false m wide ∧ cov false n k m wide ∧ ∀ r ∈ l, ¬ r.fits m wide)
  | 0, _, _, _, _, _, _, _, _, h => by omega
  | f + 1, l, n, k, wide, hok, hp, hk, hw, hf => by
    unfold freeF
    by_cases hit : l.any (hitR n k wide) = true
    · rw [if_pos hit]
      constructor
      · intro h; cases h
      · rintro ⟨m, hm, hc, hn⟩
        obtain ⟨r, hr, hh⟩ := List.any_eq_true.1 hit
        unfold hitR at hh
        simp only [Bool.and_eq_true, decide_eq_true_eq] at hh
        exact absurd ⟨hh.1.1, hh.1.2, cov_trans' (hok r hr).1 hp hh.2 hc⟩ (hn r hr)
    · rw [if_neg hit]
      have hit' : l.any (hitR n k wide) = false := by simpa using hit
      have key : ∀ m, VP false m wide → cov false n k m wide → ((∀ r ∈ l, ¬ r.fits m wide) ↔ ∀ r ∈ l.filter (somR n k wide), ¬ r.fits m wide) := by
        intro m hm hc
        constructor
        · exact fun h r hr => h r (List.mem_filter.1 hr).1
        · intro h r hr hfit
          refine h r (List.mem_filter.2 ⟨hr, ?_⟩) hfit
          obtain ⟨a, b, c⟩ := hfit
          have hno := (List.any_eq_false.1 hit') r hr
          unfold hitR at hno
          unfold somR
          simp only [Bool.and_eq_true, decide_eq_true_eq] at hno ⊢
          refine ⟨⟨⟨a, b⟩, c.1⟩, ?_⟩
          rcases cov_comp (hok r hr).1 hp c hc with h | h
          · exact absurd ⟨⟨a, b⟩, h⟩ hno
          · exact h
      by_cases hs : l.filter (somR n k wide) = []
      · rw [if_pos hs]
        refine ⟨fun _ => ⟨n, ?_, ?_, ?_⟩, fun _ => rfl⟩
        · refine ⟨hp.1, hw, ?_⟩
          have := cut_cut (wd false) n k wide hk hw
          have h2 := hp.2.2
          have hd := dvd_of_cut h2
          unfold cutN
          have e : 2 ^ (wd false - k) = 2 ^ (wd false - wide) * 2 ^ (wide - k) := by rw [← Nat.pow_add]; congr 1; show 32 - k = _; have : wd false = 32 := rfl; omega
          rw [e] at hd
          have : n % 2 ^ (wd false - wide) = 0 := by
            rw [Nat.mod_mul] at hd
            omega
          exact Nat.div_mul_cancel (Nat.dvd_of_mod_eq_zero this)
        · rw [cov_iff hp]; exact ⟨hk, rfl⟩
        · have hv : VP false n wide := by
            refine ⟨hp.1, hw, ?_⟩
            have hd := dvd_of_cut hp.2.2
            have e : 2 ^ (wd false - k) = 2 ^ (wd false - wide) * 2 ^ (wide - k) := by rw [← Nat.pow_add]; congr 1; have : wd false = 32 := rfl; omega
            rw [e] at hd
            have : n % 2 ^ (wd false - wide) = 0 := by
              rw [Nat.mod_mul] at hd
              omega
            exact Nat.div_mul_cancel (Nat.dvd_of_mod_eq_zero this)
          rw [key n hv (by rw [cov_iff hp]; exact ⟨hk, rfl⟩), hs]
          simp
      · rw [if_neg hs]
        have hlt := some_lt hok hp hit' hs
        have hk32 : k < wd false := by show k < 32; omega
        have hv := half_vp hp hk32
        have hoks : ∀ q ∈ l.filter (somR n k wide), RuleD.ok q := fun q hq => hok q (List.mem_filter.1 hq).1
        have i0 := free_iff f (l.filter (somR n k wide)) n (k + 1) wide hoks hv.1 (by omega) hw (by omega)
        have i1 := free_iff f (l.filter (somR n k wide)) (halfN 32 n k 1) (k + 1) wide hoks hv.2 (by omega) hw (by omega)
        rw [Bool.or_eq_true, i0, i1]
        constructor
        · rintro (⟨m, a, b, c⟩ | ⟨m, a, b, c⟩)
          · have hc := (cov_halves hp a hlt hw).2 (.inl b)
            exact ⟨m, a, hc, (key m a hc).2 c⟩
          · have hc := (cov_halves hp a hlt hw).2 (.inr b)
            exact ⟨m, a, hc, (key m a hc).2 c⟩
        · rintro ⟨m, a, b, c⟩
          have c' := (key m a b).1 c
          rcases (cov_halves hp a hlt hw).1 b with h | h
          · exact .inl ⟨m, a, h, c'⟩
          · exact .inr ⟨m, a, h, c'⟩
end Go.Proofs.Ytlcacocecdnpnaa
