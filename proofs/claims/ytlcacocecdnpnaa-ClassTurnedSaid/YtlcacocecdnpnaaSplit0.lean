
/- RulesSplit: what rules say, rule by rule. -/
import Derived.Test.YtlcacocecdnpnaaJust
import Derived.Test.YtlcacocecdnpnaaKit2
set_option linter.unusedVariables false
namespace Go.Proofs.Ytlcacocecdnpnaa
open Go.RowKit Go.Sort Wc Wk

theorem passY_nil (n k : Nat) : passY [] n k = false := rfl
theorem passY_cons (r : RuleD) (rs : List RuleD) (n k : Nat) : passY (r :: rs) n k = if r.fits n k then r.yes else passY rs n k := by
  unfold passY
  by_cases h : r.fits n k
  · simp [List.findIdx?_cons, h]
  · simp only [List.findIdx?_cons, h]
    cases hx : rs.findIdx? (fun r => decide (r.fits n k)) <;> simp
theorem passY_pre {n k : Nat} {xs ys : List RuleD} (h : passY xs n k = passY ys n k) : ∀ P : List RuleD, passY (P ++ xs) n k = passY (P ++ ys) n k
  | [] => h
  | p :: P => by rw [List.cons_append, List.cons_append, passY_cons, passY_cons, passY_pre h P]
theorem passY_split (P S : List RuleD) (r : RuleD) (mid n k : Nat) (h1 : r.least ≤ mid) (h2 : mid < r.most) :
    passY ((P ++ [(⟨r.yes, r.n, r.k, r.least, mid⟩ : RuleD)]) ++ [(⟨r.yes, r.n, r.k, mid + 1, r.most⟩ : RuleD)] ++ S) n k = passY (P ++ r :: S) n k := by
  rw [List.append_assoc, List.append_assoc]
  refine passY_pre ?_ P
  simp only [List.cons_append, List.nil_append, passY_cons]
  have e : r.fits n k ↔ (RuleD.fits ⟨r.yes, r.n, r.k, r.least, mid⟩ n k ∨ RuleD.fits ⟨r.yes, r.n, r.k, mid + 1, r.most⟩ n k) := by
    unfold RuleD.fits
    constructor
    · rintro ⟨a, b, c⟩
      by_cases hm : k ≤ mid
      · exact .inl ⟨a, hm, c⟩
      · exact .inr ⟨by show mid + 1 ≤ k; omega, b, c⟩
    · rintro (⟨a, b, c⟩ | ⟨a, b, c⟩)
      · exact ⟨a, by have : k ≤ mid := b; omega, c⟩
      · exact ⟨by have : mid + 1 ≤ k := a; omega, b, c⟩
  by_cases x : RuleD.fits ⟨r.yes, r.n, r.k, r.least, mid⟩ n k
  · rw [if_pos x, if_pos (e.2 (.inl x))]
  · by_cases y : RuleD.fits ⟨r.yes, r.n, r.k, mid + 1, r.most⟩ n k
    · rw [if_neg x, if_pos y, if_pos (e.2 (.inr y))]
    · rw [if_neg x, if_neg y, if_neg (fun z => (e.1 z).elim x y)]
theorem passY_one_of (P S : List RuleD) (r : RuleD) (mid n k : Nat) (h2 : mid = r.most) :
    passY ((P ++ [(⟨r.yes, r.n, r.k, r.least, mid⟩ : RuleD)]) ++ S) n k = passY (P ++ r :: S) n k := by
  subst h2
  rw [List.append_assoc]; rfl
end Go.Proofs.Ytlcacocecdnpnaa
