
/- Small laws of my own, the second part. -/
import Derived.Test.YticfcigkldkhmaaSl3
set_option linter.unusedVariables false
namespace Wk
open Go Go.RowKit Go.Sort
theorem bcellB {B : Nat} {W w1 : World} (hb : Below B W w1) : (∀ b o, b < B → w1.cell? ⟨b, o, none⟩ = W.cell? ⟨b, o, none⟩) ∧ (∀ b o, b < B → w1.frozen? ⟨b, o, none⟩ = W.frozen? ⟨b, o, none⟩) :=
  ⟨fun b o h => hb.cell (p := ⟨b, o, none⟩) h, fun b o h => hb.frozen (p := ⟨b, o, none⟩) h⟩
theorem Below.stepG {B B' : Nat} {a W W' : World} (h : Below B a W) (k : Below B' W W') (hB : B ≤ B') : Below B a W' := h.trans (k.mono hB)
theorem Below.stepB {B : Nat} {w W W' : World} (h : Below w.heap.size w W) (k : Below B W W') (hB : w.heap.size ≤ B) : Below w.heap.size w W' := h.trans (k.mono hB)
theorem Sl.shape {w : World} {sz : Nat} {v : Value} {xs : List (List Value)} (h : Sl w sz v xs) : ∃ a cap, v = .slice a xs.length cap ∧ xs.length ≤ cap ∧ cap ≤ 9223372036854775807 := by
  obtain ⟨_, a, cap, hv, h1, h2, _⟩ := h
  exact ⟨a, cap, hv, h1, by unfold maxLen at h2; exact h2⟩
theorem Sl.empty (w : World) (sz : Nat) (a : Option Addr) (cap : Nat) (h : cap ≤ 9223372036854775807) : Sl w sz (.slice a 0 cap) [] :=
  ⟨by simp, a, cap, rfl, Nat.zero_le _, by unfold maxLen; exact h, fun h => absurd rfl h⟩
/-- What lies behind the first k, in both the forms that an address takes. -/
theorem Sl.behind {w : World} {sz : Nat} {b off n cap : Nat} {xs : List (List Value)} (h : Sl w sz (.slice (some ⟨b, off, none⟩) n cap) xs) (k : Nat) (hk : k ≤ xs.length) :
    (cap = k ∧ n = k ∧ xs.drop k = [] ∧ Sl w sz (.slice (some ⟨b, off, none⟩) 0 0) (xs.drop k)) ∨ (cap ≠ k ∧ Sl w sz (.slice (some ⟨b, off + k * sz, none⟩) (n - k) (cap - k)) (xs.drop k)) := by
  by_cases hc : cap = k
  · obtain ⟨_, a', cap', hv, h1, h2, _⟩ := id h
    simp only [Value.slice.injEq] at hv
    obtain ⟨_, rfl, rfl⟩ := hv
    have e : xs.drop k = [] := List.drop_eq_nil_of_le (by omega)
    refine .inl ⟨hc, by omega, e, ?_⟩
    rw [e]
    exact Sl.empty _ _ _ _ (by decide)
  · exact .inr ⟨hc, h.drop k hk⟩
end Wk
