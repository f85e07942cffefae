
/- TableTold: plain. -/
import Derived.Test.YteadfobfenopkaaMkA
import Derived.Test.YteadfobfenopkaaQ7
set_option linter.unusedVariables false
namespace Go.Proofs.Yteadfobfenopkaa
open Go Go.RowKit Wc Wk

theorem tstep_len (L : List (Nat × Nat × Nat)) (t : TabOk L) (x : ActD) : (tstep L x).1.length ≤ L.length + 1 := by
  unfold tstep
  split
  · exact Nat.le_succ _
  · split
    · exact Nat.le_succ_of_le (List.length_filter_le _ _)
    · split
      · exact Nat.le_succ _
      · split
        · exact Nat.le_succ _
        · show (putL _ _ _ _).length ≤ _
          rw [len_putL t.srt t.hops]
          split <;> omega
theorem tend_len : ∀ {L : List (Nat × Nat × Nat)} (t : TabOk L) {l : List ActD}, (∀ x ∈ l, x.fit) → (tend L l).length ≤ L.length + l.length
  | L, t, [], _ => Nat.le_refl _
  | L, t, x :: l, h => by
    have h1 := tend_len (t.step (h x List.mem_cons_self)) (l := l) (fun y hy => h y (List.mem_cons_of_mem _ hy))
    have h2 := tstep_len L t x
    show (tend (tstep L x).1 l).length ≤ L.length + (l.length + 1)
    omega
/-- What a step does to what a prefix has. -/
theorem told_step {L : List (Nat × Nat × Nat)} (t : TabOk L) {x : ActD} (hx : x.fit) (n k : Nat) :
    (¬ (x.n = n ∧ x.k = k) → hasL (tstep L x).1 n k = hasL L n k) ∧
    ((tstep L x).2.code ≠ 0 → hasL (tstep L x).1 n k = hasL L n k) ∧
    (x.kind = 1 → x.n = n → x.k = k → (tstep L x).2.code = 0 → hasL (tstep L x).1 n k = x.hop) ∧
    (x.kind = 2 → x.n = n → x.k = k → hasL (tstep L x).1 n k = 0) ∧
    (x.kind ≠ 1 → x.kind ≠ 2 → hasL (tstep L x).1 n k = hasL L n k) := by
  have hp := fun h0 => hasL_put t.srt t.hops (n := x.n) (k := x.k) (h := x.hop) h0 n k
  have hc := hasL_cut t.srt t.hops x.n x.k n k
  unfold tstep
  split
  · rename_i h3
    exact ⟨fun _ => rfl, fun _ => rfl, fun h => absurd h (by omega), fun h => absurd h (by omega), fun _ _ => rfl⟩
  · rename_i h3
    split
    · rename_i h2
      refine ⟨fun h => ?_, fun h => ?_, fun h => absurd h (by omega), fun _ e1 e2 => ?_, fun _ h => absurd h2 h⟩
      · dsimp only; rw [hc, if_neg (fun e => h ⟨e.1.symm, e.2.symm⟩)]
      · dsimp only at h ⊢
        rw [hc]
        split
        · rename_i e
          unfold hadA at h
          split at h
          · rename_i h0; rw [e.1, e.2]; exact h0.symm
          · exact absurd rfl h
        · rfl
      · dsimp only; rw [hc, if_pos ⟨e1.symm, e2.symm⟩]
    · rename_i h2
      split
      · rename_i h4
        exact ⟨fun _ => rfl, fun _ => rfl, fun h => absurd h (by omega), fun h => absurd h h2, fun _ _ => rfl⟩
      · rename_i h4
        have hk : x.kind = 1 := by have := hx.kd; omega
        have h0 : x.hop ≠ 0 := by have := hx.hop hk; omega
        split
        · rename_i hf
          refine ⟨fun _ => rfl, fun _ => rfl, fun _ _ _ h => absurd (show (9 : Nat) = 0 from h) (by decide), fun h => absurd h h2, fun _ _ => rfl⟩
        · refine ⟨fun h => ?_, fun h => absurd rfl h, fun _ e1 e2 _ => ?_, fun h => absurd h h2, fun h => absurd hk h⟩
          · dsimp only; rw [hp h0, if_neg (fun e => h ⟨e.1.symm, e.2.symm⟩)]
          · dsimp only; rw [hp h0, if_pos ⟨e1.symm, e2.symm⟩]
/-- The last act of the law: a Put of hop 9, or a Cut. -/
def LastA (la : ActD) (n k : Nat) : Prop := la = ⟨1, n, k, 9, 0⟩ ∨ la = ⟨2, n, k, 0, 0⟩
theorem lastA_fit {la : ActD} {n k : Nat} (h : LastA la n k) (hp : VP false n k) : la.fit := by
  rcases h with rfl | rfl
  · exact ⟨hp, fits0, (by decide : 1 ≤ 1 ∧ 1 ≤ 4), fun _ => (by decide : 1 ≤ 9), (by decide : 9 ≤ 999)⟩
  · exact ⟨hp, fits0, (by decide : 1 ≤ 2 ∧ 2 ≤ 4), (fun h => by cases h), (by decide : 0 ≤ 999)⟩
theorem get_fit {n k : Nat} (hp : VP false n k) : ActD.fit ⟨4, n, k, 0, 0⟩ := ⟨hp, fits0, (by decide : 1 ≤ 4 ∧ 4 ≤ 4), (fun h => by cases h), (by decide : 0 ≤ 999)⟩
/-- What the three last acts are told. -/
theorem told_last (l : List ActD) (hl : ∀ x ∈ l, x.fit) (hn : l.length ≤ 50) {n k : Nat} (hp : VP false n k) (h : Nat) (hh : hasL (tend [] l) n k = h) :
    (trun [] (l ++ [⟨4, n, k, 0, 0⟩, ⟨1, n, k, 9, 0⟩, ⟨4, n, k, 0, 0⟩]) = trun [] l ++ [hadA h k, ⟨0, h, 0⟩, ⟨0, 9, k⟩]) ∧
    (trun [] (l ++ [⟨4, n, k, 0, 0⟩, ⟨2, n, k, 0, 0⟩, ⟨4, n, k, 0, 0⟩]) = trun [] l ++ [hadA h k, hadA h 0, ⟨7, 0, 0⟩]) := by
  have t := tend_ok TabOk.nil hl
  have hlen := tend_len TabOk.nil hl
  simp only [List.length_nil, Nat.zero_add] at hlen
  subst hh
  have gg : ∀ L, tstep L ⟨4, n, k, 0, 0⟩ = (L, hadA (hasL L n k) k) := fun L => rfl
  constructor
  · rw [trun_app]
    congr 1
    have e : tstep (tend [] l) ⟨1, n, k, 9, 0⟩ = (putL (tend [] l) n k 9, ⟨0, hasL (tend [] l) n k, 0⟩) := by
      unfold tstep
      simp only [Nat.reduceEqDiff, if_false]
      rw [if_neg (by omega)]
    show [(tstep _ _).2, (tstep (tstep _ _).1 _).2, (tstep (tstep (tstep _ _).1 _).1 _).2] = _
    rw [gg, e, gg]
    rw [hasL_put t.srt t.hops (by decide), if_pos ⟨rfl, rfl⟩]
    rfl
  · rw [trun_app]
    congr 1
    have e : tstep (tend [] l) ⟨2, n, k, 0, 0⟩ = (cutL (tend [] l) n k, hadA (hasL (tend [] l) n k) 0) := rfl
    show [(tstep _ _).2, (tstep (tstep _ _).1 _).2, (tstep (tstep (tstep _ _).1 _).1 _).2] = _
    rw [gg, e, gg]
    rw [hasL_cut t.srt t.hops, if_pos ⟨rfl, rfl⟩]
    rfl
end Go.Proofs.Yteadfobfenopkaa
