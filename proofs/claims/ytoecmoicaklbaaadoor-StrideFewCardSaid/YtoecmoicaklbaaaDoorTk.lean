
/- In a region that draws its order: a call that leaves the world as it is may be taken first. -/
import Derived.Test.YtoecmoicaklbaaaDoorKit
import Derived.OrdersHeld
set_option linter.unusedVariables false
namespace Wk
open Go Go.RowKit Go.Sort
section
variable {P : Program} {ops : Array Oper} {Q : Exit → Act → World → Prop} {md : Region.Mode} {S : World → Prop}
/-- In state a, in every world that meets S, o comes to v and leaves the world as it is. -/
def TakesIf (P : Program) (ops : Array Oper) (Q : Exit → Act → World → Prop) (S : World → Prop) (o : Oper) (v : Value) (a : Act) : Prop :=
  Region.wanted o (yielded ops a.tmps) = true ∧ ∀ a' : Act, execOp a'.eval o = execOp a.eval o → ∀ (K : Act → World → Prop) (w : World), S w → K (a'.put o.dst v) w → o.wp P a' w K Q
theorem TakesIf.same {o : Oper} {v : Value} {a a' : Act} (h : TakesIf P ops Q S o v a) (he : execOp a'.eval o = execOp a.eval o) (hw : Region.wanted o (yielded ops a'.tmps) = Region.wanted o (yielded ops a.tmps)) : TakesIf P ops Q S o v a' :=
  ⟨hw.trans h.1, fun b hb => h.2 b (hb.trans he)⟩
theorem TakesIf.op {i : Nat} {o : Oper} {v : Value} {a : Act} (hi : ops[i]? = some o) (h : TakesIf P ops Q S o v a) {K : Act → World → Prop} {w : World} (hS : S w) (hk : K (a.put o.dst v) w) : wpOp P ops Q i K a w := by
  unfold wpOp
  simp only [hi, h.1, if_true]
  exact .inl (h.2 a rfl K w hS hk)
/-- A word on the state that no operation touches but by its own temporary. -/
theorem wpOp_word {j : Nat} {oj : Oper} (hj : ops[j]? = some oj) {C : Act → Prop} {K : Act → World → Prop} {a : Act} {w : World} (h1 : ∀ u, C (a.put oj.dst u)) (h2 : ∀ d, C (({ a with defers := d :: a.defers } : Act).put oj.dst undef))
    (h : wpOp P ops Q j K a w) : wpOp P ops Q j (fun a' w' => C a' ∧ K a' w') a w := by
  unfold wpOp at *
  simp only [hj] at *
  split at h
  · rename_i hw
    rw [if_pos hw]
    rcases h with h | h
    · left
      unfold Oper.wp at *
      generalize (execOp a.eval oj).run P w = r at *
      cases r with
      | ok n w' =>
        cases n <;> simp only [Oper.upon] at h ⊢
        case value u => exact ⟨h1 u, h⟩
        case skip => exact ⟨h1 _, h⟩
        case defer d => exact ⟨h2 d, h⟩
        case enter f args =>
          refine Calls.mono h fun e w'' he => ?_
          cases e with
          | returned u => exact ⟨h1 u, he⟩
          | panicked c => exact he
          | outgrown => exact he
        case row row args => exact Rows.mono h fun u w'' he => ⟨h1 u, he⟩
      | halt x w' => cases x <;> first | exact h | exact False.elim h
    · exact .inr h
  · rename_i hw
    rw [if_neg hw]
    exact ⟨h1 _, h⟩
theorem wpOp_takes {j : Nat} {oi oj : Oper} {v : Value} (hj : ops[j]? = some oj) (hap : oi.apart ops oj = true)
    (hsi : ∀ cs b, oi.op ≠ .select cs b) (hsj : ∀ cs b, oj.op ≠ .select cs b)
    (hQ : ∀ c a w, Q (.panic c) (a.put oi.dst v) w → Q (.panic c) a w) {K : Act → World → Prop} {a : Act} {w : World}
    (ht : TakesIf P ops Q S oi v a) (h : wpOp P ops Q j K (a.put oi.dst v) w) :
    wpOp P ops Q j (fun a' w' => TakesIf P ops Q S oi v a' ∧ K (a'.put oi.dst v) w') a w := by
  obtain ⟨_, _, h3⟩ := Oper.apart_spec hap
  have hk := wpOp_putIf (S := fun _ => False) hj hap hsi hsj hQ (.inl ⟨ht.1, fun _ hf => hf.elim⟩) h
  have := wpOp_word (C := TakesIf P ops Q S oi v) hj (fun u => ht.same (execOp_put oi hsi a oj.dst u h3) (wanted_put oi a oj.dst u h3)) (fun d => by
    have hd : TakesIf P ops Q S oi v ({ a with defers := d :: a.defers } : Act) := ht.same rfl rfl
    exact hd.same (execOp_put oi hsi _ oj.dst undef h3) (wanted_put oi _ oj.dst undef h3)) hk
  exact wpOp_mono (fun a' w' hh => ⟨hh.1, hh.2.2⟩) this
theorem wpAnyH_firstC {i : Nat} {oi : Oper} {v : Value} (hi : ops[i]? = some oi) (hsel : ∀ (j : Nat) (o : Oper) cs b, ops[j]? = some o → o.op ≠ .select cs b)
    (hQ : ∀ c a w, Q (.panic c) (a.put oi.dst v) w → Q (.panic c) a w) :
    ∀ (fuel : Nat) (listed : Array Bool) (a : Act) (w : World),
      (∀ j oj, ops[j]? = some oj → j ≠ i → listed.getD j true = false → (∀ e ∈ oj.after, Region.binds md e = true → e.on ≠ i) → oi.apart ops oj = true) →
      i ∈ Region.ready md ops listed → TakesIf P ops Q S oi v a → S w →
      wpAnyH P md ops Q S fuel (listed.setIfInBounds i true) (a.put oi.dst v) w → wpAnyH P md ops Q S (fuel + 1) listed a w
  | 0, listed, a, w, _, hr, ht, hS, H => by
    refine ⟨fun h => absurd hr (by rw [h]; exact List.not_mem_nil), fun j hj => ?_⟩
    rcases Decidable.em (j = i) with rfl | hji
    · exact ht.op hi hS ⟨hS, H⟩
    · exact absurd (ready_mono hj hji) (by rw [H.1]; exact List.not_mem_nil)
  | fuel + 1, listed, a, w, hfree, hr, ht, hS, H => by
    refine ⟨fun h => absurd hr (by rw [h]; exact List.not_mem_nil), fun j hj => ?_⟩
    rcases Decidable.em (j = i) with rfl | hji
    · exact ht.op hi hS ⟨hS, H⟩
    · obtain ⟨hjun, oj, hoj, hall⟩ := mem_ready.1 hj
      have hnot : ∀ e ∈ oj.after, Region.binds md e = true → e.on ≠ i := by
        rintro e he hb rfl
        have h1 := hall e he hb
        have h0 := (mem_ready.1 hr).1
        by_cases hs : e.on < listed.size
        · simp [hs] at h0 h1; rw [h0] at h1; cases h1
        · simp [Array.getElem?_eq_none (Nat.le_of_not_lt hs)] at h1
      refine wpOp_mono (fun a' w' h3 => ⟨h3.2.1, ?_⟩) (wpOp_takes hoj (hfree j oj hoj hji hjun hnot) (fun cs b => hsel i oi cs b hi) (fun cs b => hsel j oj cs b hoj) hQ ht (H.2 j (ready_mono hj hji)))
      refine wpAnyH_firstC hi hsel hQ fuel (listed.setIfInBounds j true) a' w' (fun k ok hk hki hun hno => hfree k ok hk hki ?_ hno) (ready_mono hr (Ne.symm hji)) h3.1 h3.2.1 ?_
      · rcases Decidable.em (j = k) with rfl | hjk
        · exact hjun
        · rw [getD_set_ne true hjk] at hun; exact hun
      · rw [Array.setIfInBounds_comm _ _ hji]
        exact h3.2.2
/-- Take call number i first. -/
theorem wpAnyH_takeC {i : Nat} {oi : Oper} {v : Value} {fuel : Nat} {listed : Array Bool} {a : Act} {w : World} (hi : ops[i]? = some oi)
    (hs : Region.noSelect ops = true) (hf : Region.free md ops listed i = true) (hr : (Region.ready md ops listed).contains i = true)
    (hQ : ∀ c a w, Q (.panic c) (a.put oi.dst v) w → Q (.panic c) a w) (ht : TakesIf P ops Q S oi v a) (hS : S w)
    (h : wpAnyH P md ops Q S fuel (listed.setIfInBounds i true) (a.put oi.dst v) w) : wpAnyH P md ops Q S (fuel + 1) listed a w :=
  wpAnyH_firstC hi (Region.noSelect_spec hs) hQ fuel listed a w (Region.free_spec hi hf) (by simpa using hr) ht hS h
/-- A call whose contract leaves the world as it is. -/
theorem takes_call {o : Oper} {v : Value} {a : Act} {f : FuncId} {args : Array Value} (hw : Region.wanted o (yielded ops a.tmps) = true) (he : ∀ w, (execOp a.eval o).run P w = .ok (.enter f args) w)
    (hc : ∀ w, S w → Calls P f args w fun e w' => e = .returned v ∧ w = w') : TakesIf P ops Q S o v a := by
  refine ⟨hw, fun a' ha K w hS hk => ?_⟩
  unfold Oper.wp
  rw [ha, he w]
  simp only [Oper.upon]
  refine Calls.mono (hc w hS) ?_
  rintro e w' ⟨rfl, rfl⟩
  exact hk
end
end Wk
