
/- Maps read as functions: delete. -/
import Derived.Test.YtllemhknmleklaaMp
set_option linter.unusedVariables false
namespace Wk
open Go Go.RowKit Go.Sort Go.Maps Go.WideShapes

def mdel (f : Lit → Option Value) (k : Lit) : Lit → Option Value := fun x => if x.sameKey k = true then none else f x
section
variable {P : Program} (w : World) {ops : Array Oper} {rest : List Oper} {o : Oper} {a : Act} {Q : Exit → Act → World → Prop}
theorem wpList_mp_delete (hg : o.guard = none) (m x : Operand) (t k : TypeId) (hop : o.op = Op.call { callee := Callee.builtin Builtin.delete, args := #[m, x], argTypes := #[t, k] })
    (e : TypeId) (K : Keyed P k) (ht : P.underlying t = some (.map k e)) (b n : Nat) (f : Lit → Option Value)
    (hm : a.eval m = .map (some b)) (hmp : Mp w P k b n f) (key : Value) (kl : Lit) (hx : a.eval x = key) (hkey : keyOf P k key = some kl)
    (hK : ∀ w', Mp w' P k b n (mdel f kl) → w.mapTurned w' b → wpList P ops Q rest (a.put o.dst (.tuple #[])) w') :
    wpList P ops Q (o :: rest) a w := by
  obtain ⟨D, hD, hM, hf⟩ := hmp
  refine wpList_delete_own w hg m x t k hop e K ht anyElem b n D hm hD key kl hx hkey fun w' h1 h2 => hK w' ⟨_, h1, hM.del _, fun k2 hk2 => ?_⟩ h2
  unfold mdel
  by_cases hne : k2 = kl
  · subst hne
    rw [if_pos (WideAt.sameKey_self hk2)]
    exact ⟨has_del_same, fun v hv => by cases hv⟩
  · rw [if_neg (fun h => hne (WideAt.sameKey_eq h)), has_del_other hne]
    exact ⟨(hf k2 hk2).1, fun v hv z => by rw [atKey_del_other hne]; exact (hf k2 hk2).2 v hv z⟩
end
end Wk
