
/- Small laws of my own, the third part: append with a word on all other blocks. -/
import Derived.Test.YticfcigkldkhmaaKit2
set_option linter.unusedVariables false
namespace Wk
open Go Go.RowKit Go.Sort
section
variable {P : Program} {ops : Array Oper} {rest : List Oper} {o : Oper} {a : Act} {Q : Exit → Act → World → Prop} {w : World}
/-- append of rows that lie somewhere (or of none), to a slice of the call's own: all other blocks stay. -/
theorem wpList_append_oth (hgd : o.guard = none) (s x : Operand) (t e : TypeId) (size bytes : Nat) (z : Value)
    (ho : o.op = .call { callee := .builtin .append, args := #[s, x], argTypes := #[t, t] }) (hE : EI P t e size bytes z)
    (B : Nat) (v : Value) (xs : List (List Value)) (hs : a.eval s = v) (hown : Own w B e size v xs)
    (vx : Value) (ys : List (List Value)) (hx : a.eval x = vx) (hys : Sl w size vx ys)
    (h1 : ∀ c ∈ ys, ∀ u ∈ c, u.oneCell' = true) (hbytes : (xs.length + ys.length) * bytes ≤ 140737488355328) (hb1 : 1 ≤ bytes) (hbase : B ≤ w.heap.size)
    (h : ∀ v' w', Own w' B e size v' (xs ++ ys) → Below B w w' → (∀ b o, b < w.heap.size → (∀ k, v.ownBlock = some k → k ≠ b) → w'.cell? ⟨b, o, none⟩ = w.cell? ⟨b, o, none⟩) → wpList P ops Q rest (a.put o.dst v') w') : wpList P ops Q (o :: rest) a w := by
  refine wpList_plain hgd fun _ hK => ?_
  obtain ⟨v', w', hr, h2, h3⟩ := run_append_rows (P := P) w t o.type e size bytes z hE B v xs hown vx ys hys h1 hbytes hb1 hbase
  unfold Oper.wp execOp
  simp only [ho, resolve, invoke, builtin, Sem.run_bind, Sem.run_pure, Result.andThen_ok, List.map_toArray, List.map_cons, List.map_nil, hs, hx, hr]
  exact hK _ _ (h v' w' h2 (Below.of_grown h3 hbase (fun k hk => (hown.lt k hk).1)) (fun b o hb hne => World.cell?_of_block (a := ⟨b, o, none⟩) (h3.block b hb (fun e => hne b e.symm rfl))))
end
end Wk
