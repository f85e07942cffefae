
/- Parts of slices of rows. -/
import Derived.Test.YticfcigkldkhmaaSl2
set_option linter.unusedVariables false
namespace Wk
open Go Go.RowKit Go.Sort
theorem Sl.take {w : World} {sz : Nat} {a : Option Addr} {n cap : Nat} {xs : List (List Value)} (h : Sl w sz (.slice a n cap) xs) (k : Nat) (hk : k ≤ xs.length) : Sl w sz (.slice a k cap) (xs.take k) := by
  obtain ⟨hl, a', cap', hv, h1, h2, h3⟩ := h
  simp only [Value.slice.injEq] at hv
  obtain ⟨rfl, rfl, rfl⟩ := hv
  have hlen : (xs.take k).length = k := by rw [List.length_take]; omega
  refine ⟨fun c hc => hl c (List.mem_of_mem_take hc), a, cap, by rw [hlen], by omega, h2, fun hne => ?_⟩
  obtain ⟨b, off, ha, hb, hc⟩ := h3 (fun h => hne (by rw [h]; simp))
  refine ⟨b, off, ha, hb, fun i c hi j u hu => hc i c ?_ j u hu⟩
  rw [List.getElem?_take] at hi
  split at hi
  · exact hi
  · simp at hi
theorem Sl.drop {w : World} {sz : Nat} {b off n cap : Nat} {xs : List (List Value)} (h : Sl w sz (.slice (some ⟨b, off, none⟩) n cap) xs) (k : Nat) (hk : k ≤ xs.length) : Sl w sz (.slice (some ⟨b, off + k * sz, none⟩) (n - k) (cap - k)) (xs.drop k) := by
  obtain ⟨hl, a', cap', hv, h1, h2, h3⟩ := h
  simp only [Value.slice.injEq] at hv
  obtain ⟨rfl, rfl, rfl⟩ := hv
  refine ⟨fun c hc => hl c (List.mem_of_mem_drop hc), _, cap - k, by rw [List.length_drop], by rw [List.length_drop]; omega, by omega, fun hne => ?_⟩
  obtain ⟨b', off', ha, hb, hc⟩ := h3 (fun h => hne (by rw [h]; simp))
  cases ha
  refine ⟨b, off + k * sz, rfl, hb, fun i c hi j u hu => ?_⟩
  rw [List.getElem?_drop] at hi
  have := hc (k + i) c hi j u hu
  rw [Nat.add_mul, ← Nat.add_assoc] at this
  exact this
section
variable {P : Program} {ops : Array Oper} {rest : List Oper} {o : Oper} {a : Act} {Q : Exit → Act → World → Prop} {w : World}
/-- append of rows that lie somewhere (or of none), to a slice of the call's own. -/
theorem wpList_append_any (hgd : o.guard = none) (s x : Operand) (t e : TypeId) (size bytes : Nat) (z : Value)
    (ho : o.op = .call { callee := .builtin .append, args := #[s, x], argTypes := #[t, t] }) (hE : EI P t e size bytes z)
    (B : Nat) (v : Value) (xs : List (List Value)) (hs : a.eval s = v) (hown : Own w B e size v xs)
    (vx : Value) (ys : List (List Value)) (hx : a.eval x = vx) (hys : Sl w size vx ys)
    (h1 : ∀ c ∈ ys, ∀ u ∈ c, u.oneCell' = true) (hbytes : (xs.length + ys.length) * bytes ≤ 140737488355328) (hb1 : 1 ≤ bytes) (hbase : B ≤ w.heap.size)
    (h : ∀ v' w', Own w' B e size v' (xs ++ ys) → Below B w w' → wpList P ops Q rest (a.put o.dst v') w') : wpList P ops Q (o :: rest) a w := by
  refine wpList_plain hgd fun _ hK => ?_
  obtain ⟨v', w', hr, h2, h3⟩ := run_append_rows (P := P) w t o.type e size bytes z hE B v xs hown vx ys hys h1 hbytes hb1 hbase
  unfold Oper.wp execOp
  simp only [ho, resolve, invoke, builtin, Sem.run_bind, Sem.run_pure, Result.andThen_ok, List.map_toArray, List.map_cons, List.map_nil, hs, hx, hr]
  exact hK _ _ (h v' w' h2 (Below.of_grown h3 hbase (fun k hk => (hown.lt k hk).1)))
end
end Wk
