
/- append of rows to a slice of the call's own: where it lies behind. -/
import Derived.Test.YtoecmoicaklbaaaDoorKit
import Derived.Maps.AppendAt
set_option linter.unusedVariables false
namespace Wk
open Go Go.RowKit Go.Sort
section
variable {P : Program}
theorem run_append_at (w : World) (t ty e : TypeId) (size bytes : Nat) (z : Value) (hE : EI P t e size bytes z) (B : Nat) (v : Value) (xs : List (List Value)) (hown : Own w B e size v xs)
    (vx : Value) (ys : List (List Value)) (hys : Sl w size vx ys) (h1 : ∀ c ∈ ys, ∀ u ∈ c, u.oneCell' = true) (hbytes : (xs.length + ys.length) * bytes ≤ 140737488355328) (hb1 : 1 ≤ bytes) (hbase : B ≤ w.heap.size) (hne : ys ≠ []) :
    ∃ v' w', (Builtin.append_ #[t, t] ty #[v, vx]).run P w = .ok v' w' ∧ Own w' B e size v' (xs ++ ys) ∧ w.grownBy w' v.ownBlock ∧ (v'.ownBlock = v.ownBlock ∨ v'.ownBlock = some w.heap.size) := by
  obtain ⟨ht, hi, hzs, hsz⟩ := hE
  obtain ⟨i, hi0, hi1⟩ := Option.map_eq_some_iff.1 hi
  simp only [Prod.mk.injEq] at hi1
  obtain ⟨hz, hsize, hby⟩ := hi1
  have hlen : xs.length + ys.length ≤ maxLen := by
    have : (xs.length + ys.length) * 1 ≤ (xs.length + ys.length) * bytes := Nat.mul_le_mul_left _ hb1
    unfold maxLen; omega
  obtain ⟨hl, a', cap, hv, hc1, hc2, hcells⟩ := hys
  obtain ⟨b, off, rfl, hlt, hcell⟩ := hcells hne
  obtain ⟨v', w', hr, h2, h3, _, h5⟩ := run_append_own_at (P := P) w B t ty e i z size bytes ht hi0 hz hsize hby hzs hsz v xs.length xs.flatten hown.2 ⟨b, off, none⟩ ys.length cap ys.flatten (flatten_len hl) (by
    intro j u hu
    have hj := (List.getElem?_eq_some_iff.1 hu).1
    rw [flatten_len hl] at hj
    have hdm := Nat.div_add_mod j size
    have hq : j / size < ys.length := (Nat.div_lt_iff_lt_mul hsz).2 hj
    have hc := List.getElem?_eq_getElem hq
    have hcl : (ys[j / size]).length = size := hl _ (List.getElem_mem hq)
    have hm : j % size < (ys[j / size]).length := by rw [hcl]; exact Nat.mod_lt _ hsz
    have hu2 := flatten_at hl _ _ hc (j % size) _ (List.getElem?_eq_getElem hm)
    have e1 : j / size * size + j % size = j := by rw [Nat.mul_comm]; exact hdm
    rw [e1, hu] at hu2
    have := hcell _ _ hc (j % size) u (by rw [List.getElem?_eq_getElem hm]; exact hu2.symm)
    rw [Nat.add_assoc, e1] at this
    rw [addr_add_none]
    exact this) (by
    intro u hu
    obtain ⟨c, hc, hu⟩ := List.mem_flatten.1 hu
    exact h1 c hc u hu) hlen hbytes hbase
  refine ⟨v', w', by rw [hv]; exact hr, ⟨fun c hc => ?_, by simpa using h2⟩, h3, h5⟩
  rcases List.mem_append.1 hc with hc | hc
  · exact hown.1 c hc
  · exact hl c hc
/-- append of rows (at least one): what it owns, what grew, where it lies. -/
theorem wpList_append_at {ops : Array Oper} {rest : List Oper} {o : Oper} {a : Act} {Q : Exit → Act → World → Prop} {w : World} (hgd : o.guard = none) (s x : Operand) (t e : TypeId) (size bytes : Nat) (z : Value)
    (ho : o.op = .call { callee := .builtin .append, args := #[s, x], argTypes := #[t, t] }) (hE : EI P t e size bytes z)
    (B : Nat) (v : Value) (xs : List (List Value)) (hs : a.eval s = v) (hown : Own w B e size v xs)
    (vx : Value) (ys : List (List Value)) (hx : a.eval x = vx) (hys : Sl w size vx ys)
    (h1 : ∀ c ∈ ys, ∀ u ∈ c, u.oneCell' = true) (hbytes : (xs.length + ys.length) * bytes ≤ 140737488355328) (hb1 : 1 ≤ bytes) (hbase : B ≤ w.heap.size) (hne : ys ≠ [])
    (h : ∀ v' w', Own w' B e size v' (xs ++ ys) → w.grownBy w' v.ownBlock → Below B w w' → (v'.ownBlock = v.ownBlock ∨ v'.ownBlock = some w.heap.size) → wpList P ops Q rest (a.put o.dst v') w') : wpList P ops Q (o :: rest) a w := by
  refine wpList_plain hgd fun _ hK => ?_
  obtain ⟨v', w', hr, h2, h3, h5⟩ := run_append_at (P := P) w t o.type e size bytes z hE B v xs hown vx ys hys h1 hbytes hb1 hbase hne
  unfold Oper.wp execOp
  simp only [ho, resolve, invoke, builtin, Sem.run_bind, Sem.run_pure, Result.andThen_ok, List.map_toArray, List.map_cons, List.map_nil, hs, hx, hr]
  exact hK _ _ (h v' w' h2 h3 (Below.of_grown h3 hbase (fun k hk => (hown.lt k hk).1)) h5)
theorem step_append_at {ops : Array Oper} {o : Oper} {a : Act} {w : World} {K : Act → World → Prop} {Q : Exit → Act → World → Prop} {F : Prop} (hgd : o.guard = none) (s x : Operand) (t e : TypeId) (size bytes : Nat) (z : Value)
    (ho : o.op = .call { callee := .builtin .append, args := #[s, x], argTypes := #[t, t] }) (hE : EI P t e size bytes z)
    (B : Nat) (v : Value) (xs : List (List Value)) (hs : a.eval s = v) (hown : Own w B e size v xs)
    (vx : Value) (ys : List (List Value)) (hx : a.eval x = vx) (hys : Sl w size vx ys)
    (h1 : ∀ c ∈ ys, ∀ u ∈ c, u.oneCell' = true) (hbytes : (xs.length + ys.length) * bytes ≤ 140737488355328) (hb1 : 1 ≤ bytes) (hbase : B ≤ w.heap.size) (hne : ys ≠ [])
    (h : ∀ v' w', Own w' B e size v' (xs ++ ys) → w.grownBy w' v.ownBlock → Below B w w' → (v'.ownBlock = v.ownBlock ∨ v'.ownBlock = some w.heap.size) → K (a.put o.dst v') w') : if Region.wanted o (yielded ops a.tmps) = true then Oper.wp P o a w K Q else F := by
  rw [if_pos (by simp [Region.wanted, hgd])]
  obtain ⟨v', w', hr, h2, h3, h5⟩ := run_append_at (P := P) w t o.type e size bytes z hE B v xs hown vx ys hys h1 hbytes hb1 hbase hne
  unfold Oper.wp execOp
  simp only [ho, resolve, invoke, builtin, Sem.run_bind, Sem.run_pure, Result.andThen_ok, List.map_toArray, List.map_cons, List.map_nil, hs, hx, hr]
  exact h v' w' h2 h3 (Below.of_grown h3 hbase (fun k hk => (hown.lt k hk).1)) h5
end
theorem Below.cellAt {B : Nat} {W w : World} (h : Below B W w) : ∀ b o, b < B → w.cell? ⟨b, o, none⟩ = W.cell? ⟨b, o, none⟩ := fun b o hb => h.cell (p := ⟨b, o, none⟩) hb
/-- Two slices of the call's own lie apart. -/
def Apart (u v : Value) : Prop := ∀ k, u.ownBlock = some k → v.ownBlock ≠ some k
theorem Apart.symm {u v : Value} (h : Apart u v) : Apart v u := fun k hk e => h k e hk
theorem Apart.nil (a : Option Nat) (v : Value) : Apart (.slice none 0 0) v := fun k hk => by simp [Value.ownBlock] at hk
/-- One of them has grown by an append. -/
theorem Apart.grown {w : World} {u v v' : Value} {B : Nat} {e : TypeId} {sz : Nat} {xs : List (List Value)} (h : Apart u v) (ho : Own w B e sz u xs) (hv : v'.ownBlock = v.ownBlock ∨ v'.ownBlock = some w.heap.size) : Apart u v' := by
  intro k hk e
  rcases hv with hv | hv
  · rw [hv] at e; exact h k hk e
  · rw [hv] at e
    cases e
    have := (ho.lt _ hk).2
    omega
theorem Own.kept2 {w w' : World} {B : Nat} {e : TypeId} {sz : Nat} {v v' : Value} {xs : List (List Value)} (h : Own w B e sz v xs) (g : w.grownBy w' v'.ownBlock) (hne : v.ownBlock ≠ none → v.ownBlock ≠ v'.ownBlock) : Own w' B e sz v xs := by
  refine ⟨h.1, h.2.kept g ?_⟩
  by_cases hv : v.ownBlock = none
  · exact .inl hv
  · exact .inr (hne hv)
theorem Apart.keeps {w w' : World} {u v : Value} {B : Nat} {e : TypeId} {sz : Nat} {xs : List (List Value)} (h : Apart u v) (ho : Own w B e sz u xs) (g : w.grownBy w' v.ownBlock) : Own w' B e sz u xs :=
  ho.kept2 g (fun hn he => by
    cases hu : u.ownBlock with
    | none => exact hn hu
    | some k => exact h k hu (by rw [← he, hu]))
end Wk
