
/- append of rows as a step of a region that draws; a copy of a slice. -/
import Derived.Test.YticfcigkldkhmaaSl
import Derived.Deep.RegionLaw
import Derived.Deep.Upon
set_option linter.unusedVariables false
namespace Wk
open Go Go.RowKit Go.Sort
section
variable {P : Program}
theorem run_append_rows (w : World) (t ty e : TypeId) (size bytes : Nat) (z : Value) (hE : EI P t e size bytes z) (B : Nat) (v : Value) (xs : List (List Value)) (hown : Own w B e size v xs)
    (vx : Value) (ys : List (List Value)) (hys : Sl w size vx ys) (h1 : ∀ c ∈ ys, ∀ u ∈ c, u.oneCell' = true) (hbytes : (xs.length + ys.length) * bytes ≤ 140737488355328) (hb1 : 1 ≤ bytes) (hbase : B ≤ w.heap.size) :
    ∃ v' w', (Builtin.append_ #[t, t] ty #[v, vx]).run P w = .ok v' w' ∧ Own w' B e size v' (xs ++ ys) ∧ w.grownBy w' v.ownBlock := by
  obtain ⟨ht, hi, hzs, hsz⟩ := hE
  obtain ⟨i, hi0, hi1⟩ := Option.map_eq_some_iff.1 hi
  simp only [Prod.mk.injEq] at hi1
  obtain ⟨hz, hsize, hby⟩ := hi1
  have hlen : xs.length + ys.length ≤ maxLen := by
    have : (xs.length + ys.length) * 1 ≤ (xs.length + ys.length) * bytes := Nat.mul_le_mul_left _ hb1
    unfold maxLen; omega
  obtain ⟨hl, a', cap, hv, hc1, hc2, hcells⟩ := hys
  by_cases hne : ys = []
  · subst hne
    subst hv
    rw [List.append_nil]
    refine ⟨v, w, ?_, hown, ⟨rfl, rfl, rfl, Nat.le_refl _, fun _ _ _ => rfl⟩⟩
    rcases hown.2.2 with ⟨rfl, _⟩ | ⟨g, cap', cur, rfl, _, _, hn, _⟩ <;> cases a' <;> simp [Builtin.append_, run_underlying ht, Go.sizeOf, typeInfo, Builtin.lenOf, Builtin.firstCells, loadCells, loadCellsFrom, storeCells, *]
  · obtain ⟨b, off, rfl, hlt, hcell⟩ := hcells hne
    obtain ⟨v', w', hr, h2, h3, _⟩ := run_append_own (P := P) w B t ty e i z size bytes ht hi0 hz hsize hby hzs hsz v xs.length xs.flatten hown.2 ⟨b, off, none⟩ ys.length cap ys.flatten (flatten_len hl) (by
      intro j u hu
      have hj := (List.getElem?_eq_some_iff.1 hu).1
      rw [flatten_len hl] at hj
      have hdm := Nat.div_add_mod j size
      have hq : j / size < ys.length := (Nat.div_lt_iff_lt_mul hsz).2 hj
      have hc := List.getElem?_eq_getElem hq
      have hcl : (ys[j / size]).length = size := hl _ (List.getElem_mem hq)
      have hm : j % size < (ys[j / size]).length := by rw [hcl]; exact Nat.mod_lt _ hsz
      have hu2 := flatten_at hl _ _ hc (j % size) _ (List.getElem?_eq_getElem hm)
      have e1 : j / size * size + j % size = j := by rw [Nat.mul_comm]; exact hdm
      rw [e1, hu] at hu2
      have := hcell _ _ hc (j % size) u (by rw [List.getElem?_eq_getElem hm]; exact hu2.symm)
      rw [Nat.add_assoc, e1] at this
      rw [addr_add_none]
      exact this) (by
      intro u hu
      obtain ⟨c, hc, hu⟩ := List.mem_flatten.1 hu
      exact h1 c hc u hu) hlen hbytes hbase
    refine ⟨v', w', by rw [hv]; exact hr, ⟨fun c hc => ?_, by simpa using h2⟩, h3⟩
    rcases List.mem_append.1 hc with hc | hc
    · exact hown.1 c hc
    · exact hl c hc

/-- A step of a region that draws: append of rows to a slice of the call's own. -/
theorem step_append_rows {ops : Array Oper} {o : Oper} {a : Act} {w : World} {K : Act → World → Prop} {Q : Exit → Act → World → Prop} {E : Prop} (hg : o.guard = none) (s x : Operand) (t e : TypeId) (size bytes : Nat) (z : Value)
    (hop : o.op = Op.call { callee := Callee.builtin Builtin.append, args := #[s, x], argTypes := #[t, t] }) (hE : EI P t e size bytes z) (B : Nat) (v : Value) (xs : List (List Value)) (hs : a.eval s = v) (hown : Own w B e size v xs)
    (vx : Value) (ys : List (List Value)) (hx : a.eval x = vx) (hys : Sl w size vx ys) (h1 : ∀ c ∈ ys, ∀ u ∈ c, u.oneCell' = true) (hbytes : (xs.length + ys.length) * bytes ≤ 140737488355328) (hb1 : 1 ≤ bytes) (hbase : B ≤ w.heap.size)
    (hK : ∀ v' w', Own w' B e size v' (xs ++ ys) → Below B w w' → K (a.put o.dst v') w') :
    if Region.wanted o (yielded ops a.tmps) = true then Oper.wp P o a w K Q else E := by
  have hw : Region.wanted o (yielded ops a.tmps) = true := by simp [Region.wanted, hg]
  rw [if_pos hw]
  obtain ⟨v', w', hr, h2, h3⟩ := run_append_rows (P := P) w t o.type e size bytes z hE B v xs hown vx ys hys h1 hbytes hb1 hbase
  unfold Oper.wp
  simp only [execOp, hop, resolve, invoke, builtin, Sem.run_bind, Sem.run_pure, Result.andThen_ok, List.map_toArray, List.map_cons, List.map_nil, hs, hx, hr]
  exact hK v' w' h2 (Below.of_grown h3 hbase (fun k hk => (hown.lt k hk).1))

/-- .. to nil: a copy. -/
theorem step_copy {ops : Array Oper} {o : Oper} {a : Act} {w : World} {K : Act → World → Prop} {Q : Exit → Act → World → Prop} {E : Prop} (hg : o.guard = none) (x : Operand) (t e : TypeId) (size bytes : Nat) (z : Value)
    (hop : o.op = Op.call { callee := Callee.builtin Builtin.append, args := #[.const (.slice none 0 0), x], argTypes := #[t, t] }) (hE : EI P t e size bytes z)
    (vx : Value) (ys : List (List Value)) (hx : a.eval x = vx) (hys : Sl w size vx ys) (h1 : ∀ c ∈ ys, ∀ u ∈ c, u.oneCell' = true) (hbytes : ys.length * bytes ≤ 140737488355328) (hb1 : 1 ≤ bytes)
    (hK : ∀ v' w', Own w' w.heap.size e size v' ys → Below w.heap.size w w' → K (a.put o.dst v') w') :
    if Region.wanted o (yielded ops a.tmps) = true then Oper.wp P o a w K Q else E :=
  step_append_rows hg _ x t e size bytes z hop hE w.heap.size (.slice none 0 0) [] rfl (Own.nil w _ e size) vx ys hx hys h1 (by simpa using hbytes) hb1 (Nat.le_refl _) (fun v' w' h2 h3 => hK v' w' (by simpa using h2) h3)
end
theorem Own.shape {w : World} {B : Nat} {e : TypeId} {sz : Nat} {v : Value} {xs : List (List Value)} (h : Own w B e sz v xs) : ∃ a cap, v = .slice a xs.length cap := by
  obtain ⟨_, a, cap, hv, _⟩ := h.sl
  exact ⟨a, cap, hv⟩
end Wk
