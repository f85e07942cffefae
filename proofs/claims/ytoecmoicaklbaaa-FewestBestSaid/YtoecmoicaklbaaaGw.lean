
/- The world has grown by draws and blocks alone; the order of prefixes as a number. -/
import Derived.Test.YtoecmoicaklbaaaPre4
import Derived.Shelf.SlSortCmp.WholeK
set_option linter.unusedVariables false
set_option linter.unusedSimpArgs false
namespace Go.Proofs.Ytoecmoicaklbaaa
open Go.RowKit Go.Sort Wc Wk

/-- The world has grown by draws and blocks alone. -/
def Grw (W w' : World) : Prop := ∃ q os, w' = grow (W.drewN q) os
theorem Grw.refl (W : World) : Grw W W := ⟨0, #[], by rw [grow_empty]; rfl⟩
theorem Grw.alloc {W w' : World} (h : Grw W w') (o : Obj) : Grw W (w'.alloc o) := by
  obtain ⟨q, os, rfl⟩ := h
  exact ⟨q, os ++ #[o], by rw [alloc_eq_grow, grow_grow]⟩
theorem Grw.drewN {W w' : World} (h : Grw W w') (n : Nat) : Grw W (w'.drewN n) := by
  obtain ⟨q, os, rfl⟩ := h
  exact ⟨q + n, os, by show grow ((W.drewN q).drewN n) os = _; rw [World.drewN_drewN]⟩
theorem Grw.trans {a b c : World} (h : Grw a b) (k : Grw b c) : Grw a c := by
  obtain ⟨q, os, rfl⟩ := h
  obtain ⟨r, os', rfl⟩ := k
  exact ⟨q + r, os ++ os', by show grow (grow ((a.drewN q).drewN r) os) os' = _; rw [grow_grow, World.drewN_drewN]⟩
theorem Grw.below {W w' : World} (h : Grw W w') : Below W.heap.size W w' := by
  obtain ⟨q, os, rfl⟩ := h
  refine ⟨rfl, rfl, rfl, ?_, fun k hk => ?_⟩
  · show W.heap.size ≤ (W.heap ++ os).size
    simp
  · show (W.heap ++ os)[k]? = _
    exact Array.getElem?_append_left hk

def ordI (n k m l : Nat) : Int := if n < m then -1 else if m < n then 1 else (k : Int) - l
end Go.Proofs.Ytoecmoicaklbaaa
