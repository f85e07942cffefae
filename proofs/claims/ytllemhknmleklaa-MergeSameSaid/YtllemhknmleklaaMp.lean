
/- Maps whose elements are any values, as functions from keys. -/
import Derived.Test.YtllemhknmleklaaKit
import Derived.Maps.OwnSet
set_option linter.unusedVariables false
namespace Wk
open Go Go.RowKit Go.Sort Go.Maps Go.WideShapes

def anyElem (v : Value) : Option (DataW Value × List MemPlace) := some (.held v, [])
/-- Block b is a map of at most n entries, whose keys are read by f. -/
def Mp (w : World) (P : Program) (k : TypeId) (b n : Nat) (f : Lit → Option Value) : Prop :=
  ∃ D : DataW Value, w.ownsMap P k anyElem b n D ∧ IsMap D ∧ ∀ kl, WideAt.IsKeyLit kl → Maps.has D kl = (f kl).isSome ∧ ∀ v, f kl = some v → ∀ z, D.atKey kl z = .held v
def mput (f : Lit → Option Value) (k : Lit) (v : Value) : Lit → Option Value := fun x => if x.sameKey k = true then some v else f x

section
variable {P : Program} {k : TypeId} {b n : Nat} {f : Lit → Option Value} {w : World}
theorem Mp.made (w : World) (P : Program) (k : TypeId) : Mp (w.alloc (.map #[] 0)) P k w.heap.size 0 (fun _ => none) :=
  ⟨.map [], World.ownsMap_made w P k _, isMap_empty, fun kl _ => ⟨rfl, fun v h => by cases h⟩⟩
theorem Mp.lt (h : Mp w P k b n f) : b < w.heap.size := by obtain ⟨D, h, _⟩ := h; exact h.lt
theorem Mp.kept {w' : World} (h : Mp w P k b n f) {B : Nat} (hb : Below B w w') (hB : b < B) : Mp w' P k b n f := by
  obtain ⟨D, ⟨es, clock, e1, F, hs, hD⟩, hm, hf⟩ := h
  exact ⟨D, ⟨es, clock, (hb.block b hB).trans e1, F, hs, hD⟩, hm, hf⟩
theorem Mp.below {w' : World} (h : Mp w P k b n f) (hb : Below w.heap.size w w') : Mp w' P k b n f := h.kept hb h.lt
theorem Mp.alloc (h : Mp w P k b n f) (o : Obj) : Mp (w.alloc o) P k b n f := h.below ((Below.refl _ _).alloc (Nat.le_refl _) o)
theorem Mp.dr (h : Mp w P k b n f) : Mp w.drew P k b n f := h.below (Below.drew (Below.refl _ _))
theorem Mp.grown {w' : World} {row : Option Nat} (h : Mp w P k b n f) (hg : w.grownBy w' row) (hne : some b ≠ row) : Mp w' P k b n f := by
  obtain ⟨D, hD, r⟩ := h
  exact ⟨D, hD.kept hg hne, r⟩

theorem Mp.look (h : Mp w P k b n f) (K : Keyed P k) {t e : TypeId} (ht : P.underlying t = some (.map k e)) {z : Value} (hz : (zeroValue e).run P w = .ok z w) {key : Value} {kl : Lit} (hkey : keyOf P k key = some kl) :
    (Instr.lookup t (.map (some b)) key true).run P w = .ok (.tuple #[(f kl).getD z, .bool (f kl).isSome]) w := by
  obtain ⟨D, hD, hm, hf⟩ := h
  obtain ⟨v, ps, hrun, hv⟩ := hD.look_ok K ht hz (show anyElem z = some (.held z, []) from rfl) hkey
  obtain ⟨h1, h2⟩ := hf kl (K.key hkey)
  rw [hrun, h1]
  have : v = (f kl).getD z := by
    simp only [anyElem, Option.some.injEq, Prod.mk.injEq] at hv
    cases hx : f kl with
    | none =>
      rw [hx] at h1
      rw [atKey_of_not_has h1] at hv
      simpa using hv.1
    | some u =>
      rw [h2 u hx] at hv
      simpa using hv.1
  rw [this]
theorem Mp.update (h : Mp w P k b n f) (K : Keyed P k) {t e : TypeId} (ht : P.underlying t = some (.map k e)) (hn : n < maxLen) {key val : Value} {kl : Lit} (hkey : keyOf P k key = some kl) :
    ∃ w', (Instr.mapUpdate t (.map (some b)) key val).run P w = .ok () w' ∧ Mp w' P k b (n + 1) (mput f kl val) ∧ w.grownBy w' (some b) := by
  obtain ⟨D, hD, hm, hf⟩ := h
  obtain ⟨w', hrun, h1, h2⟩ := hD.update K ht hn hkey (show anyElem val = some (.held val, []) from rfl)
  refine ⟨w', hrun, ⟨_, h1, hm.put _ _, fun k2 hk2 => ?_⟩, h2⟩
  unfold mput
  by_cases hne : k2 = kl
  · subst hne
    rw [if_pos (WideAt.sameKey_self hk2)]
    exact ⟨has_put_same hm hk2 _, fun v hv z => by cases hv; exact atKey_put_same hm hk2 _ _⟩
  · rw [if_neg (fun h => hne (WideAt.sameKey_eq h)), has_put_other hne]
    exact ⟨(hf k2 hk2).1, fun v hv z => by rw [atKey_put_other hne]; exact (hf k2 hk2).2 v hv z⟩
end

section
variable {P : Program} (w : World) {ops : Array Oper} {rest : List Oper} {o : Oper} {a : Act} {Q : Exit → Act → World → Prop}
theorem wpList_mp_look (hg : o.guard = none) (m x : Operand) (t : TypeId) (hop : o.op = Op.lookup t m x true)
    (k e : TypeId) (K : Keyed P k) (ht : P.underlying t = some (.map k e)) {z : Value} (hz : (zeroValue e).run P w = .ok z w) (b n : Nat) (f : Lit → Option Value)
    (hm : a.eval m = .map (some b)) (hmp : Mp w P k b n f) (key : Value) (kl : Lit) (hx : a.eval x = key) (hkey : keyOf P k key = some kl)
    (hK : wpList P ops Q rest (a.put o.dst (.tuple #[(f kl).getD z, .bool (f kl).isSome])) w) :
    wpList P ops Q (o :: rest) a w := by
  refine wpList_plain hg fun K' hK' => ?_
  have hrun := hmp.look K ht hz hkey
  unfold Oper.wp
  simp [execOp, hop, hm, hx, hrun, Result.andThen]
  exact hK' _ _ hK
theorem wpList_mp_update (hg : o.guard = none) (m x v : Operand) (t : TypeId) (hop : o.op = Op.mapUpdate t m x v)
    (k e : TypeId) (K : Keyed P k) (ht : P.underlying t = some (.map k e)) (b n : Nat) (f : Lit → Option Value)
    (hm : a.eval m = .map (some b)) (hmp : Mp w P k b n f) (hn : n < maxLen) (key val : Value) (kl : Lit) (hx : a.eval x = key) (hv : a.eval v = val) (hkey : keyOf P k key = some kl)
    (hK : ∀ w', Mp w' P k b (n + 1) (mput f kl val) → w.grownBy w' (some b) → wpList P ops Q rest (a.put o.dst undef) w') :
    wpList P ops Q (o :: rest) a w := by
  refine wpList_plain hg fun K' hK' => ?_
  obtain ⟨w', hrun, r1, r2⟩ := hmp.update K ht hn (val := val) hkey
  unfold Oper.wp
  simp [execOp, hop, hm, hx, hv, hrun, Result.andThen]
  exact hK' _ _ (hK w' r1 r2)
end
theorem run_makeMap_hint {P : Program} {t k e : TypeId} (ht : P.underlying t = some (.map k e)) (n : Int) (w : World) : (Instr.makeMap t (some (.int .i64 n))).run P w = .ok (.map (some w.heap.size)) (w.alloc (.map #[] 0)) := by
  simp [Instr.makeMap, run_underlying ht, asInt, asIntOf, Result.andThen]
theorem Below.grownMap {B b : Nat} {w w' : World} (hg : w.grownBy w' (some b)) (hB : B ≤ w.heap.size) (hb : B ≤ b) : Below B w w' :=
  (Below.refl B w).grown hg hB (fun k hk => by cases hk; exact hb)
end Wk
