
/- A range over a map that is read as a function. -/
import Derived.Test.YtllemhknmleklaaMp
import Derived.Maps.RangeWalk
set_option linter.unusedVariables false
set_option linter.unusedSimpArgs false
namespace Wk
open Go Go.RowKit Go.Sort Go.Maps Go.WideShapes

/-- A range over map b, whose keys are read by f, under way: left: which keys are still to come; cnt: how many. -/
def MpR (w : World) (P : Program) (k : TypeId) (b r n : Nat) (f : Lit → Option Value) (left : Lit → Bool) (cnt : Nat) : Prop :=
  ∃ D : DataW Value, w.ranges P k anyElem b r n D left cnt ∧ IsMap D ∧ (∀ kl, left kl = true → Maps.has D kl = true) ∧ ∀ kl, WideAt.IsKeyLit kl → Maps.has D kl = (f kl).isSome ∧ ∀ v, f kl = some v → ∀ z, D.atKey kl z = .held v

section
variable {P : Program} {k : TypeId} {b r n cnt : Nat} {f : Lit → Option Value} {left : Lit → Bool} {w : World}
theorem MpR.mp (h : MpR w P k b r n f left cnt) : Mp w P k b n f := by
  obtain ⟨D, h1, h2, h3, h4⟩ := h
  exact ⟨D, h1.owns, h2, h4⟩
theorem MpR.lt (h : MpR w P k b r n f left cnt) : b < w.heap.size ∧ r < w.heap.size := by
  obtain ⟨D, h1, h2, h3, h4⟩ := h
  exact ⟨h1.owns.lt, h1.lt⟩
theorem MpR.left_eq (h : MpR w P k b r n f left cnt) : w.rangeLeft b r = cnt := by
  obtain ⟨D, h1, h2, h3, h4⟩ := h
  exact h1.left_eq
theorem MpR.cnt_le (h : MpR w P k b r n f left cnt) : cnt ≤ n := by
  obtain ⟨D, ⟨es, clock, since, seen, c0, hb, F, hs, hD, hr, ho, hc, rest⟩, _⟩ := h
  rw [← hc]
  refine Nat.le_trans ?_ hs
  unfold leftOf
  exact Array.size_filter_le
theorem MpR.kept {w' : World} (h : MpR w P k b r n f left cnt) {B : Nat} (hb : Below B w w') (h1 : b < B) (h2 : r < B) : MpR w' P k b r n f left cnt := by
  obtain ⟨D, ⟨es, clock, since, seen, c0, hbb, F, hs, hD, hr, rest⟩, hm⟩ := h
  exact ⟨D, ⟨es, clock, since, seen, c0, (hb.block b h1).trans hbb, F, hs, hD, (hb.block r h2).trans hr, rest⟩, hm⟩
end

section
variable {P : Program} (w : World) {ops : Array Oper} {rest : List Oper} {o : Oper} {a : Act} {Q : Exit → Act → World → Prop}
theorem wpList_mp_range (hg : o.guard = none) (m : Operand) (t : TypeId) (hop : o.op = Op.range t m) (k e : TypeId) (K : Keyed P k) (ht : P.underlying t = some (.map k e)) (b n : Nat) (f : Lit → Option Value)
    (hm : a.eval m = .map (some b)) (hmp : Mp w P k b n f)
    (hK : ∀ w' left cnt, MpR w' P k b w.heap.size n f left cnt → (∀ kl, WideAt.IsKeyLit kl → left kl = (f kl).isSome) → Below w.heap.size w w' → w'.heap.size = w.heap.size + 1 → wpList P ops Q rest (a.put o.dst (.pointer (some ⟨w.heap.size, 0, none⟩))) w') :
    wpList P ops Q (o :: rest) a w := by
  obtain ⟨D, hD, hM, hf⟩ := hmp
  refine wpList_range_own w hg m t hop k e K ht _ b n D hm hD fun w' h1 h2 h3 => ?_
  exact hK w' (Maps.has D) (Maps.size D) ⟨D, h1, hM, fun kl h => h, hf⟩ (fun kl hkl => (hf kl hkl).1) ((Below.refl w.heap.size w).grown h2 (Nat.le_refl _) (fun k hk => by cases hk)) h3
theorem wpList_mp_next (hg : o.guard = none) (it : Operand) (hop : o.op = Op.next it false) (k : TypeId) (K : Keyed P k) (b r n : Nat) (f : Lit → Option Value) (left : Lit → Bool) (cnt : Nat)
    (hit : a.eval it = .pointer (some ⟨r, 0, none⟩)) (h : MpR w P k b r n f left cnt)
    (hDone : (∀ kl, left kl = false) → wpList P ops Q rest (a.put o.dst (.tuple #[.bool false])) w)
    (hMore : ∀ (key v : Value) (kl : Lit) (w' : World) (cnt' : Nat), keyOf P k key = some kl → left kl = true → f kl = some v → MpR w' P k b r n f (fun z => left z && !z.sameKey kl) cnt' → cnt' < cnt → w.grownBy w' (some r) → w'.heap.size = w.heap.size →
      (Instr.entry (.pointer (some ⟨r, 0, none⟩))).run P w' = .ok (.tuple #[key, v]) w' → wpList P ops Q rest (a.put o.dst (.tuple #[.bool true, key, v])) w') :
    wpList P ops Q (o :: rest) a w := by
  obtain ⟨D, hD, hM, hl, hf⟩ := h
  refine wpList_next_ranges w hg it hop k K anyElem id id (fun key kl _ => ⟨key, rfl⟩) (fun v y _ => ⟨v, rfl⟩) b r n D left cnt hit hD (fun _ h => hDone h) ?_
  intro x c kl y w' cnt' hkey hlk hv hat hrg hlt hg1 hs1 hen
  have hk := K.key hkey
  obtain ⟨h1, h2⟩ := hf kl hk
  have hsome : (f kl).isSome = true := by rw [← h1]; exact hl kl hlk
  obtain ⟨u, hu⟩ := Option.isSome_iff_exists.1 hsome
  have huc : u = c := by
    have e1 := h2 u hu y.1
    rw [hat] at e1
    simp only [anyElem, id, Option.some.injEq] at hv
    rw [← hv] at e1
    simpa using e1.symm
  subst huc
  exact hMore x u kl w' cnt' hkey hlk hu ⟨D, hrg, hM, fun z hz => hl z (by simp only [Bool.and_eq_true] at hz; exact hz.1), hf⟩ hlt hg1 hs1 hen
end
end Wk
