
/- A range over a function value (bound or with what it holds) that calls its rounds for each element of a list: the law of the walk, of my own. -/
import Derived.Test.YtoecmoicaklbaaaPres
import Derived.RangeFuncNested
import Derived.RangeFuncBound
import Derived.RangeFuncCalls
import Derived.RangeFuncLeaves
import Derived.Shelf.Abstract
import Derived.Shelf.RegionOpen
import Derived.OwnWalkIn
import Derived.TacticsInMore
import Derived.LoopNIn
import Derived.LoopIn
import Derived.Sort.BigQuietIn
import Derived.Lib.QuietBelowIn
set_option linter.unusedVariables false
namespace Wk
open Go Go.RowKit Go.Sort Go.Shelf

/-- What a round that goes on owes: all blocks that are no cells stay, from B on; what lay below n₀ stays; the next word holds. -/
def roundOwesC (B n₀ : Nat) (I : Nat → World → Prop) (i : Nat) (W : World) : Exit → Act → World → Prop
  | .normal, _, W' => KeepsFrom B W W' ∧ Below n₀ W W' ∧ I i W'
  | _, _, _ => False
/-- What a caller knows between two rounds. -/
def HeldC (B : Nat) (lb : LoopState → Obj) (I : Nat → World → Prop) (i : Nat) (W : World) : Prop := I i W ∧ W.heap[B + 1]? = some (lb .ready) ∧ W.heap[B]? = some (.deferred (some []))

/-- An iterator that hands its rounds each element of a list, in order. -/
def ListsC {α : Type} (F : Fence) (n : Nat) (P : Program) (gf : FuncId) (bs cs : Array Value) (encs : α → Array Value) (n₀ : Nat) (xs : List α) (w : World) : Prop :=
  ∀ (l : Nat) (J : Nat → World → Prop) (W : World), Below n₀ w W →
    (∀ i x W1, xs[i]? = some x → J i W1 → YieldAt F (n - 1) P l (encs x) W1 fun e W' => e = .returned (.bool true) ∧ J (i + 1) W' ∧ Below n₀ W1 W') → (∀ i W1 W2, J i W1 → Below W1.heap.size W1 W2 → J i W2) → J 0 W →
    CallsIn F n P gf ((bs ++ #[.func (.yield l) #[] #[]]) ++ cs) W fun e W' => (∃ v, e = .returned v) ∧ J xs.length W'

section
variable {F : Fence} {n : Nat} {P : Program}
theorem range_held {α : Type} {g : Operand} {ps : Array Tmp} {assign body : Code} {Q : Exit → Act → World → Prop} {a : Act} {w : World}
    (hro : F.round = none) (h1 : 1 ≤ n) {gf : FuncId} {bs cs : Array Value} (hg : a.eval g = .func (.func gf) bs cs) (hFg : F.fn gf) (eg : ∀ args w, (callFunc gf args).run P w = .ok (.enter gf args) w)
    {encs : α → Array Value} (hps : ∀ x, (encs x).size = ps.size) {n₀ : Nat} (hn₀ : n₀ ≤ w.heap.size) {xs : List α} (hseq : ListsC F (n - 1) P gf bs cs encs n₀ xs w)
    (I : Nat → World → Prop) (hI : OwnFrom w.heap.size I) (h0 : I 0 w) (Ax : α → Act → World → Prop) (hAx : ∀ x a', OwnFrom w.heap.size (fun (_ : Unit) W => Ax x a' W))
    (hassign : ∀ (l i : Nat) (x : α) (W : World) (K : Act → World → Prop), xs[i]? = some x → I i W → (∀ a' W', KeepsFrom w.heap.size W W' → Below n₀ W W' → I i W' → Ax x a' W' → K a' W') →
      assign.wpIn (F.inRound l) (n - 1 - 1) P (Exit.then K (fun _ _ _ => False)) { tmps := (ps.zip (encs x)).foldl (fun t (p, v) => t.setIfInBounds p v) a.tmps, defers := [] } W)
    (hbody : ∀ (l i : Nat) (x : α) (a' : Act) (W : World), w.heap.size ≤ l → xs[i]? = some x → I i W → Ax x a' W → body.wpIn (F.inRound l) (n - 1 - 1) P (roundOwesC w.heap.size n₀ I (i + 1) W) a' W)
    (hdone : ∀ (D : Nat) (W : World), w.heap.size ≤ D → I xs.length W → W.heap[D]? = some (.deferred (some [])) → Q .normal { a with defers := { target := .collected D, args := #[] } :: a.defers } W) :
    (Code.rangeFunc g ps assign body).wpIn F n P Q a w := by
  refine wpIn_rangeFunc fun fn hfn => ?_
  rw [hro]
  obtain ⟨B, hB⟩ : ∃ B, B = w.heap.size := ⟨_, rfl⟩
  let R : LoopState → Loop := fun s => { state := s, pending := none, fn := fn, tmps := a.tmps, params := ps, assign := assign, body := body, defers := B }
  obtain ⟨W1, hW1⟩ : ∃ W1, W1 = (w.alloc (.deferred (some []))).alloc (.loop (R .ready)) := ⟨_, rfl⟩
  have sz : W1.heap.size = B + 1 + 1 := by rw [hW1, hB]; simp
  have bel : Below w.heap.size w W1 := by rw [hW1]; exact ((Below.refl _ _).alloc (Nat.le_refl _) _).alloc (by simp) _
  have start : HeldC B (fun s => .loop (R s)) I 0 W1 := by
    refine ⟨by rw [hW1]; exact hI.alloc _ (hI.alloc _ h0), ?_, ?_⟩
    · have h := World.alloc_heap_new (w.alloc (.deferred (some []))) (.loop (R .ready))
      rw [World.size_alloc] at h
      rw [hW1, hB]; exact h
    · rw [hW1, hB]
      exact (Below.heap_alloc _ _ _ (by simp)).trans (World.alloc_heap_new w _)
  rw [← hB] at hI hAx hbody hdone
  have turn : ∀ {i : Nat} {W : World} (s s' : LoopState), I i W → W.heap[B + 1]? = some (.loop (R s)) → I i (W.putObj (B + 1) (.loop (R s'))) := fun s s' hi hl => hI.putObj _ hi (Nat.le_succ _) hl rfl
  have kept : ∀ {W : World} (s s' : LoopState), W.heap[B + 1]? = some (.loop (R s)) → Below n₀ W (W.putObj (B + 1) (.loop (R s'))) := fun s s' hl =>
    belowK_b (w := w) hn₀ _ _ _ _ (by rw [← hB]; exact Nat.le_succ _) hl rfl rfl
  refine ⟨B + 1, [{ target := .collected B, args := #[] }], W1, { target := .fn (.func gf) cs, args := bs ++ #[.func (.yield (B + 1)) #[] #[]] }, W1, gf, (bs ++ #[.func (.yield (B + 1)) #[] #[]]) ++ cs, W1, ?_, ?_, ?_, ?_, fun _ => h1, ?_⟩
  · have h := run_enterLoop_outer (P := P) (w := w) fn a.tmps ps assign body
    rw [← hB] at h
    rw [hW1]; exact h
  · simp only [resolve, hg]
    simp [go_sem, Deferred.ofValue]
  · intro f' hf'
    simp [Target.leads] at hf'
    subst hf'; exact hFg
  · simp [invoke, go_sem, eg]
  · refine (hseq (B + 1) (HeldC B (fun s => .loop (R s)) I) W1 (bel.mono hn₀) ?_ ?_ start).mono ?_
    · rintro i x W hx ⟨hi, hl, hd⟩
      have hlt := (Array.getElem?_eq_some_iff.1 hl).1
      refine ⟨fn, _, assign, body, run_yield (P := P) (args := encs x) hl (hps x), roundIn_of_wpIn hfn (hassign _ i x W _ hx hi fun a' W2 k2 b2 i2 ax2 => ?_)⟩
      have l2 := k2.same _ _ (by rw [← hB]; exact Nat.le_succ _) hl rfl
      have d2 := k2.same _ _ (by rw [← hB]; exact Nat.le_refl _) hd rfl
      refine ⟨_, run_beginRound l2 rfl, ?_⟩
      have l3 : (W2.putObj (B + 1) (.loop (R .busy))).heap[B + 1]? = some (.loop (R .busy)) := World.putObj_heap_same (Array.getElem?_eq_some_iff.1 l2).1
      have d3 : (W2.putObj (B + 1) (.loop (R .busy))).heap[B]? = some (.deferred (some [])) := (World.putObj_heap_other (by omega)).trans d2
      refine wpIn_mono (hbody (B + 1) i x a' _ (Nat.le_succ _) hx (turn .ready .busy i2 l2) ((hAx x a').putObj (s := ()) _ ax2 (Nat.le_succ _) l2 rfl)) ?_
      rintro e a4 W4 hp
      cases e with
      | normal =>
        obtain ⟨k4, b4, i4⟩ := hp
        have l4 := k4.same _ _ (Nat.le_succ _) l3 rfl
        have d4 := k4.same _ _ (Nat.le_refl _) d3 rfl
        refine ⟨_, _, run_endRound (P := P) none l4, rfl, ⟨turn .busy .ready i4 l4, World.putObj_heap_same (Array.getElem?_eq_some_iff.1 l4).1, (World.putObj_heap_other (by omega)).trans d4⟩, ?_⟩
        exact ((b2.trans (kept .ready .busy l2)).trans b4).trans (kept .busy .ready l4)
      | exit id => exact hp.elim
      | goto t => exact hp.elim
      | ret => exact hp.elim
      | panic c => exact hp.elim
      | outgrown => exact hp.elim
    · rintro i W W2 ⟨hi, hl, hd⟩ b
      exact ⟨hI _ _ _ none hi ⟨b.os, b.tape, b.output, b.size, fun j hj _ => b.block j hj⟩ (fun r e => by cases e), (b.block _ (Array.getElem?_eq_some_iff.1 hl).1).trans hl, (b.block _ (Array.getElem?_eq_some_iff.1 hd).1).trans hd⟩
    · rintro e W2 ⟨⟨v, rfl⟩, hi, hl, hd⟩
      refine ⟨none, _, run_endLoop (P := P) hl (by simp [R]), ?_⟩
      exact hdone B _ (Nat.le_refl _) (turn .ready .exhausted hi hl) ((World.putObj_heap_other (by omega)).trans hd)
end
end Wk

namespace Go.Proofs.Ytoecmoicaklbaaa
open Go Go.RowKit Go.Sort Go.Shelf Wc Wk
theorem room_freeC {F : Fence} (hd : F.depth = none) (k : Nat) : F.room k := fun d h => by rw [hd] at h; cases h
theorem yield_anyC {F : Fence} (hd : F.depth = none) {m : Nat} (m' : Nat) {P : Program} {l : Nat} {args : Array Value} {W : World} {R : Ending → World → Prop} (h : YieldAt F m P l args W R) : YieldAt F m' P l args W R := by
  obtain ⟨fn, tmps, assign, body, hy, hR⟩ := h
  exact ⟨fn, tmps, assign, body, hy, hR.1, fun c cs _ => hR.2 c cs (room_freeC hd _)⟩
end Go.Proofs.Ytoecmoicaklbaaa
