
/- A range over a bound method that calls its rounds for each element of a list: the law of the walk, of my own. -/
import Derived.Test.YtoecmoicaklbaaaDoorKit
import Derived.RangeFuncNested
import Derived.RangeFuncBound
import Derived.RangeFuncCalls
import Derived.RangeFuncLeaves
import Derived.Shelf.Abstract
import Derived.Shelf.RegionOpen
import Derived.OwnWalkIn
import Derived.TacticsInMore
import Derived.LoopNIn
import Derived.LoopIn
import Derived.Test.YtoecmoicaklbaaaDoorTblY
import Derived.Sort.BigQuietIn
import Derived.Lib.QuietBelowIn
set_option linter.unusedVariables false
namespace Wk
open Go Go.RowKit Go.Sort Go.Shelf

/-- What a round that goes on owes: all blocks that are no cells stay, from B on; what lay below n₀ stays; the next word holds. -/
def roundOwes (B n₀ : Nat) (I : Nat → World → Prop) (i : Nat) (W : World) : Exit → Act → World → Prop
  | .normal, _, W' => KeepsFrom B W W' ∧ Below n₀ W W' ∧ I i W'
  | _, _, _ => False
/-- What a caller knows between two rounds. -/
def Held (B : Nat) (lb : LoopState → Obj) (I : Nat → World → Prop) (i : Nat) (W : World) : Prop := I i W ∧ W.heap[B + 1]? = some (lb .ready) ∧ W.heap[B]? = some (.deferred (some []))

/-- An iterator that hands its rounds each element of a list, in order. -/
def Lists {α : Type} (F : Fence) (n : Nat) (P : Program) (gf : FuncId) (bs : Array Value) (encs : α → Array Value) (n₀ : Nat) (xs : List α) (w : World) : Prop :=
  ∀ (l : Nat) (J : Nat → World → Prop) (W : World), Below n₀ w W →
    (∀ i x W1, xs[i]? = some x → J i W1 → YieldAt F (n - 1) P l (encs x) W1 fun e W' => e = .returned (.bool true) ∧ J (i + 1) W' ∧ Below n₀ W1 W') → (∀ i W1 k, J i W1 → J i (W1.drewN k)) → J 0 W →
    CallsIn F n P gf (bs ++ #[.func (.yield l) #[] #[]]) W fun e W' => (∃ v, e = .returned v) ∧ J xs.length W'

section
variable {F : Fence} {n : Nat} {P : Program}
theorem range_list {α : Type} {g : Operand} {ps : Array Tmp} {assign body : Code} {Q : Exit → Act → World → Prop} {a : Act} {w : World}
    (hro : F.round = none) (h1 : 1 ≤ n) {gf : FuncId} {bs : Array Value} (hg : a.eval g = .func (.func gf) bs #[]) (hFg : F.fn gf) (eg : ∀ args w, (callFunc gf args).run P w = .ok (.enter gf args) w)
    {encs : α → Array Value} (hps : ∀ x, (encs x).size = ps.size) {n₀ : Nat} (hn₀ : n₀ ≤ w.heap.size) {xs : List α} (hseq : Lists F (n - 1) P gf bs encs n₀ xs w)
    (I : Nat → World → Prop) (hI : OwnFrom w.heap.size I) (h0 : I 0 w) (Ax : α → Act → World → Prop) (hAx : ∀ x a', OwnFrom w.heap.size (fun (_ : Unit) W => Ax x a' W))
    (hassign : ∀ (l i : Nat) (x : α) (W : World) (K : Act → World → Prop), xs[i]? = some x → I i W → (∀ a' W', KeepsFrom w.heap.size W W' → Below n₀ W W' → I i W' → Ax x a' W' → K a' W') →
      assign.wpIn (F.inRound l) (n - 1 - 1) P (Exit.then K (fun _ _ _ => False)) { tmps := (ps.zip (encs x)).foldl (fun t (p, v) => t.setIfInBounds p v) a.tmps, defers := [] } W)
    (hbody : ∀ (l i : Nat) (x : α) (a' : Act) (W : World), w.heap.size ≤ l → xs[i]? = some x → I i W → Ax x a' W → body.wpIn (F.inRound l) (n - 1 - 1) P (roundOwes w.heap.size n₀ I (i + 1) W) a' W)
    (hdone : ∀ (D : Nat) (W : World), w.heap.size ≤ D → I xs.length W → W.heap[D]? = some (.deferred (some [])) → Q .normal { a with defers := { target := .collected D, args := #[] } :: a.defers } W) :
    (Code.rangeFunc g ps assign body).wpIn F n P Q a w := by
  refine wpIn_rangeFunc fun fn hfn => ?_
  rw [hro]
  obtain ⟨B, hB⟩ : ∃ B, B = w.heap.size := ⟨_, rfl⟩
  let R : LoopState → Loop := fun s => { state := s, pending := none, fn := fn, tmps := a.tmps, params := ps, assign := assign, body := body, defers := B }
  obtain ⟨W1, hW1⟩ : ∃ W1, W1 = (w.alloc (.deferred (some []))).alloc (.loop (R .ready)) := ⟨_, rfl⟩
  have sz : W1.heap.size = B + 1 + 1 := by rw [hW1, hB]; simp
  have bel : Below w.heap.size w W1 := by rw [hW1]; exact ((Below.refl _ _).alloc (Nat.le_refl _) _).alloc (by simp) _
  have start : Held B (fun s => .loop (R s)) I 0 W1 := by
    refine ⟨by rw [hW1]; exact hI.alloc _ (hI.alloc _ h0), ?_, ?_⟩
    · have h := World.alloc_heap_new (w.alloc (.deferred (some []))) (.loop (R .ready))
      rw [World.size_alloc] at h
      rw [hW1, hB]; exact h
    · rw [hW1, hB]
      exact (Below.heap_alloc _ _ _ (by simp)).trans (World.alloc_heap_new w _)
  rw [← hB] at hI hAx hbody hdone
  have turn : ∀ {i : Nat} {W : World} (s s' : LoopState), I i W → W.heap[B + 1]? = some (.loop (R s)) → I i (W.putObj (B + 1) (.loop (R s'))) := fun s s' hi hl => hI.putObj _ hi (Nat.le_succ _) hl rfl
  have kept : ∀ {W : World} (s s' : LoopState), W.heap[B + 1]? = some (.loop (R s)) → Below n₀ W (W.putObj (B + 1) (.loop (R s'))) := fun s s' hl =>
    belowK_b (w := w) hn₀ _ _ _ _ (by rw [← hB]; exact Nat.le_succ _) hl rfl rfl
  refine ⟨B + 1, [{ target := .collected B, args := #[] }], W1, { target := .fn (.func gf) #[], args := bs ++ #[.func (.yield (B + 1)) #[] #[]] }, W1, gf, bs ++ #[.func (.yield (B + 1)) #[] #[]], W1, ?_, ?_, ?_, ?_, fun _ => h1, ?_⟩
  · have h := run_enterLoop_outer (P := P) (w := w) fn a.tmps ps assign body
    rw [← hB] at h
    rw [hW1]; exact h
  · simp only [resolve, hg]
    simp [go_sem, Deferred.ofValue]
  · intro f' hf'
    simp [Target.leads] at hf'
    subst hf'; exact hFg
  · simp [invoke, go_sem, eg]
  · refine (hseq (B + 1) (Held B (fun s => .loop (R s)) I) W1 (bel.mono hn₀) ?_ ?_ start).mono ?_
    · rintro i x W hx ⟨hi, hl, hd⟩
      have hlt := (Array.getElem?_eq_some_iff.1 hl).1
      refine ⟨fn, _, assign, body, run_yield (P := P) (args := encs x) hl (hps x), roundIn_of_wpIn hfn (hassign _ i x W _ hx hi fun a' W2 k2 b2 i2 ax2 => ?_)⟩
      have l2 := k2.same _ _ (by rw [← hB]; exact Nat.le_succ _) hl rfl
      have d2 := k2.same _ _ (by rw [← hB]; exact Nat.le_refl _) hd rfl
      refine ⟨_, run_beginRound l2 rfl, ?_⟩
      have l3 : (W2.putObj (B + 1) (.loop (R .busy))).heap[B + 1]? = some (.loop (R .busy)) := World.putObj_heap_same (Array.getElem?_eq_some_iff.1 l2).1
      have d3 : (W2.putObj (B + 1) (.loop (R .busy))).heap[B]? = some (.deferred (some [])) := (World.putObj_heap_other (by omega)).trans d2
      refine wpIn_mono (hbody (B + 1) i x a' _ (Nat.le_succ _) hx (turn .ready .busy i2 l2) ((hAx x a').putObj (s := ()) _ ax2 (Nat.le_succ _) l2 rfl)) ?_
      rintro e a4 W4 hp
      cases e with
      | normal =>
        obtain ⟨k4, b4, i4⟩ := hp
        have l4 := k4.same _ _ (Nat.le_succ _) l3 rfl
        have d4 := k4.same _ _ (Nat.le_refl _) d3 rfl
        refine ⟨_, _, run_endRound (P := P) none l4, rfl, ⟨turn .busy .ready i4 l4, World.putObj_heap_same (Array.getElem?_eq_some_iff.1 l4).1, (World.putObj_heap_other (by omega)).trans d4⟩, ?_⟩
        exact ((b2.trans (kept .ready .busy l2)).trans b4).trans (kept .busy .ready l4)
      | exit id => exact hp.elim
      | goto t => exact hp.elim
      | ret => exact hp.elim
      | panic c => exact hp.elim
      | outgrown => exact hp.elim
    · rintro i W k ⟨hi, hl, hd⟩
      have b := below_drewN (Below.refl W.heap.size W) k
      exact ⟨hI _ _ _ none hi ⟨b.os, b.tape, b.output, b.size, fun j hj _ => b.block j hj⟩ (fun r e => by cases e), (b.block _ (Array.getElem?_eq_some_iff.1 hl).1).trans hl, (b.block _ (Array.getElem?_eq_some_iff.1 hd).1).trans hd⟩
    · rintro e W2 ⟨⟨v, rfl⟩, hi, hl, hd⟩
      refine ⟨none, _, run_endLoop (P := P) hl (by simp [R]), ?_⟩
      exact hdone B _ (Nat.le_refl _) (turn .ready .exhausted hi hl) ((World.putObj_heap_other (by omega)).trans hd)
end
end Wk

/- Contracts of package table: each, Each. -/
set_option linter.unusedVariables false
set_option linter.unusedSimpArgs false
namespace Go.Proofs.YtoecmoicaklbaaaDoor
open Go Go.RowKit Go.Sort Go.Shelf Wc Wk
attribute [local go_sem] Oper.semAt_some

theorem room_free {F : Fence} (hd : F.depth = none) (k : Nat) : F.room k := fun d h => by rw [hd] at h; cases h
theorem yield_any {F : Fence} (hd : F.depth = none) {m : Nat} (m' : Nat) {P : Program} {l : Nat} {args : Array Value} {W : World} {R : Ending → World → Prop} (h : YieldAt F m P l args W R) : YieldAt F m' P l args W R := by
  obtain ⟨fn, tmps, assign, body, hy, hR⟩ := h
  exact ⟨fn, tmps, assign, body, hy, hR.1, fun c cs _ => hR.2 c cs (room_free hd _)⟩
/-- A route as what a round is handed. -/
def encR (x : Nat × Nat × Nat) : Array Value := #[.agg #[.bool false, .int .u64 (hiOf false x.1), .int .u64 (loOf x.1), .int .i64 x.2.1, .int .i64 x.2.2]]
theorem brep_low {w w' : World} {n₀ : Nat} (hb : Below n₀ w w') : ∀ {t : BT}, BRep w t → (∀ b ∈ t.blocks, b < n₀) → BRep w' t
  | .nil, _, _ => trivial
  | .node b n k h l r, ⟨a, rl, rr⟩, hF =>
    have f := fun o => hb.cell (p := ⟨b, o, none⟩) (hF b (by simp [BT.blocks]))
    have z := fun o => hb.frozen (p := ⟨b, o, none⟩) (hF b (by simp [BT.blocks]))
    ⟨⟨Nat.lt_of_lt_of_le a.lt hb.size, (f _).trans a.c0, (f _).trans a.c1, (f _).trans a.c2, (f _).trans a.c3, (f _).trans a.c4, (f _).trans a.c5, (f _).trans a.c6, fun o ho => (z o).trans (a.fz o ho)⟩,
      brep_low hb rl (fun x hx => hF x (by simp [BT.blocks, hx])), brep_low hb rr (fun x hx => hF x (by simp [BT.blocks, hx]))⟩

set_option maxRecDepth 100000 in
set_option maxHeartbeats 1000000 in
theorem each_in (l n₀ : Nat) (xs : List (Nat × Nat × Nat)) (J : Nat → World → Prop)
    (hJn : ∀ i W k, J i W → J i (W.drewN k)) (hY : ∀ m i x W, xs[i]? = some x → J i W → YieldAt Fence.wide m Tryd.prog l (encR x) W fun e W' => e = .returned (.bool true) ∧ J (i + 1) W' ∧ Below n₀ W W') (T : BT) :
    ∀ (n i : Nat) (W : World), BRep W T → (∀ b ∈ T.blocks, b < n₀) → J i W → (∀ j y, T.list[j]? = some y → xs[i + j]? = some y) →
      CallsIn Fence.wide n Tryd.prog 47 #[ptrV T.ptr, .func (.yield l) #[] #[]] W fun e W' => e = .returned (.bool true) ∧ J (i + T.list.length) W' ∧ Below n₀ W W' := by
  induction T with
  | nil =>
    intro n i W _ _ hJ _
    refine callsIn_of_wp Tryd.func47 rfl trivial ?_ rfl
    simp only [Tryd.ntmps47, BT.ptr, ptrV, List.size_toArray, List.length_cons, List.length_nil, Nat.reduceAdd, Nat.reduceSub, Array.replicate_succ, Array.replicate_zero, List.push_toArray, List.append_toArray, List.nil_append, List.cons_append]
    gi_wp2
    go_ret
    exact ⟨rfl, hJ, Below.refl _ _⟩
  | node b n' k' h tl tr ihl ihr =>
    intro n i W ht hlt hJ hxs
    have hJd := fun k => hJn i W k hJ
    have hb : b < n₀ := hlt b (by simp [BT.blocks])
    have hll : ∀ x ∈ tl.blocks, x < n₀ := fun x hx => hlt x (by simp [BT.blocks, hx])
    have hlr : ∀ x ∈ tr.blocks, x < n₀ := fun x hx => hlt x (by simp [BT.blocks, hx])
    obtain ⟨⟨ltb, d0, d1, d2, d3, d4, d5, d6, _⟩, rl, rr⟩ := ht
    have hdd : ∀ k : Nat, (Fence.wide.depth.isSome = true → 1 ≤ k) := fun k h => by cases h
    by_cases h0 : h = 0
    · subst h0
      have el : (BT.node b n' k' 0 tl tr).list = tl.list ++ tr.list := by simp [BT.list, BT.nodes]
      rw [el] at hxs ⊢
      rw [List.length_append]
      refine callsIn_of_wp Tryd.func47 rfl trivial ?_ rfl
      simp only [Tryd.ntmps47, BT.ptr, ptrV, List.size_toArray, List.length_cons, List.length_nil, Nat.reduceAdd, Nat.reduceSub, Array.replicate_succ, Array.replicate_zero, List.push_toArray, List.append_toArray, List.nil_append, List.cons_append]
      have d4' : W.cell? ⟨b, 4, none⟩ = some (.int .i64 0) := d4
      clear d4
      gi_wp2
      refine wpIn_region_quiet_lit rfl (by kernel_rfl) (by kernel_rfl) ?_
      repeat (first | gi_big_quiet_step (fail) | (refine wpQuietIn_step (fun _ _ _ _ => trivial) (fun K hK => ?_); go_simp; refine hK _ ?_; clear hK K))
      refine wpQuietIn_nil ?_
      rintro _ ⟨nq, rfl⟩
      have ih1 := (ihl (n - 1) i _ (brep_low (below_drewN (Below.refl n₀ W) nq) rl hll) hll (hJd nq) (fun j y hj => hxs j y (by rw [List.getElem?_append_left (List.getElem?_eq_some_iff.1 hj).1]; exact hj)))
      gi_wp2_with (first
        | ((first | refine ⟨trivial, hdd _, ?_⟩ | refine ⟨hdd _, ?_⟩ | skip); refine ih1.mono ?_; clear ih1; rintro e W1 ⟨rfl, hJ1, hb1⟩; have rr1 := brep_low hb1 (brep_low (below_drewN (Below.refl n₀ W) nq) rr hlr) hlr; have c6 := (hb1.cell (p := ⟨b, 6, none⟩) hb).trans ((below_drewN (Below.refl n₀ W) nq).cell (p := ⟨b, 6, none⟩) hb |>.trans d6))
        | (refine ⟨trivial, hdd _, ?_⟩; refine (ihr (n - 1) (i + tl.list.length) _ rr1 hlr hJ1 (fun j y hj => by have := hxs (tl.list.length + j) y (by rw [List.getElem?_append_right (by omega), Nat.add_sub_cancel_left]; exact hj); rw [← Nat.add_assoc] at this; exact this)).mono ?_; rintro e W2 ⟨rfl, hJ2, hb2⟩))
      go_ret
      exact ⟨rfl, by rw [← Nat.add_assoc]; exact hJ2, ((below_drewN (Below.refl n₀ W) nq).trans hb1).trans hb2⟩
    · have el : (BT.node b n' k' h tl tr).list = (n', k', h) :: (tl.list ++ tr.list) := by simp [BT.list, BT.nodes, h0]
      rw [el] at hxs ⊢
      rw [List.length_cons, List.length_append]
      have hx0 := hxs 0 (n', k', h) rfl
      obtain ⟨fn, tmps, assign, body, hy, hR⟩ := hY (n - 1) i _ W.drew hx0 (hJd 1)
      have h0' : ((h : Int) == 0) = false := by rw [beq_eq_false_iff_ne]; omega
      have h0n : ¬ ((h : Int) = 0) := by omega
      have h0b : ((h : Int) != 0) = true := by rw [bne_iff_ne]; omega
      refine callsIn_of_wp Tryd.func47 rfl trivial ?_ rfl
      simp only [Tryd.ntmps47, BT.ptr, ptrV, List.size_toArray, List.length_cons, List.length_nil, Nat.reduceAdd, Nat.reduceSub, Array.replicate_succ, Array.replicate_zero, List.push_toArray, List.append_toArray, List.nil_append, List.cons_append]
      simp only [encR] at hy
      gi_wp2
      refine wpIn_region_any (by kernel_rfl) ?_
      change wpAnyIn _ _ _ _ _ _ _ _ _ (World.drew _)
      (refine wpAnyIn_take (i := 0) (oi := _) (v := ?_) rfl (by simp only [List.getElem?_toArray, List.getElem?_cons_zero, List.getElem?_cons_succ]; rfl) (by kernel_rfl) (by decide +kernel) (by decide +kernel) (by exact fun _ _ _ h => h) ⟨Or.inl ⟨by rfl, ?_⟩, fun _ => by rfl⟩ ?_; rotate_left; (· ((intro w); go_simp; (try with_reducible rfl))); (try simp only [Act.put, List.setIfInBounds_toArray, List.set_cons_zero, List.set_cons_succ]))
      (refine wpAnyIn_take (i := 1) (oi := _) (v := ?_) rfl (by simp only [List.getElem?_toArray, List.getElem?_cons_zero, List.getElem?_cons_succ]; rfl) (by kernel_rfl) (by decide +kernel) (by decide +kernel) (by exact fun _ _ _ h => h) ⟨Or.inl ⟨by rfl, ?_⟩, fun _ => by rfl⟩ ?_; rotate_left; (· ((intro w); go_simp; (try with_reducible rfl))); (try simp only [Act.put, List.setIfInBounds_toArray, List.set_cons_zero, List.set_cons_succ]))
      (refine wpAnyIn_take (i := 2) (oi := _) (v := ?_) rfl (by simp only [List.getElem?_toArray, List.getElem?_cons_zero, List.getElem?_cons_succ]; rfl) (by kernel_rfl) (by decide +kernel) (by decide +kernel) (by exact fun _ _ _ h => h) ⟨Or.inl ⟨by rfl, ?_⟩, fun _ => by rfl⟩ ?_; rotate_left; (· ((intro w); go_simp; (try with_reducible rfl))); (try simp only [Act.put, List.setIfInBounds_toArray, List.set_cons_zero, List.set_cons_succ]))
      repeat' (first
        | (refine wpAnyIn_take (i := 4) (oi := _) (v := ?_) rfl (by simp only [List.getElem?_toArray, List.getElem?_cons_zero, List.getElem?_cons_succ]; rfl) (by kernel_rfl) (by decide +kernel) (by decide +kernel) (by exact fun _ _ _ h => h) ⟨Or.inl ⟨by rfl, ?_⟩, fun _ => by rfl⟩ ?_; rotate_left; (· ((intro w); go_simp; (try with_reducible rfl))); (try simp only [Act.put, List.setIfInBounds_toArray, List.set_cons_zero, List.set_cons_succ]))
        | (refine wpAnyIn_take (i := 5) (oi := _) (v := ?_) rfl (by simp only [List.getElem?_toArray, List.getElem?_cons_zero, List.getElem?_cons_succ]; rfl) (by kernel_rfl) (by decide +kernel) (by decide +kernel) (by exact fun _ _ _ h => h) ⟨Or.inl ⟨by rfl, ?_⟩, fun _ => by rfl⟩ ?_; rotate_left; (· ((intro w); go_simp; (try with_reducible rfl))); (try simp only [Act.put, List.setIfInBounds_toArray, List.set_cons_zero, List.set_cons_succ]))
        | (refine wpAnyIn_take (i := 6) (oi := _) (v := ?_) rfl (by simp only [List.getElem?_toArray, List.getElem?_cons_zero, List.getElem?_cons_succ]; rfl) (by kernel_rfl) (by decide +kernel) (by decide +kernel) (by exact fun _ _ _ h => h) ⟨Or.inl ⟨by rfl, ?_⟩, fun _ => by rfl⟩ ?_; rotate_left; (· ((intro w); go_simp; (try with_reducible rfl))); (try simp only [Act.put, List.setIfInBounds_toArray, List.set_cons_zero, List.set_cons_succ]))
        | (refine wpAnyIn_take (i := 7) (oi := _) (v := ?_) rfl (by simp only [List.getElem?_toArray, List.getElem?_cons_zero, List.getElem?_cons_succ]; rfl) (by kernel_rfl) (by decide +kernel) (by decide +kernel) (by exact fun _ _ _ h => h) ⟨Or.inl ⟨by rfl, ?_⟩, fun _ => by rfl⟩ ?_; rotate_left; (· ((intro w); go_simp; (try with_reducible rfl))); (try simp only [Act.put, List.setIfInBounds_toArray, List.set_cons_zero, List.set_cons_succ]))
        | (refine wpAnyIn_take (i := 8) (oi := _) (v := ?_) rfl (by simp only [List.getElem?_toArray, List.getElem?_cons_zero, List.getElem?_cons_succ]; rfl) (by kernel_rfl) (by decide +kernel) (by decide +kernel) (by exact fun _ _ _ h => h) ⟨Or.inl ⟨by rfl, ?_⟩, fun _ => by rfl⟩ ?_; rotate_left; (· ((intro w); go_simp; (try with_reducible rfl))); (try simp only [Act.put, List.setIfInBounds_toArray, List.set_cons_zero, List.set_cons_succ]))
        | (refine wpAnyIn_take (i := 9) (oi := _) (v := ?_) rfl (by simp only [List.getElem?_toArray, List.getElem?_cons_zero, List.getElem?_cons_succ]; rfl) (by kernel_rfl) (by decide +kernel) (by decide +kernel) (by exact fun _ _ _ h => h) ⟨Or.inl ⟨by rfl, ?_⟩, fun _ => by rfl⟩ ?_; rotate_left; (· ((intro w); go_simp; (try with_reducible rfl))); (try simp only [Act.put, List.setIfInBounds_toArray, List.set_cons_zero, List.set_cons_succ]))
        | (refine wpAnyIn_take (i := 11) (oi := _) (v := ?_) rfl (by simp only [List.getElem?_toArray, List.getElem?_cons_zero, List.getElem?_cons_succ]; rfl) (by kernel_rfl) (by decide +kernel) (by decide +kernel) (by exact fun _ _ _ h => h) ⟨Or.inl ⟨by rfl, ?_⟩, fun _ => by rfl⟩ ?_; rotate_left; (· ((intro w); go_simp; (try with_reducible rfl))); (try simp only [Act.put, List.setIfInBounds_toArray, List.set_cons_zero, List.set_cons_succ]))
        | (refine wpAnyIn_take (i := 12) (oi := _) (v := ?_) rfl (by simp only [List.getElem?_toArray, List.getElem?_cons_zero, List.getElem?_cons_succ]; rfl) (by kernel_rfl) (by decide +kernel) (by decide +kernel) (by exact fun _ _ _ h => h) ⟨Or.inl ⟨by rfl, ?_⟩, fun _ => by rfl⟩ ?_; rotate_left; (· ((intro w); go_simp; (try with_reducible rfl))); (try simp only [Act.put, List.setIfInBounds_toArray, List.set_cons_zero, List.set_cons_succ]))
        | (refine wpAnyIn_take (i := 13) (oi := _) (v := ?_) rfl (by simp only [List.getElem?_toArray, List.getElem?_cons_zero, List.getElem?_cons_succ]; rfl) (by kernel_rfl) (by decide +kernel) (by decide +kernel) (by exact fun _ _ _ h => h) ⟨Or.inl ⟨by rfl, ?_⟩, fun _ => by rfl⟩ ?_; rotate_left; (· ((intro w); go_simp; (try with_reducible rfl))); (try simp only [Act.put, List.setIfInBounds_toArray, List.set_cons_zero, List.set_cons_succ]))
        | (refine wpAnyIn_take (i := 15) (oi := _) (v := ?_) rfl (by simp only [List.getElem?_toArray, List.getElem?_cons_zero, List.getElem?_cons_succ]; rfl) (by kernel_rfl) (by decide +kernel) (by decide +kernel) (by exact fun _ _ _ h => h) ⟨Or.inl ⟨by rfl, ?_⟩, fun _ => by rfl⟩ ?_; rotate_left; (· ((intro w); go_simp; (try with_reducible rfl))); (try simp only [Act.put, List.setIfInBounds_toArray, List.set_cons_zero, List.set_cons_succ]))
        | (refine wpAnyIn_take (i := 17) (oi := _) (v := ?_) rfl (by simp only [List.getElem?_toArray, List.getElem?_cons_zero, List.getElem?_cons_succ]; rfl) (by kernel_rfl) (by decide +kernel) (by decide +kernel) (by exact fun _ _ _ h => h) ⟨Or.inl ⟨by rfl, ?_⟩, fun _ => by rfl⟩ ?_; rotate_left; (· ((intro w); go_simp; (try with_reducible rfl))); (try simp only [Act.put, List.setIfInBounds_toArray, List.set_cons_zero, List.set_cons_succ]))
        | (refine wpAnyIn_take (i := 18) (oi := _) (v := ?_) rfl (by simp only [List.getElem?_toArray, List.getElem?_cons_zero, List.getElem?_cons_succ]; rfl) (by kernel_rfl) (by decide +kernel) (by decide +kernel) (by exact fun _ _ _ h => h) ⟨Or.inl ⟨by rfl, ?_⟩, fun _ => by rfl⟩ ?_; rotate_left; (· ((intro w); go_simp; (try with_reducible rfl))); (try simp only [Act.put, List.setIfInBounds_toArray, List.set_cons_zero, List.set_cons_succ]))
        | (refine wpAnyIn_ready (rs := [3]) (by decide +kernel) (by simp) (AllReadyIn.cons (by simp only [List.getElem?_toArray, List.getElem?_cons_zero, List.getElem?_cons_succ]; rfl) (fun K hK => ?_) AllReadyIn.nil); all_goals ((go_simp; (first | ((first | refine ⟨trivial, hdd _, ?_⟩ | refine ⟨hdd _, ?_⟩ | skip); refine hR.mono ?_; rintro e W2 ⟨rfl, hJ2, hb2⟩) | skip)); (refine hK _ _ ?_); (clear hK K; (try simp only [Act.put, List.setIfInBounds_toArray, List.set_cons_zero, List.set_cons_succ]))))
        | (refine wpAnyIn_ready (rs := [10, 14]) (by decide +kernel) (by simp) (AllReadyIn.cons (by simp only [List.getElem?_toArray, List.getElem?_cons_zero, List.getElem?_cons_succ]; rfl) (fun K hK => ?_) (AllReadyIn.cons (by simp only [List.getElem?_toArray, List.getElem?_cons_zero, List.getElem?_cons_succ]; rfl) (fun K hK => ?_) AllReadyIn.nil)); all_goals ((go_simp; (first | ((first | refine ⟨trivial, hdd _, ?_⟩ | refine ⟨hdd _, ?_⟩ | skip); refine hR.mono ?_; rintro e W2 ⟨rfl, hJ2, hb2⟩) | skip)); (refine hK _ _ ?_); (clear hK K; (try simp only [Act.put, List.setIfInBounds_toArray, List.set_cons_zero, List.set_cons_succ]))))
        | (refine wpAnyIn_ready (rs := [10]) (by decide +kernel) (by simp) (AllReadyIn.cons (by simp only [List.getElem?_toArray, List.getElem?_cons_zero, List.getElem?_cons_succ]; rfl) (fun K hK => ?_) AllReadyIn.nil); all_goals ((go_simp; (first | ((first | refine ⟨trivial, hdd _, ?_⟩ | refine ⟨hdd _, ?_⟩ | skip); refine hR.mono ?_; rintro e W2 ⟨rfl, hJ2, hb2⟩) | skip)); (refine hK _ _ ?_); (clear hK K; (try simp only [Act.put, List.setIfInBounds_toArray, List.set_cons_zero, List.set_cons_succ]))))
        | (refine wpAnyIn_ready (rs := [14]) (by decide +kernel) (by simp) (AllReadyIn.cons (by simp only [List.getElem?_toArray, List.getElem?_cons_zero, List.getElem?_cons_succ]; rfl) (fun K hK => ?_) AllReadyIn.nil); all_goals ((go_simp; (first | ((first | refine ⟨trivial, hdd _, ?_⟩ | refine ⟨hdd _, ?_⟩ | skip); refine hR.mono ?_; rintro e W2 ⟨rfl, hJ2, hb2⟩) | skip)); (refine hK _ _ ?_); (clear hK K; (try simp only [Act.put, List.setIfInBounds_toArray, List.set_cons_zero, List.set_cons_succ]))))
        | (refine wpAnyIn_ready (rs := [15]) (by decide +kernel) (by simp) (AllReadyIn.cons (by simp only [List.getElem?_toArray, List.getElem?_cons_zero, List.getElem?_cons_succ]; rfl) (fun K hK => ?_) AllReadyIn.nil); all_goals ((go_simp; (first | ((first | refine ⟨trivial, hdd _, ?_⟩ | refine ⟨hdd _, ?_⟩ | skip); refine hR.mono ?_; rintro e W2 ⟨rfl, hJ2, hb2⟩) | skip)); (refine hK _ _ ?_); (clear hK K; (try simp only [Act.put, List.setIfInBounds_toArray, List.set_cons_zero, List.set_cons_succ]))))
        | (refine wpAnyIn_ready (rs := [16]) (by decide +kernel) (by simp) (AllReadyIn.cons (by simp only [List.getElem?_toArray, List.getElem?_cons_zero, List.getElem?_cons_succ]; rfl) (fun K hK => ?_) AllReadyIn.nil); all_goals ((go_simp; (first | ((first | refine ⟨trivial, hdd _, ?_⟩ | refine ⟨hdd _, ?_⟩ | skip); refine hR.mono ?_; rintro e W2 ⟨rfl, hJ2, hb2⟩) | skip)); (refine hK _ _ ?_); (clear hK K; (try simp only [Act.put, List.setIfInBounds_toArray, List.set_cons_zero, List.set_cons_succ]))))
        | (refine wpAnyIn_done (by decide +kernel) ?_ _)
        | fail)
      all_goals (
        have hbd : Below n₀ W W2 := (Below.drew (Below.refl n₀ W)).trans hb2
        have rl2 := brep_low hbd rl hll
        have rr2 := brep_low hbd rr hlr
        have e5 := (hbd.cell (p := ⟨b, 5, none⟩) hb).trans d5
        have e6 := (hbd.cell (p := ⟨b, 6, none⟩) hb).trans d6
        have ih1 := ihl (n - 1) (i + 1) W2 rl2 hll hJ2 (fun j y hj => by
          have := hxs (1 + j) y (by rw [Nat.add_comm, List.getElem?_cons_succ, List.getElem?_append_left (List.getElem?_eq_some_iff.1 hj).1]; exact hj)
          rw [← Nat.add_assoc] at this; exact this)
        clear hR hy hb2 d0 d1 d2 d3 d4 d5 d6
        gi_wp2_with (first
          | ((first | refine ⟨trivial, hdd _, ?_⟩ | refine ⟨hdd _, ?_⟩ | skip); refine ih1.mono ?_; clear ih1; rintro e W3 ⟨rfl, hJ3, hb3⟩; have rr3 := brep_low hb3 rr2 hlr; have c6 := (hb3.cell (p := ⟨b, 6, none⟩) hb).trans e6)
          | (refine ⟨trivial, hdd _, ?_⟩; refine (ihr (n - 1) (i + 1 + tl.list.length) _ rr3 hlr hJ3 (fun j y hj => by
              have := hxs (1 + tl.list.length + j) y (by
                rw [show 1 + tl.list.length + j = (tl.list.length + j) + 1 by omega, List.getElem?_cons_succ, List.getElem?_append_right (by omega), Nat.add_sub_cancel_left]; exact hj)
              rw [show i + (1 + tl.list.length + j) = i + 1 + tl.list.length + j by omega] at this; exact this)).mono ?_; rintro e W4 ⟨rfl, hJ4, hb4⟩))
        go_ret
        exact ⟨rfl, by rw [show i + (tl.list.length + tr.list.length + 1) = i + 1 + tl.list.length + tr.list.length by omega]; exact hJ4, (hbd.trans hb3).trans hb4⟩)
end Go.Proofs.YtoecmoicaklbaaaDoor

/- Contracts of package table: Each. -/
set_option linter.unusedVariables false
set_option linter.unusedSimpArgs false
namespace Go.Proofs.YtoecmoicaklbaaaDoor
open Go Go.RowKit Go.Sort Go.Shelf Wc Wk
attribute [local go_sem] Oper.semAt_some

set_option maxRecDepth 100000 in
set_option maxHeartbeats 1000000 in
/-- The whole table, in order. -/
theorem Each_in (tb cnt n₀ : Nat) (T : BT) (w : World) (ht : TabR w tb T cnt) (hlt : ∀ b ∈ tb :: T.blocks, b < n₀) (n : Nat) :
    Lists Fence.wide n Tryd.prog 30 #[.pointer (some ⟨tb, 0, none⟩)] encR n₀ T.list w := by
  intro l J W hbW hY hJn h0
  have htb : tb < n₀ := hlt tb List.mem_cons_self
  have hr : BRep W T := brep_low hbW ht.rep (fun x hx => hlt x (List.mem_cons_of_mem _ hx))
  have c0 := (hbW.cell (p := ⟨tb, 0, none⟩) htb).trans ht.tab.r0
  have c1 := (hbW.cell (p := ⟨tb, 1, none⟩) htb).trans ht.tab.r1
  rw [show rootP [] T.ptr = T.ptr from rfl] at c0
  have E1 := Lib.hid (each_in l n₀ T.list J hJn (fun m i x W1 hx hj => yield_any rfl m (hY i x W1 hx hj)) T (n - 1) 0 W hr (fun x hx => hlt x (List.mem_cons_of_mem _ hx)) h0 (fun j y hj => by rw [Nat.zero_add]; exact hj))
  have E2 := Lib.hid (fun W1 (hj : J (0 + T.list.length) W1) => each_in l n₀ T.list J hJn (fun m i x W1 hx hj => yield_any rfl m (hY i x W1 hx hj)) .nil (n - 1) (0 + T.list.length) W1 trivial (fun x hx => by cases hx) hj (fun j y hj => by cases hj))
  clear hY hJn
  generalize ptrV T.ptr = pv at *
  have hdd : ∀ k : Nat, (Fence.wide.depth.isSome = true → 1 ≤ k) := fun k h => by cases h
  refine callsIn_of_wp Tryd.func30 rfl trivial ?_ rfl
  simp only [Tryd.ntmps30, List.size_toArray, List.length_cons, List.length_nil, Nat.reduceAdd, Nat.reduceSub, Array.replicate_succ, Array.replicate_zero, List.push_toArray, List.append_toArray, List.nil_append, List.cons_append]
  have i0 : ∀ w, (Instr.index 97 (.agg #[pv, .pointer none]) (.int .i64 0)).run Tryd.prog w = .ok pv w := fun _ => by kernel_rfl
  have i1 : ∀ w, (Instr.index 97 (.agg #[pv, .pointer none]) (.int .i64 1)).run Tryd.prog w = .ok (.pointer none) w := fun _ => by kernel_rfl
  gi_wp2
  gi_loopw [10] (fun i wr => (i = .int .i64 0 ∧ wr = W) ∨ (i = .int .i64 1 ∧ J (0 + T.list.length) wr) ∨ (i = .int .i64 2 ∧ J (0 + T.list.length) wr)) (fun i _ => 2 - (intOf i).toNat)
  case atStart => exact .inl ⟨rfl, rfl⟩
  case round =>
    rcases hrel with ⟨rfl, rfl⟩ | ⟨rfl, hJ1⟩ | ⟨rfl, hJ2⟩
    · gi_wp2_with (first | ((first | refine ⟨trivial, hdd _, ?_⟩ | refine ⟨hdd _, ?_⟩ | skip); refine E1.out.mono ?_; rintro e W1 ⟨rfl, hJ1, hb1⟩))
      go_roundw
      case rel => exact .inr (.inl ⟨rfl, hJ1⟩)
      case measure => decide
    · gi_wp2_with (first | ((first | refine ⟨trivial, hdd _, ?_⟩ | refine ⟨hdd _, ?_⟩ | skip); refine (E2.out _ hJ1).mono ?_; rintro e W2 ⟨rfl, hJ2, hb2⟩))
      go_roundw
      case rel => exact .inr (.inr ⟨rfl, hJ2⟩)
      case measure => decide
    · gi_wp2
      go_end0
      exact ⟨⟨_, rfl⟩, by rw [Nat.zero_add] at hJ2; exact hJ2⟩
end Go.Proofs.YtoecmoicaklbaaaDoor
