
/- Contracts of package table: each, Each. -/
import Derived.Test.YteadfobfenopkaaTblY
import Derived.Test.YteadfobfenopkaaIter
import Derived.Sort.BigQuietIn
import Derived.Lib.QuietBelowIn
set_option linter.unusedVariables false
set_option linter.unusedSimpArgs false
namespace Go.Proofs.Yteadfobfenopkaa
open Go Go.RowKit Go.Sort Go.Shelf Wc Wk
attribute [local go_sem] Oper.semAt_some

theorem room_free {F : Fence} (hd : F.depth = none) (k : Nat) : F.room k := fun d h => by rw [hd] at h; cases h
theorem yield_any {F : Fence} (hd : F.depth = none) {m : Nat} (m' : Nat) {P : Program} {l : Nat} {args : Array Value} {W : World} {R : Ending → World → Prop} (h : YieldAt F m P l args W R) : YieldAt F m' P l args W R := by
  obtain ⟨fn, tmps, assign, body, hy, hR⟩ := h
  exact ⟨fn, tmps, assign, body, hy, hR.1, fun c cs _ => hR.2 c cs (room_free hd _)⟩
/-- A route as what a round is handed. -/
def encR (x : Nat × Nat × Nat) : Array Value := #[.agg #[.bool false, .int .u64 (hiOf false x.1), .int .u64 (loOf x.1), .int .i64 x.2.1, .int .i64 x.2.2]]
theorem brep_low {w w' : World} {n₀ : Nat} (hb : Below n₀ w w') : ∀ {t : BT}, BRep w t → (∀ b ∈ t.blocks, b < n₀) → BRep w' t
  | .nil, _, _ => trivial
  | .node b n k h l r, ⟨a, rl, rr⟩, hF =>
    have f := fun o => hb.cell (p := ⟨b, o, none⟩) (hF b (by simp [BT.blocks]))
    have z := fun o => hb.frozen (p := ⟨b, o, none⟩) (hF b (by simp [BT.blocks]))
    ⟨⟨Nat.lt_of_lt_of_le a.lt hb.size, (f _).trans a.c0, (f _).trans a.c1, (f _).trans a.c2, (f _).trans a.c3, (f _).trans a.c4, (f _).trans a.c5, (f _).trans a.c6, fun o ho => (z o).trans (a.fz o ho)⟩,
      brep_low hb rl (fun x hx => hF x (by simp [BT.blocks, hx])), brep_low hb rr (fun x hx => hF x (by simp [BT.blocks, hx]))⟩

set_option maxRecDepth 100000 in
set_option maxHeartbeats 1000000 in
theorem each_in (l n₀ : Nat) (xs : List (Nat × Nat × Nat)) (J : Nat → World → Prop)
    (hJn : ∀ i W k, J i W → J i (W.drewN k)) (hY : ∀ m i x W, xs[i]? = some x → J i W → YieldAt Fence.wide m Try.prog l (encR x) W fun e W' => e = .returned (.bool true) ∧ J (i + 1) W' ∧ Below n₀ W W') (T : BT) :
    ∀ (n i : Nat) (W : World), BRep W T → (∀ b ∈ T.blocks, b < n₀) → J i W → (∀ j y, T.list[j]? = some y → xs[i + j]? = some y) →
      CallsIn Fence.wide n Try.prog 69 #[ptrV T.ptr, .func (.yield l) #[] #[]] W fun e W' => e = .returned (.bool true) ∧ J (i + T.list.length) W' ∧ Below n₀ W W' := by
  induction T with
  | nil =>
    intro n i W _ _ hJ _
    refine callsIn_of_wp Try.func69 rfl trivial ?_ rfl
    simp only [Try.ntmps69, BT.ptr, ptrV, List.size_toArray, List.length_cons, List.length_nil, Nat.reduceAdd, Nat.reduceSub, Array.replicate_succ, Array.replicate_zero, List.push_toArray, List.append_toArray, List.nil_append, List.cons_append]
    gi_wp2
    go_ret
    exact ⟨rfl, hJ, Below.refl _ _⟩
  | node b n' k' h tl tr ihl ihr =>
    intro n i W ht hlt hJ hxs
    have hJd := fun k => hJn i W k hJ
    have hb : b < n₀ := hlt b (by simp [BT.blocks])
    have hll : ∀ x ∈ tl.blocks, x < n₀ := fun x hx => hlt x (by simp [BT.blocks, hx])
    have hlr : ∀ x ∈ tr.blocks, x < n₀ := fun x hx => hlt x (by simp [BT.blocks, hx])
    obtain ⟨⟨ltb, d0, d1, d2, d3, d4, d5, d6, _⟩, rl, rr⟩ := ht
    have hdd : ∀ k : Nat, (Fence.wide.depth.isSome = true → 1 ≤ k) := fun k h => by cases h
    by_cases h0 : h = 0
    · subst h0
      have el : (BT.node b n' k' 0 tl tr).list = tl.list ++ tr.list := by simp [BT.list, BT.nodes]
      rw [el] at hxs ⊢
      rw [List.length_append]
      refine callsIn_of_wp Try.func69 rfl trivial ?_ rfl
      simp only [Try.ntmps69, BT.ptr, ptrV, List.size_toArray, List.length_cons, List.length_nil, Nat.reduceAdd, Nat.reduceSub, Array.replicate_succ, Array.replicate_zero, List.push_toArray, List.append_toArray, List.nil_append, List.cons_append]
      have d4' : W.cell? ⟨b, 4, none⟩ = some (.int .i64 0) := d4
      clear d4
      gi_wp2
      refine wpIn_region_quiet_lit rfl (by kernel_rfl) (by kernel_rfl) ?_
      repeat (first | gi_big_quiet_step (fail) | (refine wpQuietIn_step (fun _ _ _ _ => trivial) (fun K hK => ?_); go_simp; refine hK _ ?_; clear hK K))
      refine wpQuietIn_nil ?_
      rintro _ ⟨nq, rfl⟩
      have ih1 := (ihl (n - 1) i _ (brep_low (below_drewN (Below.refl n₀ W) nq) rl hll) hll (hJd nq) (fun j y hj => hxs j y (by rw [List.getElem?_append_left (List.getElem?_eq_some_iff.1 hj).1]; exact hj)))
      gi_wp2_with (first
        | ((first | refine ⟨trivial, hdd _, ?_⟩ | refine ⟨hdd _, ?_⟩ | skip); refine ih1.mono ?_; clear ih1; rintro e W1 ⟨rfl, hJ1, hb1⟩; have rr1 := brep_low hb1 (brep_low (below_drewN (Below.refl n₀ W) nq) rr hlr) hlr; have c6 := (hb1.cell (p := ⟨b, 6, none⟩) hb).trans ((below_drewN (Below.refl n₀ W) nq).cell (p := ⟨b, 6, none⟩) hb |>.trans d6))
        | (refine ⟨trivial, hdd _, ?_⟩; refine (ihr (n - 1) (i + tl.list.length) _ rr1 hlr hJ1 (fun j y hj => by have := hxs (tl.list.length + j) y (by rw [List.getElem?_append_right (by omega), Nat.add_sub_cancel_left]; exact hj); rw [← Nat.add_assoc] at this; exact this)).mono ?_; rintro e W2 ⟨rfl, hJ2, hb2⟩))
      go_ret
      exact ⟨rfl, by rw [← Nat.add_assoc]; exact hJ2, ((below_drewN (Below.refl n₀ W) nq).trans hb1).trans hb2⟩
    · have el : (BT.node b n' k' h tl tr).list = (n', k', h) :: (tl.list ++ tr.list) := by simp [BT.list, BT.nodes, h0]
      rw [el] at hxs ⊢
      rw [List.length_cons, List.length_append]
      have hx0 := hxs 0 (n', k', h) rfl
      obtain ⟨fn, tmps, assign, body, hy, hR⟩ := hY (n - 1) i _ W.drew hx0 (hJd 1)
      have h0' : ((h : Int) == 0) = false := by rw [beq_eq_false_iff_ne]; omega
      have h0n : ¬ ((h : Int) = 0) := by omega
      have h0b : ((h : Int) != 0) = true := by rw [bne_iff_ne]; omega
      refine callsIn_of_wp Try.func69 rfl trivial ?_ rfl
      simp only [Try.ntmps69, BT.ptr, ptrV, List.size_toArray, List.length_cons, List.length_nil, Nat.reduceAdd, Nat.reduceSub, Array.replicate_succ, Array.replicate_zero, List.push_toArray, List.append_toArray, List.nil_append, List.cons_append]
      simp only [encR] at hy
      gi_wp2
      refine wpIn_region_any (by kernel_rfl) ?_
      change wpAnyIn _ _ _ _ _ _ _ _ _ (World.drew _)
      (refine wpAnyIn_take (i := 0) (oi := _) (v := ?_) rfl (by simp only [List.getElem?_toArray, List.getElem?_cons_zero, List.getElem?_cons_succ]; rfl) (by kernel_rfl) (by decide +kernel) (by decide +kernel) (by exact fun _ _ _ h => h) ⟨Or.inl ⟨by rfl, ?_⟩, fun _ => by rfl⟩ ?_; rotate_left; (· ((intro w); go_simp; (try with_reducible rfl))); (try simp only [Act.put, List.setIfInBounds_toArray, List.set_cons_zero, List.set_cons_succ]))
      (refine wpAnyIn_take (i := 1) (oi := _) (v := ?_) rfl (by simp only [List.getElem?_toArray, List.getElem?_cons_zero, List.getElem?_cons_succ]; rfl) (by kernel_rfl) (by decide +kernel) (by decide +kernel) (by exact fun _ _ _ h => h) ⟨Or.inl ⟨by rfl, ?_⟩, fun _ => by rfl⟩ ?_; rotate_left; (· ((intro w); go_simp; (try with_reducible rfl))); (try simp only [Act.put, List.setIfInBounds_toArray, List.set_cons_zero, List.set_cons_succ]))
      (refine wpAnyIn_take (i := 2) (oi := _) (v := ?_) rfl (by simp only [List.getElem?_toArray, List.getElem?_cons_zero, List.getElem?_cons_succ]; rfl) (by kernel_rfl) (by decide +kernel) (by decide +kernel) (by exact fun _ _ _ h => h) ⟨Or.inl ⟨by rfl, ?_⟩, fun _ => by rfl⟩ ?_; rotate_left; (· ((intro w); go_simp; (try with_reducible rfl))); (try simp only [Act.put, List.setIfInBounds_toArray, List.set_cons_zero, List.set_cons_succ]))
      repeat' (first
        | (refine wpAnyIn_take (i := 4) (oi := _) (v := ?_) rfl (by simp only [List.getElem?_toArray, List.getElem?_cons_zero, List.getElem?_cons_succ]; rfl) (by kernel_rfl) (by decide +kernel) (by decide +kernel) (by exact fun _ _ _ h => h) ⟨Or.inl ⟨by rfl, ?_⟩, fun _ => by rfl⟩ ?_; rotate_left; (· ((intro w); go_simp; (try with_reducible rfl))); (try simp only [Act.put, List.setIfInBounds_toArray, List.set_cons_zero, List.set_cons_succ]))
        | (refine wpAnyIn_take (i := 5) (oi := _) (v := ?_) rfl (by simp only [List.getElem?_toArray, List.getElem?_cons_zero, List.getElem?_cons_succ]; rfl) (by kernel_rfl) (by decide +kernel) (by decide +kernel) (by exact fun _ _ _ h => h) ⟨Or.inl ⟨by rfl, ?_⟩, fun _ => by rfl⟩ ?_; rotate_left; (· ((intro w); go_simp; (try with_reducible rfl))); (try simp only [Act.put, List.setIfInBounds_toArray, List.set_cons_zero, List.set_cons_succ]))
        | (refine wpAnyIn_take (i := 6) (oi := _) (v := ?_) rfl (by simp only [List.getElem?_toArray, List.getElem?_cons_zero, List.getElem?_cons_succ]; rfl) (by kernel_rfl) (by decide +kernel) (by decide +kernel) (by exact fun _ _ _ h => h) ⟨Or.inl ⟨by rfl, ?_⟩, fun _ => by rfl⟩ ?_; rotate_left; (· ((intro w); go_simp; (try with_reducible rfl))); (try simp only [Act.put, List.setIfInBounds_toArray, List.set_cons_zero, List.set_cons_succ]))
        | (refine wpAnyIn_take (i := 7) (oi := _) (v := ?_) rfl (by simp only [List.getElem?_toArray, List.getElem?_cons_zero, List.getElem?_cons_succ]; rfl) (by kernel_rfl) (by decide +kernel) (by decide +kernel) (by exact fun _ _ _ h => h) ⟨Or.inl ⟨by rfl, ?_⟩, fun _ => by rfl⟩ ?_; rotate_left; (· ((intro w); go_simp; (try with_reducible rfl))); (try simp only [Act.put, List.setIfInBounds_toArray, List.set_cons_zero, List.set_cons_succ]))
        | (refine wpAnyIn_take (i := 8) (oi := _) (v := ?_) rfl (by simp only [List.getElem?_toArray, List.getElem?_cons_zero, List.getElem?_cons_succ]; rfl) (by kernel_rfl) (by decide +kernel) (by decide +kernel) (by exact fun _ _ _ h => h) ⟨Or.inl ⟨by rfl, ?_⟩, fun _ => by rfl⟩ ?_; rotate_left; (· ((intro w); go_simp; (try with_reducible rfl))); (try simp only [Act.put, List.setIfInBounds_toArray, List.set_cons_zero, List.set_cons_succ]))
        | (refine wpAnyIn_take (i := 9) (oi := _) (v := ?_) rfl (by simp only [List.getElem?_toArray, List.getElem?_cons_zero, List.getElem?_cons_succ]; rfl) (by kernel_rfl) (by decide +kernel) (by decide +kernel) (by exact fun _ _ _ h => h) ⟨Or.inl ⟨by rfl, ?_⟩, fun _ => by rfl⟩ ?_; rotate_left; (· ((intro w); go_simp; (try with_reducible rfl))); (try simp only [Act.put, List.setIfInBounds_toArray, List.set_cons_zero, List.set_cons_succ]))
        | (refine wpAnyIn_take (i := 11) (oi := _) (v := ?_) rfl (by simp only [List.getElem?_toArray, List.getElem?_cons_zero, List.getElem?_cons_succ]; rfl) (by kernel_rfl) (by decide +kernel) (by decide +kernel) (by exact fun _ _ _ h => h) ⟨Or.inl ⟨by rfl, ?_⟩, fun _ => by rfl⟩ ?_; rotate_left; (· ((intro w); go_simp; (try with_reducible rfl))); (try simp only [Act.put, List.setIfInBounds_toArray, List.set_cons_zero, List.set_cons_succ]))
        | (refine wpAnyIn_take (i := 12) (oi := _) (v := ?_) rfl (by simp only [List.getElem?_toArray, List.getElem?_cons_zero, List.getElem?_cons_succ]; rfl) (by kernel_rfl) (by decide +kernel) (by decide +kernel) (by exact fun _ _ _ h => h) ⟨Or.inl ⟨by rfl, ?_⟩, fun _ => by rfl⟩ ?_; rotate_left; (· ((intro w); go_simp; (try with_reducible rfl))); (try simp only [Act.put, List.setIfInBounds_toArray, List.set_cons_zero, List.set_cons_succ]))
        | (refine wpAnyIn_take (i := 13) (oi := _) (v := ?_) rfl (by simp only [List.getElem?_toArray, List.getElem?_cons_zero, List.getElem?_cons_succ]; rfl) (by kernel_rfl) (by decide +kernel) (by decide +kernel) (by exact fun _ _ _ h => h) ⟨Or.inl ⟨by rfl, ?_⟩, fun _ => by rfl⟩ ?_; rotate_left; (· ((intro w); go_simp; (try with_reducible rfl))); (try simp only [Act.put, List.setIfInBounds_toArray, List.set_cons_zero, List.set_cons_succ]))
        | (refine wpAnyIn_take (i := 15) (oi := _) (v := ?_) rfl (by simp only [List.getElem?_toArray, List.getElem?_cons_zero, List.getElem?_cons_succ]; rfl) (by kernel_rfl) (by decide +kernel) (by decide +kernel) (by exact fun _ _ _ h => h) ⟨Or.inl ⟨by rfl, ?_⟩, fun _ => by rfl⟩ ?_; rotate_left; (· ((intro w); go_simp; (try with_reducible rfl))); (try simp only [Act.put, List.setIfInBounds_toArray, List.set_cons_zero, List.set_cons_succ]))
        | (refine wpAnyIn_take (i := 17) (oi := _) (v := ?_) rfl (by simp only [List.getElem?_toArray, List.getElem?_cons_zero, List.getElem?_cons_succ]; rfl) (by kernel_rfl) (by decide +kernel) (by decide +kernel) (by exact fun _ _ _ h => h) ⟨Or.inl ⟨by rfl, ?_⟩, fun _ => by rfl⟩ ?_; rotate_left; (· ((intro w); go_simp; (try with_reducible rfl))); (try simp only [Act.put, List.setIfInBounds_toArray, List.set_cons_zero, List.set_cons_succ]))
        | (refine wpAnyIn_take (i := 18) (oi := _) (v := ?_) rfl (by simp only [List.getElem?_toArray, List.getElem?_cons_zero, List.getElem?_cons_succ]; rfl) (by kernel_rfl) (by decide +kernel) (by decide +kernel) (by exact fun _ _ _ h => h) ⟨Or.inl ⟨by rfl, ?_⟩, fun _ => by rfl⟩ ?_; rotate_left; (· ((intro w); go_simp; (try with_reducible rfl))); (try simp only [Act.put, List.setIfInBounds_toArray, List.set_cons_zero, List.set_cons_succ]))
        | (refine wpAnyIn_ready (rs := [3]) (by decide +kernel) (by simp) (AllReadyIn.cons (by simp only [List.getElem?_toArray, List.getElem?_cons_zero, List.getElem?_cons_succ]; rfl) (fun K hK => ?_) AllReadyIn.nil); all_goals ((go_simp; (first | ((first | refine ⟨trivial, hdd _, ?_⟩ | refine ⟨hdd _, ?_⟩ | skip); refine hR.mono ?_; rintro e W2 ⟨rfl, hJ2, hb2⟩) | skip)); (refine hK _ _ ?_); (clear hK K; (try simp only [Act.put, List.setIfInBounds_toArray, List.set_cons_zero, List.set_cons_succ]))))
        | (refine wpAnyIn_ready (rs := [10, 14]) (by decide +kernel) (by simp) (AllReadyIn.cons (by simp only [List.getElem?_toArray, List.getElem?_cons_zero, List.getElem?_cons_succ]; rfl) (fun K hK => ?_) (AllReadyIn.cons (by simp only [List.getElem?_toArray, List.getElem?_cons_zero, List.getElem?_cons_succ]; rfl) (fun K hK => ?_) AllReadyIn.nil)); all_goals ((go_simp; (first | ((first | refine ⟨trivial, hdd _, ?_⟩ | refine ⟨hdd _, ?_⟩ | skip); refine hR.mono ?_; rintro e W2 ⟨rfl, hJ2, hb2⟩) | skip)); (refine hK _ _ ?_); (clear hK K; (try simp only [Act.put, List.setIfInBounds_toArray, List.set_cons_zero, List.set_cons_succ]))))
        | (refine wpAnyIn_ready (rs := [10]) (by decide +kernel) (by simp) (AllReadyIn.cons (by simp only [List.getElem?_toArray, List.getElem?_cons_zero, List.getElem?_cons_succ]; rfl) (fun K hK => ?_) AllReadyIn.nil); all_goals ((go_simp; (first | ((first | refine ⟨trivial, hdd _, ?_⟩ | refine ⟨hdd _, ?_⟩ | skip); refine hR.mono ?_; rintro e W2 ⟨rfl, hJ2, hb2⟩) | skip)); (refine hK _ _ ?_); (clear hK K; (try simp only [Act.put, List.setIfInBounds_toArray, List.set_cons_zero, List.set_cons_succ]))))
        | (refine wpAnyIn_ready (rs := [14]) (by decide +kernel) (by simp) (AllReadyIn.cons (by simp only [List.getElem?_toArray, List.getElem?_cons_zero, List.getElem?_cons_succ]; rfl) (fun K hK => ?_) AllReadyIn.nil); all_goals ((go_simp; (first | ((first | refine ⟨trivial, hdd _, ?_⟩ | refine ⟨hdd _, ?_⟩ | skip); refine hR.mono ?_; rintro e W2 ⟨rfl, hJ2, hb2⟩) | skip)); (refine hK _ _ ?_); (clear hK K; (try simp only [Act.put, List.setIfInBounds_toArray, List.set_cons_zero, List.set_cons_succ]))))
        | (refine wpAnyIn_ready (rs := [15]) (by decide +kernel) (by simp) (AllReadyIn.cons (by simp only [List.getElem?_toArray, List.getElem?_cons_zero, List.getElem?_cons_succ]; rfl) (fun K hK => ?_) AllReadyIn.nil); all_goals ((go_simp; (first | ((first | refine ⟨trivial, hdd _, ?_⟩ | refine ⟨hdd _, ?_⟩ | skip); refine hR.mono ?_; rintro e W2 ⟨rfl, hJ2, hb2⟩) | skip)); (refine hK _ _ ?_); (clear hK K; (try simp only [Act.put, List.setIfInBounds_toArray, List.set_cons_zero, List.set_cons_succ]))))
        | (refine wpAnyIn_ready (rs := [16]) (by decide +kernel) (by simp) (AllReadyIn.cons (by simp only [List.getElem?_toArray, List.getElem?_cons_zero, List.getElem?_cons_succ]; rfl) (fun K hK => ?_) AllReadyIn.nil); all_goals ((go_simp; (first | ((first | refine ⟨trivial, hdd _, ?_⟩ | refine ⟨hdd _, ?_⟩ | skip); refine hR.mono ?_; rintro e W2 ⟨rfl, hJ2, hb2⟩) | skip)); (refine hK _ _ ?_); (clear hK K; (try simp only [Act.put, List.setIfInBounds_toArray, List.set_cons_zero, List.set_cons_succ]))))
        | (refine wpAnyIn_done (by decide +kernel) ?_ _)
        | fail)
      all_goals (
        have hbd : Below n₀ W W2 := (Below.drew (Below.refl n₀ W)).trans hb2
        have rl2 := brep_low hbd rl hll
        have rr2 := brep_low hbd rr hlr
        have e5 := (hbd.cell (p := ⟨b, 5, none⟩) hb).trans d5
        have e6 := (hbd.cell (p := ⟨b, 6, none⟩) hb).trans d6
        have ih1 := ihl (n - 1) (i + 1) W2 rl2 hll hJ2 (fun j y hj => by
          have := hxs (1 + j) y (by rw [Nat.add_comm, List.getElem?_cons_succ, List.getElem?_append_left (List.getElem?_eq_some_iff.1 hj).1]; exact hj)
          rw [← Nat.add_assoc] at this; exact this)
        clear hR hy hb2 d0 d1 d2 d3 d4 d5 d6
        gi_wp2_with (first
          | ((first | refine ⟨trivial, hdd _, ?_⟩ | refine ⟨hdd _, ?_⟩ | skip); refine ih1.mono ?_; clear ih1; rintro e W3 ⟨rfl, hJ3, hb3⟩; have rr3 := brep_low hb3 rr2 hlr; have c6 := (hb3.cell (p := ⟨b, 6, none⟩) hb).trans e6)
          | (refine ⟨trivial, hdd _, ?_⟩; refine (ihr (n - 1) (i + 1 + tl.list.length) _ rr3 hlr hJ3 (fun j y hj => by
              have := hxs (1 + tl.list.length + j) y (by
                rw [show 1 + tl.list.length + j = (tl.list.length + j) + 1 by omega, List.getElem?_cons_succ, List.getElem?_append_right (by omega), Nat.add_sub_cancel_left]; exact hj)
              rw [show i + (1 + tl.list.length + j) = i + 1 + tl.list.length + j by omega] at this; exact this)).mono ?_; rintro e W4 ⟨rfl, hJ4, hb4⟩))
        go_ret
        exact ⟨rfl, by rw [show i + (tl.list.length + tr.list.length + 1) = i + 1 + tl.list.length + tr.list.length by omega]; exact hJ4, (hbd.trans hb3).trans hb4⟩)
end Go.Proofs.Yteadfobfenopkaa
