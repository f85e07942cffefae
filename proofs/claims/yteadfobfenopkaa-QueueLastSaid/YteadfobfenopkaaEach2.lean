
/- Contracts of package table: Each. -/
import Derived.Test.YteadfobfenopkaaEach
set_option linter.unusedVariables false
set_option linter.unusedSimpArgs false
namespace Go.Proofs.Yteadfobfenopkaa
open Go Go.RowKit Go.Sort Go.Shelf Wc Wk
attribute [local go_sem] Oper.semAt_some

set_option maxRecDepth 100000 in
set_option maxHeartbeats 1000000 in
/-- The whole table, in order. -/
theorem Each_in (tb cnt n₀ : Nat) (T : BT) (w : World) (ht : TabR w tb T cnt) (hlt : ∀ b ∈ tb :: T.blocks, b < n₀) (n : Nat) :
    Lists Fence.wide n Try.prog 43 #[.pointer (some ⟨tb, 0, none⟩)] encR n₀ T.list w := by
  intro l J W hbW hY hJn h0
  have htb : tb < n₀ := hlt tb List.mem_cons_self
  have hr : BRep W T := brep_low hbW ht.rep (fun x hx => hlt x (List.mem_cons_of_mem _ hx))
  have c0 := (hbW.cell (p := ⟨tb, 0, none⟩) htb).trans ht.tab.r0
  have c1 := (hbW.cell (p := ⟨tb, 1, none⟩) htb).trans ht.tab.r1
  rw [show rootP [] T.ptr = T.ptr from rfl] at c0
  have E1 := Lib.hid (each_in l n₀ T.list J hJn (fun m i x W1 hx hj => yield_any rfl m (hY i x W1 hx hj)) T (n - 1) 0 W hr (fun x hx => hlt x (List.mem_cons_of_mem _ hx)) h0 (fun j y hj => by rw [Nat.zero_add]; exact hj))
  have E2 := Lib.hid (fun W1 (hj : J (0 + T.list.length) W1) => each_in l n₀ T.list J hJn (fun m i x W1 hx hj => yield_any rfl m (hY i x W1 hx hj)) .nil (n - 1) (0 + T.list.length) W1 trivial (fun x hx => by cases hx) hj (fun j y hj => by cases hj))
  clear hY hJn
  generalize ptrV T.ptr = pv at *
  have hdd : ∀ k : Nat, (Fence.wide.depth.isSome = true → 1 ≤ k) := fun k h => by cases h
  refine callsIn_of_wp Try.func43 rfl trivial ?_ rfl
  simp only [Try.ntmps43, List.size_toArray, List.length_cons, List.length_nil, Nat.reduceAdd, Nat.reduceSub, Array.replicate_succ, Array.replicate_zero, List.push_toArray, List.append_toArray, List.nil_append, List.cons_append]
  have i0 : ∀ w, (Instr.index 101 (.agg #[pv, .pointer none]) (.int .i64 0)).run Try.prog w = .ok pv w := fun _ => by kernel_rfl
  have i1 : ∀ w, (Instr.index 101 (.agg #[pv, .pointer none]) (.int .i64 1)).run Try.prog w = .ok (.pointer none) w := fun _ => by kernel_rfl
  gi_wp2
  gi_loopw [10] (fun i wr => (i = .int .i64 0 ∧ wr = W) ∨ (i = .int .i64 1 ∧ J (0 + T.list.length) wr) ∨ (i = .int .i64 2 ∧ J (0 + T.list.length) wr)) (fun i _ => 2 - (intOf i).toNat)
  case atStart => exact .inl ⟨rfl, rfl⟩
  case round =>
    rcases hrel with ⟨rfl, rfl⟩ | ⟨rfl, hJ1⟩ | ⟨rfl, hJ2⟩
    · gi_wp2_with (first | ((first | refine ⟨trivial, hdd _, ?_⟩ | refine ⟨hdd _, ?_⟩ | skip); refine E1.out.mono ?_; rintro e W1 ⟨rfl, hJ1, hb1⟩))
      go_roundw
      case rel => exact .inr (.inl ⟨rfl, hJ1⟩)
      case measure => decide
    · gi_wp2_with (first | ((first | refine ⟨trivial, hdd _, ?_⟩ | refine ⟨hdd _, ?_⟩ | skip); refine (E2.out _ hJ1).mono ?_; rintro e W2 ⟨rfl, hJ2, hb2⟩))
      go_roundw
      case rel => exact .inr (.inr ⟨rfl, hJ2⟩)
      case measure => decide
    · gi_wp2
      go_end0
      exact ⟨⟨_, rfl⟩, by rw [Nat.zero_add] at hJ2; exact hJ2⟩
end Go.Proofs.Yteadfobfenopkaa
