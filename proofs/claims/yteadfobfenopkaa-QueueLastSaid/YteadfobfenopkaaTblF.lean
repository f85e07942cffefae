
/- Contracts of package table: the fork of a Put. -/
import Derived.Test.YteadfobfenopkaaTblG
import Derived.Test.YteadfobfenopkaaTblW
import Derived.Test.YteadfobfenopkaaPre4
set_option linter.unusedVariables false
namespace Go.Proofs.Yteadfobfenopkaa
open Go Go.RowKit Go.Sort Wc Wk

theorem tn_left {w : World} {b n k h : Nat} {pl pr : Option (Nat × Nat)} (a : TN w b n k h pl pr) (q : Option (Nat × Nat)) : TN (w.setCell ⟨b, 5, none⟩ (ptrV q)) b n k h q pr := by
  have s := chg_set w b 5 (ptrV q)
  exact ⟨Nat.lt_of_lt_of_le a.lt s.size, (s.cell _ _ a.lt (fun h => absurd h.2 (by decide))).trans a.c0, (s.cell _ _ a.lt (fun h => absurd h.2 (by decide))).trans a.c1, (s.cell _ _ a.lt (fun h => absurd h.2 (by decide))).trans a.c2, (s.cell _ _ a.lt (fun h => absurd h.2 (by decide))).trans a.c3, (s.cell _ _ a.lt (fun h => absurd h.2 (by decide))).trans a.c4, World.cell?_setCell_same _ _ _ a.c5, (s.cell _ _ a.lt (fun h => absurd h.2 (by decide))).trans a.c6, fun o ho => (s.froz _ _ a.lt).trans (a.fz o ho)⟩
theorem tn_right {w : World} {b n k h : Nat} {pl pr : Option (Nat × Nat)} (a : TN w b n k h pl pr) (q : Option (Nat × Nat)) : TN (w.setCell ⟨b, 6, none⟩ (ptrV q)) b n k h pl q := by
  have s := chg_set w b 6 (ptrV q)
  exact ⟨Nat.lt_of_lt_of_le a.lt s.size, (s.cell _ _ a.lt (fun h => absurd h.2 (by decide))).trans a.c0, (s.cell _ _ a.lt (fun h => absurd h.2 (by decide))).trans a.c1, (s.cell _ _ a.lt (fun h => absurd h.2 (by decide))).trans a.c2, (s.cell _ _ a.lt (fun h => absurd h.2 (by decide))).trans a.c3, (s.cell _ _ a.lt (fun h => absurd h.2 (by decide))).trans a.c4, (s.cell _ _ a.lt (fun h => absurd h.2 (by decide))).trans a.c5, World.cell?_setCell_same _ _ _ a.c6, fun o ho => (s.froz _ _ a.lt).trans (a.fz o ho)⟩
theorem tn_hop {w : World} {b n k h : Nat} {pl pr : Option (Nat × Nat)} (a : TN w b n k h pl pr) (h' : Nat) : TN (w.setCell ⟨b, 4, none⟩ (.int .i64 h')) b n k h' pl pr := by
  have s := chg_set w b 4 (.int .i64 h')
  exact ⟨Nat.lt_of_lt_of_le a.lt s.size, (s.cell _ _ a.lt (fun h => absurd h.2 (by decide))).trans a.c0, (s.cell _ _ a.lt (fun h => absurd h.2 (by decide))).trans a.c1, (s.cell _ _ a.lt (fun h => absurd h.2 (by decide))).trans a.c2, (s.cell _ _ a.lt (fun h => absurd h.2 (by decide))).trans a.c3, World.cell?_setCell_same _ _ _ a.c4, (s.cell _ _ a.lt (fun h => absurd h.2 (by decide))).trans a.c5, (s.cell _ _ a.lt (fun h => absurd h.2 (by decide))).trans a.c6, fun o ho => (s.froz _ _ a.lt).trans (a.fz o ho)⟩
theorem TN.below {w w' : World} {b n k h : Nat} {pl pr : Option (Nat × Nat)} (a : TN w b n k h pl pr) (hb : Below w.heap.size w w') : TN w' b n k h pl pr := a.keep (Chg.of_below hb (fun _ _ => False)) (fun _ h => h)
structure PX (w : World) (p n k : Nat) : Prop where
  lt : p < w.heap.size
  c0 : w.cell? ⟨p, 0, none⟩ = some (.bool false)
  c1 : w.cell? ⟨p, 1, none⟩ = some (.int .u64 (hiOf false n))
  c2 : w.cell? ⟨p, 2, none⟩ = some (.int .u64 (loOf n))
  c3 : w.cell? ⟨p, 3, none⟩ = some (.int .i64 k)
theorem PX.below {w w' : World} {p n k : Nat} (h : PX w p n k) (hb : Below w.heap.size w w') : PX w' p n k :=
  ⟨Nat.lt_of_lt_of_le h.lt hb.size, (hb.cell (p := ⟨p, 0, none⟩) h.lt).trans h.c0, (hb.cell (p := ⟨p, 1, none⟩) h.lt).trans h.c1, (hb.cell (p := ⟨p, 2, none⟩) h.lt).trans h.c2, (hb.cell (p := ⟨p, 3, none⟩) h.lt).trans h.c3⟩
theorem PX.keep {w w' : World} {p n k : Nat} {G : Nat → Prop} (h : PX w p n k) (hb : Chg w w' (fun b _ => G b)) (hg : ¬ G p) : PX w' p n k :=
  ⟨Nat.lt_of_lt_of_le h.lt hb.size, (hb.cell _ _ h.lt hg).trans h.c0, (hb.cell _ _ h.lt hg).trans h.c1, (hb.cell _ _ h.lt hg).trans h.c2, (hb.cell _ _ h.lt hg).trans h.c3⟩

theorem px_new (w : World) (n k : Nat) (E : TypeId) : PX (w.alloc (.cells #[.bool false, .int .u64 (hiOf false n), .int .u64 (loOf n), .int .i64 k] E)) w.heap.size n k := by constructor <;> simp
theorem px_set {w : World} {p n k : Nat} {u0 u1 u2 u3 : Value} (lt : p < w.heap.size) (c0 : w.cell? ⟨p, 0, none⟩ = some u0) (c1 : w.cell? ⟨p, 1, none⟩ = some u1) (c2 : w.cell? ⟨p, 2, none⟩ = some u2) (c3 : w.cell? ⟨p, 3, none⟩ = some u3) :
    PX ((((w.setCell ⟨p, 0, none⟩ (.bool false)).setCell ⟨p, 1, none⟩ (.int .u64 (hiOf false n))).setCell ⟨p, 2, none⟩ (.int .u64 (loOf n))).setCell ⟨p, 3, none⟩ (.int .i64 k)) p n k := by
  have s1 := chg_set w p 0 (.bool false)
  have s2 := chg_set (w.setCell ⟨p, 0, none⟩ (.bool false)) p 1 (.int .u64 (hiOf false n))
  have s3 := chg_set ((w.setCell ⟨p, 0, none⟩ (.bool false)).setCell ⟨p, 1, none⟩ (.int .u64 (hiOf false n))) p 2 (.int .u64 (loOf n))
  have s4 := chg_set (((w.setCell ⟨p, 0, none⟩ (.bool false)).setCell ⟨p, 1, none⟩ (.int .u64 (hiOf false n))).setCell ⟨p, 2, none⟩ (.int .u64 (loOf n))) p 3 (.int .i64 k)
  have l1 : p < (w.setCell ⟨p, 0, none⟩ (.bool false)).heap.size := by simpa using lt
  have l2 : p < ((w.setCell ⟨p, 0, none⟩ (.bool false)).setCell ⟨p, 1, none⟩ (.int .u64 (hiOf false n))).heap.size := by simpa using lt
  have l3 : p < (((w.setCell ⟨p, 0, none⟩ (.bool false)).setCell ⟨p, 1, none⟩ (.int .u64 (hiOf false n))).setCell ⟨p, 2, none⟩ (.int .u64 (loOf n))).heap.size := by simpa using lt
  refine ⟨by simpa using lt, ?_, ?_, ?_, ?_⟩
  · exact (s4.cell _ _ l3 (by omega)).trans ((s3.cell _ _ l2 (by omega)).trans ((s2.cell _ _ l1 (by omega)).trans (World.cell?_setCell_same _ _ _ c0)))
  · exact (s4.cell _ _ l3 (by omega)).trans ((s3.cell _ _ l2 (by omega)).trans (World.cell?_setCell_same _ _ _ ((s1.cell _ _ lt (by omega)).trans c1)))
  · exact (s4.cell _ _ l3 (by omega)).trans (World.cell?_setCell_same _ _ _ ((s2.cell _ _ l1 (by omega)).trans ((s1.cell _ _ lt (by omega)).trans c2)))
  · exact World.cell?_setCell_same _ _ _ ((s3.cell _ _ l2 (by omega)).trans ((s2.cell _ _ l1 (by omega)).trans ((s1.cell _ _ lt (by omega)).trans c3)))
end Go.Proofs.Yteadfobfenopkaa
