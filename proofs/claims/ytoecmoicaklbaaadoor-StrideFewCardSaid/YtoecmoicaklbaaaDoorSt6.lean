
/- Package stride: nodes that are read; the closure that takes routes. -/
import Derived.Test.YtoecmoicaklbaaaDoorSt4
import Derived.Test.YtoecmoicaklbaaaDoorSt5
set_option linter.unusedVariables false
set_option linter.unusedSimpArgs false
namespace Go.Proofs.YtoecmoicaklbaaaDoor
open Go Go.RowKit Go.Sort Wc Wk

/-- The bits of a node may be counted. -/
structure BitsOk (l : List Nat) : Prop where
  bl : BitL l
  pop : popF (sumB l) = l.length
theorem BitsOk.pick (P : Nat → Bool) : BitsOk (pick16 P) := ⟨BitL.pick P, pop_pick P⟩
def NodeD.bits (x : NodeD) : Prop := BitsOk x.ib ∧ BitsOk x.ob ∧ 0 ∉ x.ib
/-- A node that is read. -/
def RowR (w : World) (nd : NodeD) (r : List Value) : Prop :=
  ∃ (a : Option Addr) (c : Nat) (a' : Option Addr) (c' : Nat), r = [.int .u64 (sumB nd.ib : Nat), .int .u64 (sumB nd.ob : Nat), .slice a nd.hops.length c, .slice a' nd.kids.length c'] ∧ Sl w 1 (.slice a nd.hops.length c) (nd.hops.map nat1) ∧ Sl w 1 (.slice a' nd.kids.length c') (nd.kids.map nat1)
/-- Nodes that are read. -/
structure NodesR (w : World) (a : Option Addr) (n c : Nat) (t : List NodeD) (rows : List (List Value)) : Prop where
  sl : Sl w 4 (.slice a n c) rows
  nl : n = t.length
  rl : rows.length = t.length
  ro : ∀ (m : Nat) nd r, t[m]? = some nd → rows[m]? = some r → RowR w nd r
  bt : ∀ nd ∈ t, NodeD.bits nd
theorem RowR.below {w w' : World} {nd : NodeD} {r : List Value} (h : RowR w nd r) (hb : Below w.heap.size w w') : RowR w' nd r := by
  obtain ⟨a, c, a', c', e, h1, h2⟩ := h
  exact ⟨a, c, a', c', e, h1.below hb, h2.below hb⟩
theorem NodesR.below {w w' : World} {a : Option Addr} {n c : Nat} {t : List NodeD} {rows : List (List Value)} (h : NodesR w a n c t rows) (hb : Below w.heap.size w w') : NodesR w' a n c t rows :=
  ⟨h.sl.below hb, h.nl, h.rl, fun m nd r e1 e2 => (h.ro m nd r e1 e2).below hb, h.bt⟩
theorem RowOk.read {w : World} {B : Nat} {nd : NodeD} {r : List Value} (h : RowOk w B nd r) : RowR w nd r := by
  obtain ⟨a, c, a', c', e, h1, h2⟩ := h
  exact ⟨a, c, a', c', e, h1.sl, h2.sl⟩
theorem treeOf_bits (R : List (Nat × Nat × Nat)) : ∀ nd ∈ treeOf R, NodeD.bits nd := by
  intro nd hnd
  obtain ⟨i, _, rfl⟩ := List.mem_map.1 hnd
  refine ⟨BitsOk.pick (fun m => decide (0 < hopAt R _ _ m)), BitsOk.pick (fun m => nodeIn R _ _), fun h => ?_⟩
  have h1 := (mem_pick.1 (show 0 ∈ pick16 (fun m => decide (0 < hopAt R ((bq (nodeIn R) i)[i]?.getD (0, 0)).1 ((bq (nodeIn R) i)[i]?.getD (0, 0)).2 m)) from h)).2
  rw [decide_eq_true_iff] at h1
  have := (hopAt_lt (Nat.pos_iff_ne_zero.1 h1)).1
  omega
/-- Where the walk down stands: what has been told, what may still be met. -/
structure WkSt (w0 w : World) (ob b : Nat) (L : List (Nat × Nat × Nat)) (v : Value) : Prop where
  lo : Below w0.heap.size w0 w
  hob : w0.heap.size ≤ ob
  bud : RX w (ob + 1) [.int .i64 (b : Nat)]
  out : RX w ob [v]
  own : Wk.Own w (ob + 2) 41 5 v (L.map routeCells)
theorem WkSt.below {w0 w w' : World} {ob b : Nat} {L : List (Nat × Nat × Nat)} {v : Value} (h : WkSt w0 w ob b L v) (hb : Below w.heap.size w w') : WkSt w0 w' ob b L v :=
  ⟨h.lo.trans (hb.mono h.lo.size), h.hob, h.bud.below hb, h.out.below hb, h.own.below hb⟩
/-- What stays while routes are told. -/
structure Kp (w w' : World) (ob : Nat) (v v' : Value) : Prop where
  size : w.heap.size ≤ w'.heap.size
  block : ∀ k, k < w.heap.size → k ≠ ob → k ≠ ob + 1 → v.ownBlock ≠ some k → w'.heap[k]? = w.heap[k]?
  own : v'.ownBlock = v.ownBlock ∨ ∀ k, v'.ownBlock = some k → w.heap.size ≤ k
theorem Kp.of_below {w w' : World} (hb : Below w.heap.size w w') (ob : Nat) (v : Value) : Kp w w' ob v v := ⟨hb.size, fun k hk _ _ _ => hb.block k hk, .inl rfl⟩
theorem Kp.trans {w w1 w2 : World} {ob : Nat} {v v1 v2 : Value} (h : Kp w w1 ob v v1) (k : Kp w1 w2 ob v1 v2) : Kp w w2 ob v v2 := by
  refine ⟨Nat.le_trans h.size k.size, fun j hj h1 h2 h3 => ?_, ?_⟩
  · refine (k.block j (Nat.lt_of_lt_of_le hj h.size) h1 h2 (fun e => ?_)).trans (h.block j hj h1 h2 h3)
    rcases h.own with h4 | h4
    · rw [h4] at e; exact h3 e
    · have := h4 j e; omega
  · rcases k.own with h4 | h4
    · rw [h4]
      exact h.own
    · exact .inr (fun j e => Nat.le_trans h.size (h4 j e))
theorem Kp.cell {w w' : World} {ob : Nat} {v v' : Value} (h : Kp w w' ob v v') {k o : Nat} (hk : k < w.heap.size) (h1 : k ≠ ob) (h2 : k ≠ ob + 1) (h3 : v.ownBlock ≠ some k) : w'.cell? ⟨k, o, none⟩ = w.cell? ⟨k, o, none⟩ := by
  have := h.block k hk h1 h2 h3
  unfold World.cell?
  rw [this]
theorem Kp.rx {w w' : World} {ob : Nat} {v v' : Value} (h : Kp w w' ob v v') {k : Nat} {cs : List Value} (hx : RX w k cs) (h1 : k ≠ ob) (h2 : k ≠ ob + 1) (h3 : v.ownBlock ≠ some k) : RX w' k cs :=
  have e := h.block k hx.lt h1 h2 h3
  ⟨Nat.lt_of_lt_of_le hx.lt h.size, fun j u hu => (World.cell?_of_block (a := ⟨k, j, none⟩) e).trans (hx.cell j u hu), fun j => (World.frozen?_of_block (a := ⟨k, j, none⟩) e).trans (hx.fz j)⟩
theorem Kp.free {w w' : World} {ob : Nat} {v v' : Value} (h : Kp w w' ob v v') {k : Nat} (hk : k < w.heap.size) (h3 : v.ownBlock ≠ some k) : v'.ownBlock ≠ some k := fun e => by
  rcases h.own with h4 | h4
  · rw [h4] at e; exact h3 e
  · have := h4 k e; omega
theorem WkSt.bset {w0 w : World} {ob b : Nat} {L : List (Nat × Nat × Nat)} {v : Value} (h : WkSt w0 w ob b L v) (b' : Nat) : WkSt w0 (w.setCell ⟨ob + 1, 0, none⟩ (.int .i64 (b' : Nat))) ob b' L v ∧ Kp w (w.setCell ⟨ob + 1, 0, none⟩ (.int .i64 (b' : Nat))) ob v v := by
  obtain ⟨r1, r2⟩ := rx_put1 h.bud (j := 0) (by simp) (.int .i64 (b' : Nat))
  refine ⟨⟨h.lo.trans (r2.below h.lo.size (fun k x hk e => by have := h.hob; omega)), h.hob, r1, h.out.chg r2 (fun x e => by omega), own_cell h.own (by omega)⟩, ⟨r2.size, fun k hk h1 h2 h3 => r2.block k hk (fun x e => h2 e), .inl rfl⟩⟩
theorem zero_bit {l : List Nat} (h : BitL l) (h0 : 0 ∉ l) : bits .and .u64 (sumB l : Nat) 1 = 0 := by
  have hd : 2 ^ 1 ∣ sumB l := sumB_dvd (fun i hi => by
    rcases Nat.eq_zero_or_pos i with e | e
    · rw [e] at hi; exact absurd hi h0
    · exact e)
  have h1 := bits_and_u64_nat (sumB l) 1 (by have := h.sum; omega) (by decide)
  rw [show ((1 : Nat) : Int) = 1 from rfl] at h1
  rw [h1]
  have h2 := Nat.and_two_pow_sub_one_eq_mod (sumB l) 1
  rw [show 2 ^ 1 - 1 = 1 from rfl] at h2
  rw [h2, Nat.mod_eq_zero_of_dvd hd]
  rfl

set_option maxHeartbeats 2000000 in
theorem fnR_any (w0 w : World) (ob b : Nat) (L : List (Nat × Nat × Nat)) (x : Nat × Nat × Nat) (v : Value) (h : WkSt w0 w ob b L v) (hl : L.length ≤ 100000) :
    Calls Tryd.prog 36 #[.agg #[.bool false, .int .u64 (hiOf false x.1), .int .u64 (loOf x.1), .int .i64 x.2.1, .int .i64 x.2.2], .pointer (some ⟨ob, 0, none⟩)] w fun e w' => e = .returned (.tuple #[]) ∧ ∃ v', WkSt w0 w' ob b (L ++ [x]) v' ∧ Kp w w' ob v v' := by
  have hx := h.out
  have ho := h.own
  obtain ⟨a, c, rfl⟩ := ho.shape
  rw [List.length_map] at hx ho
  have c0 := hx.cell 0 _ rfl
  have f0 := hx.fz 0
  have ol := hx.lt
  have HX := Lib.hid hx
  have HO := Lib.hid ho
  have HH := Lib.hid h
  obtain ⟨n, hn⟩ : ∃ n, n = L.length := ⟨_, rfl⟩
  rw [← hn] at c0
  have HN := Lib.hid hn
  clear h hx ho hn
  go_enter Tryd.func36, Tryd.ntmps36
  go_wp2_with (at_builtin; refine stop_at ?_; intro G hG)
  obtain ⟨Y, hY⟩ : ∃ Y, Y = (w.alloc (.cells #[.bool false, .int .u64 (hiOf false x.1), .int .u64 (loOf x.1), .int .i64 x.2.1, .int .i64 x.2.2] 41)).alloc (.cells #[.bool false, .int .u64 (hiOf false x.1), .int .u64 (loOf x.1), .int .i64 x.2.1, .int .i64 x.2.2] 41) := ⟨_, rfl⟩
  have hwY : Below w.heap.size w Y := by rw [hY]; (repeat' (first | (with_reducible exact Below.refl _ _) | (with_reducible assumption) | (with_reducible refine Below.alloc ?_ ?_ _) | (with_reducible refine Below.drew ?_) | (with_reducible refine Below.stepG ?_ (by assumption) ?_) | (with_reducible refine Below.setCell ?_ ?_ _) | omega | (dsimp only; omega) | (simp; done) | (simp; omega)))
  have hys : Y.heap.size = w.heap.size + 1 + 1 := by rw [hY]; simp
  have HS1 : Sl Y 5 (.slice (some ⟨w.heap.size + 1, 0, none⟩) 1 1) ([x].map routeCells) := by
    rw [hY]
    exact (own_one (W := w.alloc (.cells #[.bool false, .int .u64 (hiOf false x.1), .int .u64 (loOf x.1), .int .i64 x.2.1, .int .i64 x.2.2] 41)) (B := w.heap.size + 1) (sz := 5) (c := routeCells x) (by simp) (Nat.le_refl _) rfl rfl (by decide)).sl
  rw [← hG.out]
  clear hG G
  rw [← hY]
  have hbl := HH.out.bud.lt
  have HWY := HH.out.below hwY
  have HOY := HO.out.below hwY
  have HXY := HX.out.below hwY
  refine wpList_append_at rfl _ _ 23 41 5 40 _ rfl eiRoute (ob + 2) (.slice a n c) (L.map routeCells) (by rw [HN.out]; rfl) (by rw [HN.out]; exact HOY) (.slice (some ⟨w.heap.size + 1, 0, none⟩) 1 1) ([x].map routeCells) rfl HS1 (by intro c hc; obtain ⟨r, _, rfl⟩ := List.mem_map.1 hc; exact routeCells_one r) (by simp; omega) (by decide) (by omega) (by simp) ?_
  intro v5 w5 ho5 hg5 hb5 hat5
  rw [← List.map_append] at ho5
  rw [HN.out] at hg5
  have r5 := HXY.grown hg5 (fun g e => by have := (HOY.lt g e).1; omega)
  have b5 := HWY.bud.grown hg5 (fun g e => by have := (HOY.lt g e).1; omega)
  obtain ⟨q1, q2⟩ := rx_put1 r5 (j := 0) (by simp) v5
  have hB5 : Below w0.heap.size w0 w5 := HWY.lo.trans (Below.of_grown hg5 HWY.lo.size (fun k hk => by have := (HOY.lt k hk).1; have := HWY.hob; omega))
  have c5 := r5.cell 0 _ rfl
  have f5 := r5.fz 0
  have l5 := r5.lt
  have HF := Lib.hid (show WkSt w0 (w5.setCell ⟨ob, 0, none⟩ v5) ob b (L ++ [x]) v5 from ⟨hB5.trans (q2.below hB5.size (fun k y hk e => by have := HWY.hob; omega)), HWY.hob, b5.chg q2 (fun y e => by omega), q1, own_cell ho5 (by omega)⟩)
  have HKP := Lib.hid (show Kp w (w5.setCell ⟨ob, 0, none⟩ v5) ob (.slice a L.length c) v5 from ⟨by have := hg5.size; simp; omega, fun k hk h1 _ h3 => by
    rw [q2.block k (by have := hg5.size; omega) (fun y e => h1 e), hg5.block k (by omega) (fun e => h3 e.symm), hwY.block k hk], by
    rcases hat5 with h | h
    · left; rw [h, HN.out]
    · right; intro k e; rw [h] at e; cases e; omega⟩)
  obtain ⟨a9, c9, hv9⟩ := ho5.shape
  subst hv9
  clear hY hwY hys HS1 HWY HOY HXY ho5 hg5 hb5 hat5 r5 b5 q1 q2 hB5 HX HO HH c0 f0 ol hbl
  go_frame
  go_wp2
  go_returns
  have h1 := HF.out
  have h2 := HKP.out
  rw [show (List.map routeCells (L ++ [x])).length = L.length + 1 by simp] at h1 h2
  exact ⟨rfl, _, h1, by rw [List.length_map]; exact h2⟩
end Go.Proofs.YtoecmoicaklbaaaDoor
