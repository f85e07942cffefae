
/- Package stride: drafts of routes; nodes in memory. -/
import Derived.Test.YtoecmoicaklbaaaDoorSt2
import Derived.Test.YtoecmoicaklbaaaDoorStT
set_option linter.unusedVariables false
set_option linter.unusedSimpArgs false
namespace Go.Proofs.YtoecmoicaklbaaaDoor
open Go Go.RowKit Go.Sort Wc Wk

/-- Drafts of a list of routes. -/
structure DrR (w : World) (B : Nat) (R : List (Nat × Nat × Nat)) (M : Nat → Nat → Option Nat) : Prop where
  ok : DrOk w B M (hopAt R)
  some_ : ∀ j q, (M j q).isSome = nodeIn R j q
theorem DrR.below {w w' : World} {B : Nat} {R : List (Nat × Nat × Nat)} {M : Nat → Nat → Option Nat} (h : DrR w B R M) (hb : Below w.heap.size w w') : DrR w' B R M := ⟨h.ok.below hb, h.some_⟩
theorem hopAt_nil : hopAt [] = fun _ _ _ => 0 := by funext j q i; rfl
theorem DrR.new {w : World} {rb : Nat} (hx : RX w rb (List.replicate 16 (.int .i64 0) ++ List.replicate 16 (.pointer none))) : DrR w rb [] (fun j q => if j = 0 ∧ q = 0 then some rb else none) := by
  refine ⟨⟨fun j q b hb => ?_, fun j q j' q' b e1 e2 => ?_, fun j q b hb => ?_, fun j q i _ => by rw [hopAt_nil], fun j q b hb => ?_⟩, fun j q => ?_⟩
  · split at hb
    · cases hb
      have : drC (fun j q => if j = 0 ∧ q = 0 then some rb else none) (hopAt []) j q = List.replicate 16 (.int .i64 0) ++ List.replicate 16 (.pointer none) := by
        rw [hopAt_nil]
        unfold drC
        congr 1
        all_goals (refine List.eq_replicate_iff.2 ⟨by simp, fun x hx => ?_⟩; obtain ⟨m, _, rfl⟩ := List.mem_map.1 hx; first | rfl | (rw [if_neg (by omega)]; done) | (rw [if_neg (by omega)]; rfl))
      rw [this]
      exact hx
    · cases hb
  · split at e1
    · split at e2
      · rename_i a b; exact ⟨a.1.trans b.1.symm, a.2.trans b.2.symm⟩
      · cases e2
    · cases e1
  · split at hb
    · cases hb; exact Nat.le_refl _
    · cases hb
  · rw [if_neg (by omega)] at hb
    cases hb
  · unfold nodeIn
    split <;> rename_i h <;> simp [h]
theorem DrR.step {w w' : World} {B : Nat} {R : List (Nat × Nat × Nat)} {M : Nat → Nat → Option Nat} {r : Nat × Nat × Nat} (h : DrR w B R M) (hr : RtOk (R ++ [r])) {M' : Nat → Nat → Option Nat} (hd : DrOk w' B M' (setH (hopAt R) (r.2.1 / 4) (tp r.1 (4 * (r.2.1 / 4))) (innN r.1 r.2.1) r.2.2)) (hp : PutM M M' r.1 r.2.1 0) : DrR w' B (R ++ [r]) M' := by
  have e : setH (hopAt R) (r.2.1 / 4) (tp r.1 (4 * (r.2.1 / 4))) (innN r.1 r.2.1) r.2.2 = hopAt (R ++ [r]) := by
    funext j q i
    rw [hopAt_snoc hr]
    unfold setH
    by_cases c : isAt r j q i
    · rw [if_pos c]
      obtain ⟨c1, c2, c3⟩ := c
      rw [if_pos ⟨c1.symm, by rw [c1]; exact c2.symm, c3.symm⟩]
    · rw [if_neg c, if_neg (fun x => c ⟨x.1.symm, by rw [x.1]; exact x.2.1.symm, x.2.2.symm⟩)]
  rw [e] at hd
  refine ⟨hd, fun j q => ?_⟩
  rw [hp.new, h.some_, nodeIn_snoc]
  by_cases hj : j = 0
  · subst hj
    have hv := hr.vp r (by simp)
    have ht : tp r.1 (4 * 0) = 0 := by
      have h2 : r.1 < 2 ^ 32 := hv.1
      unfold tp
      exact Nat.div_eq_of_lt (by simpa using h2)
    rw [decide_eq_false (by omega), Bool.or_false]
    by_cases hq : q = 0
    · subst hq
      rw [nodeIn_zero]; rfl
    · rw [decide_eq_false (fun x => hq (x.2.symm.trans ht))]; simp
  · congr 1
    rw [decide_eq_decide]
    constructor
    · rintro ⟨a, b, c⟩; exact ⟨b, c⟩
    · rintro ⟨a, b⟩; exact ⟨by omega, a, b⟩
def nat1 (x : Nat) : List Value := [.int .i64 (x : Nat)]
theorem nat1_one (x : Nat) : ∀ u ∈ nat1 x, u.oneCell' = true := by
  intro u hu
  simp [nat1] at hu
  subst hu
  rfl
def ptr1 (p : Option Nat) : List Value := [ptrO p]
theorem ptr1_one (p : Option Nat) : ∀ u ∈ ptr1 p, u.oneCell' = true := by
  intro u hu
  cases p <;> simp [ptr1, ptrO] at hu <;> subst hu <;> rfl
theorem eiNat1 : EI Tryd.prog 32 3 1 8 (.int .i64 0) := ⟨by kernel_rfl, by kernel_rfl, rfl, by decide⟩
theorem eiPtr1 : EI Tryd.prog 109 103 1 8 (.pointer none) := ⟨by kernel_rfl, by kernel_rfl, rfl, by decide⟩
theorem eiNode : EI Tryd.prog 28 34 4 64 (.agg #[.int .u64 0, .int .u64 0, .slice none 0 0, .slice none 0 0]) := ⟨by kernel_rfl, by kernel_rfl, rfl, by decide⟩
theorem tp0 {n : Nat} (h : Fits false n) : tp n (4 * 0) = 0 := by
  have h2 : n < 2 ^ 32 := h
  unfold tp
  exact Nat.div_eq_of_lt (by simpa using h2)
/-- A node in memory. -/
def RowOk (w : World) (B : Nat) (nd : NodeD) (r : List Value) : Prop :=
  ∃ (a : Option Addr) (c : Nat) (a' : Option Addr) (c' : Nat), r = [.int .u64 (sumB nd.ib : Nat), .int .u64 (sumB nd.ob : Nat), .slice a nd.hops.length c, .slice a' nd.kids.length c'] ∧ Wk.Own w B 3 1 (.slice a nd.hops.length c) (nd.hops.map nat1) ∧ Wk.Own w B 3 1 (.slice a' nd.kids.length c') (nd.kids.map nat1)
theorem RowOk.below {w w' : World} {B : Nat} {nd : NodeD} {r : List Value} (h : RowOk w B nd r) (hb : Below w.heap.size w w') : RowOk w' B nd r := by
  obtain ⟨a, c, a', c', e, h1, h2⟩ := h
  exact ⟨a, c, a', c', e, h1.below hb, h2.below hb⟩
/-- Nodes in memory. -/
def NodesOk (w : World) (B : Nat) (t : List NodeD) (rows : List (List Value)) : Prop := rows.length = t.length ∧ ∀ (m : Nat) nd r, t[m]? = some nd → rows[m]? = some r → RowOk w B nd r
/-- A tree that is handed back. -/
def RetNodes (w : World) (t : List NodeD) (v : Value) (w' : World) : Prop := ∃ rows, Wk.Own w' w.heap.size 34 4 v rows ∧ NodesOk w' w.heap.size t rows ∧ Below w.heap.size w w'
theorem own_one {W : World} {B sz b : Nat} {c : List Value} {cs : Array Value} {E : TypeId} (hb : b = W.heap.size) (hB : B ≤ b) (hcs : cs = c.toArray) (hc : c.length = sz) (hm : sz ≤ 1000) : Wk.Own (W.alloc (.cells cs E)) B E sz (.slice (some ⟨b, 0, none⟩) 1 1) [c] := by
  subst hb hcs
  refine ⟨by simpa using hc, by simpa using hc, .inr ⟨W.heap.size, 1, _, rfl, hB, World.alloc_heap_new W _, Nat.le_refl _, by unfold maxLen; omega, by simpa using hc, ?_⟩⟩
  simp [hc]
  rw [← hc, List.take_length]
set_option maxRecDepth 100000 in
theorem idx16 (hh : Nat → Nat) (m : Nat) (W : World) (hm : m < 16) : (Instr.index 104 (.agg #[.int .i64 (hh 0 : Nat), .int .i64 (hh 1 : Nat), .int .i64 (hh 2 : Nat), .int .i64 (hh 3 : Nat), .int .i64 (hh 4 : Nat), .int .i64 (hh 5 : Nat), .int .i64 (hh 6 : Nat), .int .i64 (hh 7 : Nat), .int .i64 (hh 8 : Nat), .int .i64 (hh 9 : Nat), .int .i64 (hh 10 : Nat), .int .i64 (hh 11 : Nat), .int .i64 (hh 12 : Nat), .int .i64 (hh 13 : Nat), .int .i64 (hh 14 : Nat), .int .i64 (hh 15 : Nat)]) (.int .i64 m)).run Tryd.prog W = .ok (.int .i64 (hh m : Nat)) W := by
  have : m = 0 ∨ m = 1 ∨ m = 2 ∨ m = 3 ∨ m = 4 ∨ m = 5 ∨ m = 6 ∨ m = 7 ∨ m = 8 ∨ m = 9 ∨ m = 10 ∨ m = 11 ∨ m = 12 ∨ m = 13 ∨ m = 14 ∨ m = 15 := by omega
  rcases this with rfl | rfl | rfl | rfl | rfl | rfl | rfl | rfl | rfl | rfl | rfl | rfl | rfl | rfl | rfl | rfl <;> first | rfl | (show _ = _; kernel_rfl)
set_option maxRecDepth 100000 in
theorem idxP16 (pp : Nat → Option Nat) (m : Nat) (W : World) (hm : m < 16) : (Instr.index 105 (.agg #[ptrO (pp 0), ptrO (pp 1), ptrO (pp 2), ptrO (pp 3), ptrO (pp 4), ptrO (pp 5), ptrO (pp 6), ptrO (pp 7), ptrO (pp 8), ptrO (pp 9), ptrO (pp 10), ptrO (pp 11), ptrO (pp 12), ptrO (pp 13), ptrO (pp 14), ptrO (pp 15)]) (.int .i64 m)).run Tryd.prog W = .ok (ptrO (pp m)) W := by
  have : m = 0 ∨ m = 1 ∨ m = 2 ∨ m = 3 ∨ m = 4 ∨ m = 5 ∨ m = 6 ∨ m = 7 ∨ m = 8 ∨ m = 9 ∨ m = 10 ∨ m = 11 ∨ m = 12 ∨ m = 13 ∨ m = 14 ∨ m = 15 := by omega
  rcases this with rfl | rfl | rfl | rfl | rfl | rfl | rfl | rfl | rfl | rfl | rfl | rfl | rfl | rfl | rfl | rfl <;> first | rfl | (show _ = _; kernel_rfl)
/-- A node that is being made, in its block. -/
structure NdSt (w : World) (nb : Nat) (c0 c1 v2 v3 : Value) (hs ks : List Nat) : Prop where
  rx : RX w nb [c0, c1, v2, v3]
  oh : Wk.Own w (nb + 1) 3 1 v2 (hs.map nat1)
  ok : Wk.Own w (nb + 1) 3 1 v3 (ks.map nat1)
  ap : Apart v2 v3
  sz : nb + 1 ≤ w.heap.size
theorem NdSt.start {w : World} {nb : Nat} (h : RX w nb [.int .u64 0, .int .u64 0, .slice none 0 0, .slice none 0 0]) : NdSt w nb (.int .u64 0) (.int .u64 0) (.slice none 0 0) (.slice none 0 0) [] [] :=
  ⟨h, Wk.Own.nil _ _ _ _, Wk.Own.nil _ _ _ _, Apart.nil none _, h.lt⟩
theorem NdSt.below {w w' : World} {nb : Nat} {c0 c1 v2 v3 : Value} {hs ks : List Nat} (h : NdSt w nb c0 c1 v2 v3 hs ks) (hb : Below w.heap.size w w') : NdSt w' nb c0 c1 v2 v3 hs ks :=
  ⟨h.rx.below hb, h.oh.below hb, h.ok.below hb, h.ap, Nat.le_trans h.sz hb.size⟩
theorem own_cell {w : World} {B b i : Nat} {e : TypeId} {sz : Nat} {v u : Value} {xs : List (List Value)} (h : Wk.Own w B e sz v xs) (hb : b < B) : Wk.Own (w.setCell ⟨b, i, none⟩ u) B e sz v xs :=
  h.chg (g := b) (chg_set w b i u) (fun k x e => e.1) (fun e => by have := (h.lt b e).1; omega)
theorem NdSt.set0 {w : World} {nb : Nat} {c0 c1 v2 v3 : Value} {hs ks : List Nat} (h : NdSt w nb c0 c1 v2 v3 hs ks) (u : Value) : NdSt (w.setCell ⟨nb, 0, none⟩ u) nb u c1 v2 v3 hs ks ∧ Below nb w (w.setCell ⟨nb, 0, none⟩ u) := by
  obtain ⟨r1, r2⟩ := rx_put1 h.rx (j := 0) (by simp) u
  exact ⟨⟨r1, own_cell h.oh (Nat.lt_succ_self _), own_cell h.ok (Nat.lt_succ_self _), h.ap, by simpa using h.sz⟩, r2.below (Nat.le_of_lt h.rx.lt) (fun b _ hlt e => by omega)⟩
theorem NdSt.set1 {w : World} {nb : Nat} {c0 c1 v2 v3 : Value} {hs ks : List Nat} (h : NdSt w nb c0 c1 v2 v3 hs ks) (u : Value) : NdSt (w.setCell ⟨nb, 1, none⟩ u) nb c0 u v2 v3 hs ks ∧ Below nb w (w.setCell ⟨nb, 1, none⟩ u) := by
  obtain ⟨r1, r2⟩ := rx_put1 h.rx (j := 1) (by simp) u
  exact ⟨⟨r1, own_cell h.oh (Nat.lt_succ_self _), own_cell h.ok (Nat.lt_succ_self _), h.ap, by simpa using h.sz⟩, r2.below (Nat.le_of_lt h.rx.lt) (fun b _ hlt e => by omega)⟩
theorem NdSt.app2 {w w5 : World} {nb x : Nat} {c0 c1 v2 v3 v' : Value} {hs ks : List Nat} (h : NdSt w nb c0 c1 v2 v3 hs ks) (ho : Wk.Own w5 (nb + 1) 3 1 v' ((hs ++ [x]).map nat1)) (hg : w.grownBy w5 v2.ownBlock) (hat : v'.ownBlock = v2.ownBlock ∨ v'.ownBlock = some w.heap.size) :
    NdSt (w5.setCell ⟨nb, 2, none⟩ v') nb c0 c1 v' v3 (hs ++ [x]) ks ∧ Below nb w (w5.setCell ⟨nb, 2, none⟩ v') := by
  have hrx := h.rx.grown hg (fun g e => by have := (h.oh.lt g e).1; omega)
  obtain ⟨r1, r2⟩ := rx_put1 hrx (j := 2) (by simp) v'
  have hb5 : Below nb w w5 := Below.of_grown hg (Nat.le_of_lt h.rx.lt) (fun k hk => by have := (h.oh.lt k hk).1; omega)
  refine ⟨⟨r1, own_cell ho (Nat.lt_succ_self _), own_cell (h.ap.symm.keeps h.ok hg) (Nat.lt_succ_self _), (h.ap.symm.grown h.ok hat).symm, ?_⟩, hb5.trans (r2.below (Nat.le_of_lt hrx.lt) (fun b _ hlt e => by omega))⟩
  have := h.sz
  have := hg.size
  simp
  omega
theorem NdSt.app3 {w w5 : World} {nb x : Nat} {c0 c1 v2 v3 v' : Value} {hs ks : List Nat} (h : NdSt w nb c0 c1 v2 v3 hs ks) (ho : Wk.Own w5 (nb + 1) 3 1 v' ((ks ++ [x]).map nat1)) (hg : w.grownBy w5 v3.ownBlock) (hat : v'.ownBlock = v3.ownBlock ∨ v'.ownBlock = some w.heap.size) :
    NdSt (w5.setCell ⟨nb, 3, none⟩ v') nb c0 c1 v2 v' hs (ks ++ [x]) ∧ Below nb w (w5.setCell ⟨nb, 3, none⟩ v') := by
  have hrx := h.rx.grown hg (fun g e => by have := (h.ok.lt g e).1; omega)
  obtain ⟨r1, r2⟩ := rx_put1 hrx (j := 3) (by simp) v'
  have hb5 : Below nb w w5 := Below.of_grown hg (Nat.le_of_lt h.rx.lt) (fun k hk => by have := (h.ok.lt k hk).1; omega)
  refine ⟨⟨r1, own_cell (h.ap.keeps h.oh hg) (Nat.lt_succ_self _), own_cell ho (Nat.lt_succ_self _), h.ap.grown h.oh hat, ?_⟩, hb5.trans (r2.below (Nat.le_of_lt hrx.lt) (fun b _ hlt e => by omega))⟩
  have := h.sz
  have := hg.size
  simp
  omega
theorem ty_int_draft : 3 ≠ 103 := by decide
theorem ty_int_node : 3 ≠ 34 := by decide
theorem ty_node_draft : 34 ≠ 103 := by decide
/-- The queue, or the list of nodes, grows: a node that is being made stays. -/
theorem NdSt.grow {w w5 : World} {nb B sz : Nat} {E : TypeId} {c0 c1 v2 v3 v : Value} {hs ks : List Nat} {xs : List (List Value)} (h : NdSt w nb c0 c1 v2 v3 hs ks) (ho : Wk.Own w B E sz v xs) (hE : 3 ≠ E) (hnb : v.ownBlock ≠ some nb) (hg : w.grownBy w5 v.ownBlock) : NdSt w5 nb c0 c1 v2 v3 hs ks :=
  ⟨h.rx.grown hg (fun g e e2 => hnb (by rw [e, e2])), h.oh.kept2 hg (fun hn => h.oh.apart ho hE hn), h.ok.kept2 hg (fun hn => h.ok.apart ho hE hn), h.ap, Nat.le_trans h.sz hg.size⟩
theorem RowOk.grow {w w5 : World} {B C sz : Nat} {E : TypeId} {nd : NodeD} {r : List Value} {v : Value} {xs : List (List Value)} (h : RowOk w B nd r) (ho : Wk.Own w C E sz v xs) (hE : 3 ≠ E) (hg : w.grownBy w5 v.ownBlock) : RowOk w5 B nd r := by
  obtain ⟨a, c, a', c', e, h1, h2⟩ := h
  exact ⟨a, c, a', c', e, h1.kept2 hg (fun hn => h1.apart ho hE hn), h2.kept2 hg (fun hn => h2.apart ho hE hn)⟩
/-- Where the making of nodes stands. -/
structure TrSt (W1 wr : World) (R : List (Nat × Nat × Nat)) (M : Nat → Nat → Option Nat) (i : Nat) (v6 v7 : Value) (Q : List (Nat × Nat)) (rows : List (List Value)) : Prop where
  qo : Wk.Own wr W1.heap.size 103 1 v6 (Q.map (fun x => ptr1 (M x.1 x.2)))
  oo : Wk.Own wr W1.heap.size 34 4 v7 rows
  no : NodesOk wr W1.heap.size (treeL (nodeIn R) (hopAt R) i) rows
  lo : Below W1.heap.size W1 wr
theorem TrSt.below {W1 wr w' : World} {R : List (Nat × Nat × Nat)} {M : Nat → Nat → Option Nat} {i : Nat} {v6 v7 : Value} {Q : List (Nat × Nat)} {rows : List (List Value)} (h : TrSt W1 wr R M i v6 v7 Q rows) (hb : Below wr.heap.size wr w') : TrSt W1 w' R M i v6 v7 Q rows :=
  ⟨h.qo.below hb, h.oo.below hb, ⟨h.no.1, fun m nd r e1 e2 => (h.no.2 m nd r e1 e2).below hb⟩, h.lo.trans (hb.mono h.lo.size)⟩
/-- The queue grows. -/
theorem TrSt.queue {W1 wr w5 : World} {R : List (Nat × Nat × Nat)} {M : Nat → Nat → Option Nat} {i : Nat} {v6 v7 v' : Value} {Q : List (Nat × Nat)} {rows : List (List Value)} {x : Nat × Nat} (h : TrSt W1 wr R M i v6 v7 Q rows) (ho : Wk.Own w5 W1.heap.size 103 1 v' ((Q ++ [x]).map (fun x => ptr1 (M x.1 x.2)))) (hg : wr.grownBy w5 v6.ownBlock) : TrSt W1 w5 R M i v' v7 (Q ++ [x]) rows :=
  ⟨ho, h.oo.kept2 hg (fun hn => h.oo.apart h.qo ty_node_draft hn), ⟨h.no.1, fun m nd r e1 e2 => (h.no.2 m nd r e1 e2).grow h.qo ty_int_draft hg⟩, h.lo.trans (Below.of_grown hg h.lo.size (fun k hk => (h.qo.lt k hk).1))⟩
/-- The node is made. -/
theorem TrSt.node {W1 wr w5 : World} {R : List (Nat × Nat × Nat)} {M : Nat → Nat → Option Nat} {i : Nat} {v6 v7 v' : Value} {Q : List (Nat × Nat)} {rows : List (List Value)} {x : Nat × Nat} {r : List Value} (h : TrSt W1 wr R M i v6 v7 Q rows) (hx : (bq (nodeIn R) i)[i]? = some x) (hr : RowOk wr W1.heap.size (nodeAt (nodeIn R) (hopAt R) x (bq (nodeIn R) i).length) r) (ho : Wk.Own w5 W1.heap.size 34 4 v' (rows ++ [r])) (hg : wr.grownBy w5 v7.ownBlock) : TrSt W1 w5 R M (i + 1) v6 v' Q (rows ++ [r]) := by
  refine ⟨h.qo.kept2 hg (fun hn => h.qo.apart h.oo ty_node_draft.symm hn), ho, ?_, h.lo.trans (Below.of_grown hg h.lo.size (fun k hk => (h.oo.lt k hk).1))⟩
  rw [treeL_snoc _ _ _ hx]
  refine ⟨by simp [h.no.1], fun m nd r' e1 e2 => ?_⟩
  have hrl := h.no.1
  by_cases hm : m < rows.length
  · rw [List.getElem?_append_left (by omega)] at e1
    rw [List.getElem?_append_left hm] at e2
    exact (h.no.2 m nd r' e1 e2).grow h.oo ty_int_node hg
  · have hm2 : m = rows.length := by
      have := (List.getElem?_eq_some_iff.1 e2).1
      rw [List.length_append] at this
      simp at this
      omega
    subst hm2
    rw [hrl, List.getElem?_append_right (Nat.le_refl _)] at e1
    rw [List.getElem?_append_right (Nat.le_refl _)] at e2
    simp at e1 e2
    subst e1 e2
    exact hr.grow h.oo ty_int_node hg
/-- The slices of some rows lie below a block. -/
def RowsLow (nb : Nat) (rows : List (List Value)) : Prop := ∀ r ∈ rows, ∀ v ∈ r, ∀ g, v.ownBlock = some g → g < nb
theorem TrSt.low {W1 wr : World} {R : List (Nat × Nat × Nat)} {M : Nat → Nat → Option Nat} {i : Nat} {v6 v7 : Value} {Q : List (Nat × Nat)} {rows : List (List Value)} (h : TrSt W1 wr R M i v6 v7 Q rows) : RowsLow wr.heap.size rows := by
  intro r hr v hv g hg
  obtain ⟨m, hm, e⟩ := List.getElem_of_mem hr
  have h2 : m < (treeL (nodeIn R) (hopAt R) i).length := by rw [← h.no.1]; exact hm
  obtain ⟨a, c, a', c', e2, o1, o2⟩ := h.no.2 m _ r (List.getElem?_eq_getElem h2) (by rw [List.getElem?_eq_getElem hm, e])
  rw [e2] at hv
  simp only [List.mem_cons, List.not_mem_nil, or_false] at hv
  rcases hv with rfl | rfl | rfl | rfl
  · simp [Value.ownBlock] at hg
  · simp [Value.ownBlock] at hg
  · exact (o1.lt g hg).2
  · exact (o2.lt g hg).2
theorem RowOk.keep {w w' : World} {B : Nat} {nd : NodeD} {r : List Value} {row : Option Nat} (h : RowOk w B nd r) (hg : w.grownBy w' row) (hr : ∀ v ∈ r, v.ownBlock = none ∨ v.ownBlock ≠ row) : RowOk w' B nd r := by
  obtain ⟨a, c, a', c', e, h1, h2⟩ := h
  exact ⟨a, c, a', c', e, ⟨h1.1, h1.2.kept hg (hr _ (by rw [e]; simp))⟩, ⟨h2.1, h2.2.kept hg (hr _ (by rw [e]; simp))⟩⟩
theorem TrSt.cell {W1 w : World} {R : List (Nat × Nat × Nat)} {M : Nat → Nat → Option Nat} {i nb o : Nat} {u : Value} {v6 v7 : Value} {Q : List (Nat × Nat)} {rows : List (List Value)} (h : TrSt W1 w R M i v6 v7 Q rows) (hq : v6.ownBlock ≠ some nb) (ho : v7.ownBlock ≠ some nb) (hr : RowsLow nb rows) (hW : W1.heap.size ≤ nb) : TrSt W1 (w.setCell ⟨nb, o, none⟩ u) R M i v6 v7 Q rows := by
  have c := chg_set w nb o u
  have hg : w.grownBy (w.setCell ⟨nb, o, none⟩ u) (some nb) := ⟨c.os, c.tape, c.output, c.size, fun k hk hne => c.block k hk (fun x hx => hne (by rw [hx.1]))⟩
  refine ⟨h.qo.chg c (fun k x e => e.1) hq, h.oo.chg c (fun k x e => e.1) ho, ⟨h.no.1, fun m nd r e1 e2 => (h.no.2 m nd r e1 e2).keep hg (fun v hv => ?_)⟩, h.lo.trans (c.below h.lo.size (fun k x hk e => by omega))⟩
  by_cases hn : v.ownBlock = none
  · exact .inl hn
  · exact .inr (fun e => by have := hr r (List.mem_of_getElem? e2) v hv nb e; omega)
theorem TrSt.ints {W1 w w5 : World} {R : List (Nat × Nat × Nat)} {M : Nat → Nat → Option Nat} {i nb : Nat} {v6 v7 v3 : Value} {Q : List (Nat × Nat)} {rows ks : List (List Value)} (h : TrSt W1 w R M i v6 v7 Q rows) (hk : Wk.Own w (nb + 1) 3 1 v3 ks) (hg : w.grownBy w5 v3.ownBlock) (hr : RowsLow nb rows) (hW : W1.heap.size ≤ nb) (hs : nb < w.heap.size) : TrSt W1 w5 R M i v6 v7 Q rows := by
  refine ⟨h.qo.kept2 hg (fun hn => h.qo.apart hk ty_int_draft.symm hn), h.oo.kept2 hg (fun hn => h.oo.apart hk ty_int_node.symm hn), ⟨h.no.1, fun m nd r e1 e2 => (h.no.2 m nd r e1 e2).keep hg (fun v hv => ?_)⟩, h.lo.trans (Below.of_grown hg h.lo.size (fun k hk' => by have := (hk.lt k hk').1; omega))⟩
  by_cases hn : v.ownBlock = none
  · exact .inl hn
  · refine .inr (fun e => ?_)
    cases h3 : v3.ownBlock with
    | none => rw [h3] at e; exact hn e
    | some g =>
      rw [h3] at e
      have h1 := hr r (List.mem_of_getElem? e2) v hv g e
      have h2 := (hk.lt g h3).1
      omega
end Go.Proofs.YtoecmoicaklbaaaDoor
