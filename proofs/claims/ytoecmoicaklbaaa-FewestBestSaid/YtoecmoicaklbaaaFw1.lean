
/- Trees of fewest: data; contracts of split and tell. -/
import Derived.Test.YtoecmoicaklbaaaRg2
import Derived.Deep.DeepCutAuto
set_option linter.unusedVariables false
set_option linter.unusedSimpArgs false
namespace Go.Proofs.Ytoecmoicaklbaaa
open Go Go.RowKit Go.Sort Wc Wk

/-- A tree of nodes: b: the node's block; p: its parts' block; h: its hop. -/
inductive FT where
  | leaf (b h : Nat)
  | node (b p h : Nat) (l r : FT)
def FT.root : FT → Nat
  | .leaf b _ => b
  | .node b _ _ _ _ => b
abbrev ptrN (b : Nat) : Value := .pointer (some ⟨b, 0, none⟩)
abbrev nilS : Value := .slice none 0 0
def nodeC (p : Value) (h : Nat) (s : Value) : List Value := [p, .int .i64 (h : Nat), s]
/-- Its blocks with their cells; S: the nodes' sets, by their blocks. -/
def FT.cells (S : Nat → Value) : FT → List (Nat × List Value)
  | .leaf b h => [(b, nodeC (.pointer none) h (S b))]
  | .node b p h l r => (b, nodeC (ptrN p) h (S b)) :: (p, [ptrN l.root, ptrN r.root]) :: (l.cells S ++ r.cells S)
def FT.blocks : FT → List Nat
  | .leaf b _ => [b]
  | .node b p _ l r => b :: p :: (l.blocks ++ r.blocks)
theorem FT.fst_cells (S : Nat → Value) : ∀ t : FT, (t.cells S).map Prod.fst = t.blocks
  | .leaf b h => rfl
  | .node b p h l r => by simp [FT.cells, FT.blocks, FT.fst_cells S l, FT.fst_cells S r]
/-- Blocks with their cells, each of its own. -/
structure Hd (w : World) (cs : List (Nat × List Value)) : Prop where
  rx : ∀ x ∈ cs, RX w x.1 x.2
  nd : (cs.map Prod.fst).Nodup
theorem Hd.below {w w' : World} {cs : List (Nat × List Value)} (h : Hd w cs) (k : Below w.heap.size w w') : Hd w' cs := ⟨fun x hx => (h.rx x hx).below k, h.nd⟩
theorem Hd.perm {w : World} {cs ds : List (Nat × List Value)} (h : Hd w cs) (p : cs.Perm ds) : Hd w ds := ⟨fun x hx => h.rx x (p.mem_iff.2 hx), (p.map _).nodup_iff.1 h.nd⟩
theorem Hd.left {w : World} {cs ds : List (Nat × List Value)} (h : Hd w (cs ++ ds)) : Hd w cs := ⟨fun x hx => h.rx x (List.mem_append_left _ hx), by have := h.nd; rw [List.map_append] at this; exact (List.nodup_append.1 this).1⟩
theorem Hd.right {w : World} {cs ds : List (Nat × List Value)} (h : Hd w (cs ++ ds)) : Hd w ds := ⟨fun x hx => h.rx x (List.mem_append_right _ hx), by have := h.nd; rw [List.map_append] at this; exact (List.nodup_append.1 this).2.1⟩
theorem Hd.lt {w : World} {cs : List (Nat × List Value)} (h : Hd w cs) : ∀ b ∈ cs.map Prod.fst, b < w.heap.size := fun b hb => by
  obtain ⟨x, hx, rfl⟩ := List.mem_map.1 hb
  exact (h.rx x hx).lt
/-- A part of the blocks has turned, and others have come. -/
theorem Hd.swap {w w' : World} {A ts B ts' : List (Nat × List Value)} (h : Hd w (A ++ (ts ++ B))) (c : Chg w w' (fun b _ => b ∈ ts.map Prod.fst)) (h' : Hd w' ts') (hn : ∀ x ∈ ts'.map Prod.fst, x ∈ ts.map Prod.fst ∨ w.heap.size ≤ x) : Hd w' (A ++ (ts' ++ B)) := by
  have nd := h.nd
  simp only [List.map_append] at nd
  obtain ⟨nA, nTB, dA⟩ := List.nodup_append.1 nd
  obtain ⟨nT, nB, dT⟩ := List.nodup_append.1 nTB
  have fst : ∀ {l : List (Nat × List Value)} {x}, x ∈ l → x.1 ∈ l.map Prod.fst := fun hx => List.mem_map.2 ⟨_, hx, rfl⟩
  have lt : ∀ b ∈ (A ++ (ts ++ B)).map Prod.fst, b < w.heap.size := h.lt
  refine ⟨fun x hx => ?_, ?_⟩
  · rcases List.mem_append.1 hx with hx | hx
    · exact (h.rx x (List.mem_append_left _ hx)).chg c (fun _ hb => dA _ (fst hx) _ (List.mem_append_left _ hb) rfl)
    · rcases List.mem_append.1 hx with hx | hx
      · exact h'.rx x hx
      · exact (h.rx x (List.mem_append_right _ (List.mem_append_right _ hx))).chg c (fun _ hb => dT _ hb _ (fst hx) rfl)
  · simp only [List.map_append]
    refine List.nodup_append.2 ⟨nA, List.nodup_append.2 ⟨h'.nd, nB, fun a ha b hb e => ?_⟩, fun a ha b hb e => ?_⟩
    · subst e
      rcases hn a ha with h1 | h1
      · exact dT _ h1 _ hb rfl
      · have := lt a (by simp only [List.map_append]; exact List.mem_append_right _ (List.mem_append_right _ hb)); omega
    · subst e
      rcases List.mem_append.1 hb with hb | hb
      · rcases hn a hb with h1 | h1
        · exact dA _ ha _ (List.mem_append_left _ h1) rfl
        · have := lt a (by simp only [List.map_append]; exact List.mem_append_left _ ha); omega
      · exact dA _ ha _ (List.mem_append_right _ hb) rfl
/-- Cells of a node. -/
theorem Hd.node {w : World} {S : Nat → Value} {b p h : Nat} {l r : FT} (hd : Hd w ((FT.node b p h l r).cells S)) : RX w b (nodeC (ptrN p) h (S b)) ∧ RX w p [ptrN l.root, ptrN r.root] ∧ Hd w (l.cells S) ∧ Hd w (r.cells S) ∧ b ≠ p :=
  ⟨hd.rx (b, nodeC (ptrN p) h (S b)) (by simp [FT.cells]), hd.rx (p, [ptrN l.root, ptrN r.root]) (by simp [FT.cells]), (show Hd w ([(b, nodeC (ptrN p) h (S b)), (p, [ptrN l.root, ptrN r.root])] ++ (l.cells S ++ r.cells S)) from hd).right.left, (show Hd w ([(b, nodeC (ptrN p) h (S b)), (p, [ptrN l.root, ptrN r.root])] ++ (l.cells S ++ r.cells S)) from hd).right.right, by
    have := hd.nd
    simp only [FT.cells, List.map_cons, List.nodup_cons, List.mem_cons, not_or] at this
    exact this.1.1⟩
theorem FT.root_mem (t : FT) : t.root ∈ t.blocks := by cases t <;> simp [FT.root, FT.blocks]
theorem Hd.top {w : World} {S : Nat → Value} {t : FT} (hd : Hd w (t.cells S)) : t.root < w.heap.size := hd.lt _ (by rw [FT.fst_cells]; exact t.root_mem)

def SplitSays (w : World) (b h : Nat) (e : Ending) (w' : World) : Prop :=
  e = .returned (.tuple #[]) ∧ ∃ p bl br, w.heap.size ≤ p ∧ w.heap.size ≤ bl ∧ w.heap.size ≤ br ∧ Hd w' ((FT.node b p h (.leaf bl h) (.leaf br h)).cells (fun _ => nilS)) ∧ Chg w w' (fun k _ => k = b)
theorem split_says {w w' : World} {b h p bl br : Nat} (hb : b < w.heap.size) (h1 : w.heap.size ≤ p) (h2 : w.heap.size ≤ bl) (h3 : w.heap.size ≤ br) (n1 : p ≠ bl) (n2 : p ≠ br) (n3 : bl ≠ br) (rb : RX w' b (nodeC (ptrN p) h nilS)) (rp : RX w' p [ptrN bl, ptrN br]) (rl : RX w' bl (nodeC (.pointer none) h nilS)) (rr : RX w' br (nodeC (.pointer none) h nilS)) (c : Chg w w' (fun k _ => k = b)) : SplitSays w b h (.returned (.tuple #[])) w' := by
  refine ⟨rfl, p, bl, br, h1, h2, h3, ⟨fun x hx => ?_, ?_⟩, c⟩
  · simp only [FT.cells, FT.root, List.cons_append, List.nil_append, List.mem_cons, List.not_mem_nil, or_false] at hx
    rcases hx with rfl | rfl | rfl | rfl
    · exact rb
    · exact rp
    · exact rl
    · exact rr
  · simp only [FT.cells, List.cons_append, List.nil_append, List.map_cons, List.map_nil, List.nodup_cons, List.mem_cons, List.not_mem_nil, or_false, not_or]
    refine ⟨⟨by omega, by omega, by omega⟩, ⟨n1, n2⟩, n3, not_false, List.nodup_nil⟩
theorem rxc3 {w : World} {b : Nat} {c0 c1 c2 : Value} (hlt : b < w.heap.size) (hf : ∀ j, w.frozen? ⟨b, j, none⟩ = false) (h0 : w.cell? ⟨b, 0, none⟩ = some c0) (h1 : w.cell? ⟨b, 1, none⟩ = some c1) (h2 : w.cell? ⟨b, 2, none⟩ = some c2) : RX w b [c0, c1, c2] :=
  ⟨hlt, fun j u hu => by
    match j, hu with
    | 0, hu => simp at hu; rw [← hu]; exact h0
    | 1, hu => simp at hu; rw [← hu]; exact h1
    | 2, hu => simp at hu; rw [← hu]; exact h2
    | j + 3, hu => simp at hu, hf⟩
theorem rxc2 {w : World} {b : Nat} {c0 c1 : Value} (hlt : b < w.heap.size) (hf : ∀ j, w.frozen? ⟨b, j, none⟩ = false) (h0 : w.cell? ⟨b, 0, none⟩ = some c0) (h1 : w.cell? ⟨b, 1, none⟩ = some c1) : RX w b [c0, c1] :=
  ⟨hlt, fun j u hu => by
    match j, hu with
    | 0, hu => simp at hu; rw [← hu]; exact h0
    | 1, hu => simp at hu; rw [← hu]; exact h1
    | j + 2, hu => simp at hu, hf⟩
theorem rx_three (W : World) (a b c : List Value) (E1 E2 E3 : TypeId) :
    RX (((W.alloc (.cells a.toArray E1)).alloc (.cells b.toArray E2)).alloc (.cells c.toArray E3)).drew W.heap.size a ∧
    RX (((W.alloc (.cells a.toArray E1)).alloc (.cells b.toArray E2)).alloc (.cells c.toArray E3)).drew (W.heap.size + 1) b ∧
    RX (((W.alloc (.cells a.toArray E1)).alloc (.cells b.toArray E2)).alloc (.cells c.toArray E3)).drew (W.heap.size + 1 + 1) c ∧
    Below W.heap.size W (((W.alloc (.cells a.toArray E1)).alloc (.cells b.toArray E2)).alloc (.cells c.toArray E3)).drew := by
  obtain ⟨X1, h1⟩ : ∃ X, X = W.alloc (.cells a.toArray E1) := ⟨_, rfl⟩
  obtain ⟨X2, h2⟩ : ∃ X, X = X1.alloc (.cells b.toArray E2) := ⟨_, rfl⟩
  obtain ⟨X3, h3⟩ : ∃ X, X = X2.alloc (.cells c.toArray E3) := ⟨_, rfl⟩
  have s1 : X1.heap.size = W.heap.size + 1 := by rw [h1]; simp
  have s2 : X2.heap.size = W.heap.size + 1 + 1 := by rw [h2]; simp [s1]
  have r1 : RX X1 W.heap.size a := by rw [h1]; exact rx_new a E1
  have r2 : RX X2 X1.heap.size b := by rw [h2]; exact rx_new b E2
  have r3 : RX X3 X2.heap.size c := by rw [h3]; exact rx_new c E3
  have b1 : Below W.heap.size W X1 := by rw [h1]; exact (Below.refl _ _).alloc (Nat.le_refl _) _
  have b2 : Below X1.heap.size X1 X2 := by rw [h2]; exact (Below.refl _ _).alloc (Nat.le_refl _) _
  have b3 : Below X2.heap.size X2 X3 := by rw [h3]; exact (Below.refl _ _).alloc (Nat.le_refl _) _
  have b4 : Below X3.heap.size X3 X3.drew := Below.drew (Below.refl _ _)
  rw [← h1, ← h2, ← h3]
  rw [s1] at r2
  rw [s2] at r3
  have c3 := b3.trans (b4.mono b3.size)
  have c2 := b2.trans (c3.mono b2.size)
  exact ⟨r1.below c2, r2.below c3, r3.below b4, b1.trans (c2.mono b1.size)⟩
/-- One cell of a block is set. -/
theorem rx_one {w : World} {b : Nat} {c : List Value} (h : RX w b c) {j : Nat} (hj : j < c.length) (u : Value) : RX (w.setCell ⟨b, j, none⟩ u) b (c.set j u) ∧ Chg w (w.setCell ⟨b, j, none⟩ u) (fun k _ => k = b) := by
  have s := chg_set w b j u
  refine ⟨⟨by simpa using h.lt, fun i v hv => ?_, fun i => (s.froz b i h.lt).trans (h.fz i)⟩, s.mono (fun k x e => e.1)⟩
  by_cases e : j = i
  · subst e
    rw [List.getElem?_set_self hj] at hv
    cases hv
    exact World.cell?_setCell_same w ⟨b, j, none⟩ _ (h.cell j _ (List.getElem?_eq_getElem hj))
  · rw [List.getElem?_set_ne e] at hv
    exact (s.cell b i h.lt (fun k => e k.2.symm)).trans (h.cell i v hv)


set_option maxHeartbeats 1000000 in
theorem split_leaf (b h : Nat) (w : World) (hx : RX w b (nodeC (.pointer none) h nilS)) :
    Calls Try.prog 93 #[ptrN b] w (SplitSays w b h) := by
  have c0 : w.cell? ⟨b, 0, none⟩ = some (.pointer none) := hx.cell 0 _ rfl
  have c1 : w.cell? ⟨b, 1, none⟩ = some (.int .i64 (h : Nat)) := hx.cell 1 _ rfl
  have c2 : w.cell? ⟨b, 2, none⟩ = some nilS := hx.cell 2 _ rfl
  have f0 := hx.fz
  have hb := hx.lt
  have hb1 : b < w.heap.size + 1 := by omega
  have hb2 : b < w.heap.size + 1 + 1 := by omega
  have HX := Lib.hid hx
  clear hx
  go_enter Try.func93, Try.ntmps93
  go_wp2_with fail
  go_region
  all_goals go_wp2_with fail
  all_goals go_end0
  all_goals obtain ⟨r1, r2⟩ := rx_one HX.out (j := 0) (by simp [nodeC]) (ptrN (w.heap.size + 1 + 1))
  all_goals have hs : (w.setCell ⟨b, 0, none⟩ (ptrN (w.heap.size + 1 + 1))).heap.size = w.heap.size := by simp
  all_goals clear c0 c1 c2 f0
  all_goals generalize w.setCell ⟨b, 0, none⟩ (ptrN (w.heap.size + 1 + 1)) = W1 at r1 r2 hs ⊢
  all_goals rw [← hs] at r1 ⊢
  · obtain ⟨k1, k2, k3, k4⟩ := rx_three W1 (nodeC (.pointer none) h nilS) (nodeC (.pointer none) h nilS) [ptrN W1.heap.size, ptrN (W1.heap.size + 1)] 163 163 192
    exact split_says hb (by omega) (by omega) (by omega) (by omega) (by omega) (by omega) (r1.below k4) k3 k1 k2 (r2.trans (Chg.of_below k4 _) (fun _ _ _ h => h))
  · obtain ⟨k1, k2, k3, k4⟩ := rx_three W1 (nodeC (.pointer none) h nilS) (nodeC (.pointer none) h nilS) [ptrN (W1.heap.size + 1), ptrN W1.heap.size] 163 163 192
    exact split_says hb (by omega) (by omega) (by omega) (by omega) (by omega) (by omega) (r1.below k4) k3 k2 k1 (r2.trans (Chg.of_below k4 _) (fun _ _ _ h => h))

set_option maxHeartbeats 1000000 in
theorem split_node (b p h : Nat) (s : Value) (w : World) (hx : RX w b (nodeC (ptrN p) h s)) :
    Calls Try.prog 93 #[ptrN b] w fun e w' => e = .returned (.tuple #[]) ∧ Below w.heap.size w w' := by
  have c0 : w.cell? ⟨b, 0, none⟩ = some (ptrN p) := hx.cell 0 _ rfl
  have hb := hx.lt
  clear hx
  go_enter Try.func93, Try.ntmps93
  go_wp2_with fail
  go_returns
  exact ⟨rfl, by (repeat' (first | (with_reducible exact Below.refl _ _) | (with_reducible assumption) | (with_reducible refine Below.alloc ?_ ?_ _) | (with_reducible refine Below.drew ?_) | (with_reducible refine Below.stepG ?_ (by assumption) ?_) | (with_reducible refine Below.setCell ?_ ?_ _) | omega | (dsimp only; omega) | (simp; done) | (simp; omega)))⟩
def FT.tell (g : Nat) : FT → FT
  | .leaf b h => .leaf b g
  | .node b p h l r => .node b p g (l.tell g) (r.tell g)
theorem FT.tell_root (g : Nat) (t : FT) : (t.tell g).root = t.root := by cases t <;> rfl
theorem FT.tell_blocks (g : Nat) : ∀ t : FT, (t.tell g).blocks = t.blocks
  | .leaf b h => rfl
  | .node b p h l r => by simp only [FT.blocks, FT.tell, FT.tell_blocks g l, FT.tell_blocks g r]

set_option maxHeartbeats 1000000 in
theorem tell_any (S : Nat → Value) (g : Nat) : ∀ (t : FT) (w : World), Hd w (t.cells S) → Calls Try.prog 95 #[ptrN t.root, .int .i64 (g : Nat)] w fun e w' => e = .returned (.tuple #[]) ∧ Hd w' ((t.tell g).cells S) ∧ Chg w w' (fun b _ => b ∈ t.blocks)
  | .leaf b h, w, hd => by
    have hx : RX w b (nodeC (.pointer none) h (S b)) := hd.rx (b, nodeC (.pointer none) h (S b)) (by simp [FT.cells])
    have c0 : w.cell? ⟨b, 0, none⟩ = some (.pointer none) := hx.cell 0 _ rfl
    have c1 : w.cell? ⟨b, 1, none⟩ = some (.int .i64 (h : Nat)) := hx.cell 1 _ rfl
    have f0 := hx.fz
    have hb := hx.lt
    obtain ⟨r1, r2⟩ := rx_one hx (j := 1) (by simp [nodeC]) (.int .i64 (g : Nat))
    have R1 := Lib.hid r1
    have R2 := Lib.hid r2
    clear hx hd r1 r2
    show Calls Try.prog 95 #[ptrN b, .int .i64 (g : Nat)] w _
    go_enter Try.func95, Try.ntmps95
    go_wp2_with fail
    go_returns
    refine ⟨rfl, ⟨fun x hx => ?_, by simp [FT.cells, FT.tell]⟩, R2.out.mono (fun b' _ e => by simp [FT.blocks, e])⟩
    simp only [FT.tell, FT.cells, List.mem_singleton] at hx
    subst hx
    exact R1.out
  | .node b p h l r, w, hd => by
    obtain ⟨hx, hp, hl, hr, hne⟩ := hd.node
    have c0 : w.cell? ⟨b, 0, none⟩ = some (ptrN p) := hx.cell 0 _ rfl
    have c1 : w.cell? ⟨b, 1, none⟩ = some (.int .i64 (h : Nat)) := hx.cell 1 _ rfl
    have f0 := hx.fz
    have hb := hx.lt
    obtain ⟨r1, r2⟩ := rx_one hx (j := 1) (by simp [nodeC]) (.int .i64 (g : Nat))
    obtain ⟨W1, hW1⟩ : ∃ W1, W1 = w.setCell ⟨b, 1, none⟩ (.int .i64 (g : Nat)) := ⟨_, rfl⟩
    have H1 : Hd W1 ([(b, nodeC (ptrN p) g (S b)), (p, [ptrN l.root, ptrN r.root])] ++ (l.cells S ++ r.cells S)) := by
      have hd' : Hd w ([] ++ ([(b, nodeC (ptrN p) h (S b))] ++ ((p, [ptrN l.root, ptrN r.root]) :: (l.cells S ++ r.cells S)))) := hd
      have := hd'.swap (ts' := [(b, nodeC (ptrN p) g (S b))]) (w' := W1) (by rw [hW1]; exact r2.mono (fun b' _ e => by simp [e])) ⟨fun x hx => by simp only [List.mem_singleton] at hx; subst hx; rw [hW1]; exact r1, by simp⟩ (fun x hx => .inl (by simpa using hx))
      exact this
    have C1 : Hid (Chg w W1 (fun b' _ => b' = b)) := by show Chg _ _ _; rw [hW1]; exact r2
    have IL := Lib.hid (tell_any S g l W1 (H1.right.left))
    have H1' := Lib.hid H1
    clear hx hl hr hd r1 r2 H1 hp
    show Calls Try.prog 95 #[ptrN b, .int .i64 (g : Nat)] w _
    go_enter Try.func95, Try.ntmps95
    have p0 := (H1'.out.rx (b, nodeC (ptrN p) g (S b)) (by simp)).cell 0 _ rfl
    have q0 := (H1'.out.rx (p, [ptrN l.root, ptrN r.root]) (by simp)).cell 0 _ rfl
    have hb1 := (H1'.out.rx (b, nodeC (ptrN p) g (S b)) (by simp)).lt
    have hp1 := (H1'.out.rx (p, [ptrN l.root, ptrN r.root]) (by simp)).lt
    rw [hW1] at p0 q0 hb1 hp1
    go_wp2_with fail
    rw [← hW1]
    refine IL.out.mono ?_
    rintro e w2 ⟨rfl, h2, k2⟩
    have H2 : Hid (Hd w2 (([(b, nodeC (ptrN p) g (S b)), (p, [ptrN l.root, ptrN r.root])] ++ (l.tell g).cells S) ++ r.cells S)) := by
      have := H1'.out.swap (ts' := (l.tell g).cells S) (k2.mono (fun _ _ h => by rw [FT.fst_cells]; exact h)) h2 (fun x hx => .inl (by rw [FT.fst_cells] at hx ⊢; rw [FT.tell_blocks] at hx; exact hx))
      show Hd _ _
      rw [List.append_assoc]
      exact this
    have K2 := Lib.hid k2
    have IR := Lib.hid (tell_any S g r w2 H2.out.right)
    have p0 := (H2.out.rx (b, nodeC (ptrN p) g (S b)) (by simp)).cell 0 _ rfl
    have q1 := (H2.out.rx (p, [ptrN l.root, ptrN r.root]) (by simp)).cell 1 _ rfl
    have hb1 := (H2.out.rx (b, nodeC (ptrN p) g (S b)) (by simp)).lt
    have hp1 := (H2.out.rx (p, [ptrN l.root, ptrN r.root]) (by simp)).lt
    clear h2 k2 IL c0 c1 f0 hW1
    go_wp2_with fail
    refine IR.out.mono ?_
    rintro e w3 ⟨rfl, h3, k3⟩
    have H3 : Hid (Hd w3 (((FT.node b p h l r).tell g).cells S)) := by
      have h2' : Hd w2 (([(b, nodeC (ptrN p) g (S b)), (p, [ptrN l.root, ptrN r.root])] ++ (l.tell g).cells S) ++ (r.cells S ++ [])) := by rw [List.append_nil]; exact H2.out
      have := h2'.swap (ts' := (r.tell g).cells S) (k3.mono (fun _ _ h => by rw [FT.fst_cells]; exact h)) h3 (fun x hx => .inl (by rw [FT.fst_cells] at hx ⊢; rw [FT.tell_blocks] at hx; exact hx))
      show Hd _ _
      rw [List.append_nil, List.append_assoc] at this
      simp only [FT.tell, FT.cells, FT.tell_root]
      exact this
    have K3 := Lib.hid k3
    clear h3 k3 IR
    go_wp2_with fail
    go_returns
    have ml : ∀ x, x ∈ l.blocks → x ∈ (FT.node b p h l r).blocks := fun x hx => by
      simp only [FT.blocks, List.mem_cons, List.mem_append]
      exact .inr (.inr (.inl hx))
    have mr : ∀ x, x ∈ r.blocks → x ∈ (FT.node b p h l r).blocks := fun x hx => by
      simp only [FT.blocks, List.mem_cons, List.mem_append]
      exact .inr (.inr (.inr hx))
    exact ⟨rfl, H3.out, ((C1.out.mono (fun b' _ e => by simp [FT.blocks, e])).trans K2.out (fun b' _ _ h => ml _ h)).trans K3.out (fun b' _ _ h => mr _ h)⟩
end Go.Proofs.Ytoecmoicaklbaaa
