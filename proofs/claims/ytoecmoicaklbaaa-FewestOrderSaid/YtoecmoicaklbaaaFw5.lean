
/- Trees of fewest: the sets that choose gives; contract of choose. -/
import Derived.Test.YtoecmoicaklbaaaFw2
import Derived.Test.YtoecmoicaklbaaaFw4
import Derived.Deep.DeepCutAuto
set_option linter.unusedVariables false
set_option linter.unusedSimpArgs false
namespace Go.Proofs.Ytoecmoicaklbaaa
open Go Go.RowKit Go.Sort Wc Wk

/-- The hops that a tree may have at its top at no cost. -/
def HT.set : HT → List Nat
  | .leaf h => [h]
  | .node l r => if l.set.filter (fun x => decide (x ∈ r.set)) = [] then l.set ++ r.set else l.set.filter (fun x => decide (x ∈ r.set))
def HT.leaves : HT → Nat
  | .leaf _ => 1
  | .node l r => l.leaves + r.leaves
theorem HT.set_pos : ∀ t : HT, 0 < t.set.length
  | .leaf h => by simp [HT.set]
  | .node l r => by
    unfold HT.set
    split
    · have := HT.set_pos l; simp; omega
    · rename_i h
      exact List.length_pos_iff.2 h
theorem HT.set_len : ∀ t : HT, t.set.length ≤ t.leaves
  | .leaf h => by simp [HT.set, HT.leaves]
  | .node l r => by
    have h1 := HT.set_len l
    have h2 := HT.set_len r
    unfold HT.set HT.leaves
    split
    · simp; omega
    · have := List.length_filter_le (fun x => decide (x ∈ r.set)) l.set
      omega
/-- A value that is a slice of its own with these numbers. -/
def HasN (w : World) (B : Nat) (v : Value) (xs : List Nat) : Prop := ∃ a c, v = .slice a xs.length c ∧ Wk.Own w B 3 1 (.slice a xs.length c) (xs.map nR)
theorem own_chgs {w w' : World} {B : Nat} {e : TypeId} {sz : Nat} {v : Value} {xs : List (List Value)} {F : Nat → Nat → Prop} (h : Wk.Own w B e sz v xs) (c : Chg w w' F) (hF : ∀ b x, F b x → b < B) : Wk.Own w' B e sz v xs := by
  obtain ⟨h1, h2, h3⟩ := h
  refine ⟨h1, h2, ?_⟩
  rcases h3 with h3 | ⟨g, cap, cur, e1, hb, hg, rest⟩
  · exact .inl h3
  · refine .inr ⟨g, cap, cur, e1, hb, ?_, rest⟩
    rw [c.block g (by obtain ⟨q, _⟩ := Array.getElem?_eq_some_iff.1 hg; exact q) (fun x hx => by have := hF g x hx; omega)]
    exact hg
theorem HasN.chg {w w' : World} {B : Nat} {v : Value} {xs : List Nat} {F : Nat → Nat → Prop} (h : HasN w B v xs) (c : Chg w w' F) (hF : ∀ b x, F b x → b < B) : HasN w' B v xs := by
  obtain ⟨a, cc, e, ho⟩ := h
  exact ⟨a, cc, e, own_chgs ho c hF⟩
theorem HasN.base {w : World} {B C : Nat} {v : Value} {xs : List Nat} (h : HasN w C v xs) (hB : B ≤ C) : HasN w B v xs := by
  obtain ⟨a, cc, e, ho⟩ := h
  exact ⟨a, cc, e, ho.base hB⟩
def SetsOk (w : World) (B : Nat) (S : Nat → Value) : FT → Prop
  | .leaf b h => HasN w B (S b) [h]
  | .node b p h l r => HasN w B (S b) (HT.node l.er r.er).set ∧ SetsOk w B S l ∧ SetsOk w B S r
theorem SetsOk.chg {w w' : World} {B : Nat} {S : Nat → Value} {F : Nat → Nat → Prop} (c : Chg w w' F) (hF : ∀ b x, F b x → b < B) : ∀ {t : FT}, SetsOk w B S t → SetsOk w' B S t
  | .leaf b h, k => HasN.chg k c hF
  | .node b p h l r, k => ⟨k.1.chg c hF, k.2.1.chg c hF, k.2.2.chg c hF⟩
theorem SetsOk.base {w : World} {B C : Nat} {S : Nat → Value} (hB : B ≤ C) : ∀ {t : FT}, SetsOk w C S t → SetsOk w B S t
  | .leaf b h, k => HasN.base k hB
  | .node b p h l r, k => ⟨k.1.base hB, k.2.1.base hB, k.2.2.base hB⟩
theorem SetsOk.cong {w : World} {B : Nat} {S S' : Nat → Value} : ∀ {t : FT}, (∀ b ∈ t.blocks, S b = S' b) → SetsOk w B S t → SetsOk w B S' t
  | .leaf b h, e, k => by
    show HasN _ _ _ _
    rw [← e b (by simp [FT.blocks])]
    exact k
  | .node b p h l r, e, k => by
    refine ⟨?_, SetsOk.cong (fun x hx => e x (by simp [FT.blocks, hx])) k.2.1, SetsOk.cong (fun x hx => e x (by simp [FT.blocks, hx])) k.2.2⟩
    rw [← e b (by simp [FT.blocks])]
    exact k.1
theorem FT.cells_cong {S S' : Nat → Value} : ∀ {t : FT}, (∀ b ∈ t.blocks, S b = S' b) → t.cells S = t.cells S'
  | .leaf b h, e => by simp only [FT.cells]; rw [e b (by simp [FT.blocks])]
  | .node b p h l r, e => by
    simp only [FT.cells]
    rw [e b (by simp [FT.blocks]), FT.cells_cong (t := l) (fun x hx => e x (by simp [FT.blocks, hx])), FT.cells_cong (t := r) (fun x hx => e x (by simp [FT.blocks, hx]))]
theorem SetsOk.top {w : World} {B : Nat} {S : Nat → Value} : ∀ {t : FT}, SetsOk w B S t → HasN w B (S t.root) t.er.set
  | .leaf b h, k => k
  | .node b p h l r, k => k.1
def ChooseSays (w : World) (t : FT) (e : Ending) (w' : World) : Prop :=
  ∃ S, e = .returned (S t.root) ∧ Hd w' (t.cells S) ∧ SetsOk w' w.heap.size S t ∧ Chg w w' (fun b _ => b ∈ t.blocks)
/-- Behind both parts' choice. -/
structure Joined (w w3 : World) (b p h : Nat) (l r : FT) (va vb : Value) (S : Nat → Value) : Prop where
  hd : Hd w3 ((FT.node b p h l r).cells S)
  sb : S b = nilS
  sl : SetsOk w3 w.heap.size S l
  sr : SetsOk w3 w.heap.size S r
  ch : Chg w w3 (fun x _ => x ∈ (FT.node b p h l r).blocks)
  ea : va = S l.root
  eb : vb = S r.root
theorem joined {w w2 w3 : World} {b p h : Nat} {l r : FT} {S1 S2 : Nat → Value} (hd : Hd w ((FT.node b p h l r).cells (fun _ => nilS))) (k2 : Chg w w2 (fun x _ => x ∈ l.blocks)) (h2 : Hd w2 (l.cells S1)) (s2 : SetsOk w2 w.heap.size S1 l)
    (k3 : Chg w2 w3 (fun x _ => x ∈ r.blocks)) (h3 : Hd w3 (r.cells S2)) (s3 : SetsOk w3 w2.heap.size S2 r) : ∃ S, Joined w w3 b p h l r (S1 l.root) (S2 r.root) S := by
  classical
  have nd := hd.nd
  rw [FT.fst_cells] at nd
  simp only [FT.blocks, List.nodup_cons, List.mem_cons, List.mem_append, not_or] at nd
  obtain ⟨⟨nbp, nbl, nbr⟩, ⟨npl, npr⟩, nlr⟩ := nd
  obtain ⟨nl, nr, dlr⟩ := List.nodup_append.1 nlr
  have hlt : ∀ x ∈ (FT.node b p h l r).blocks, x < w.heap.size := fun x hx => hd.lt x (by rw [FT.fst_cells]; exact hx)
  have ml : ∀ x ∈ l.blocks, x ∈ (FT.node b p h l r).blocks := fun x hx => by simp [FT.blocks, hx]
  have mr : ∀ x ∈ r.blocks, x ∈ (FT.node b p h l r).blocks := fun x hx => by simp [FT.blocks, hx]
  refine ⟨fun x => if x ∈ l.blocks then S1 x else if x ∈ r.blocks then S2 x else nilS, ?_⟩
  have el : ∀ x ∈ l.blocks, S1 x = (fun x => if x ∈ l.blocks then S1 x else if x ∈ r.blocks then S2 x else nilS) x := fun x hx => by simp [hx]
  have er : ∀ x ∈ r.blocks, S2 x = (fun x => if x ∈ l.blocks then S1 x else if x ∈ r.blocks then S2 x else nilS) x := fun x hx => by
    have : x ∉ l.blocks := fun hl => dlr x hl x hx rfl
    simp [hx, this]
  have eb : (fun x => if x ∈ l.blocks then S1 x else if x ∈ r.blocks then S2 x else nilS) b = nilS := by simp [nbl, nbr]
  generalize (fun x => if x ∈ l.blocks then S1 x else if x ∈ r.blocks then S2 x else nilS) = S at *
  have cl := FT.cells_cong el
  have cr := FT.cells_cong er
  rw [cl] at h2
  rw [cr] at h3
  have hd0 : Hd w ([(b, nodeC (ptrN p) h nilS), (p, [ptrN l.root, ptrN r.root])] ++ (l.cells (fun _ => nilS) ++ r.cells (fun _ => nilS))) := hd
  have hd2 := hd0.swap (ts' := l.cells S) (k2.mono (fun _ _ h => by rw [FT.fst_cells]; exact h)) h2 (fun x hx => .inl (by rw [FT.fst_cells] at hx ⊢; exact hx))
  have hd2' : Hd w2 (([(b, nodeC (ptrN p) h nilS), (p, [ptrN l.root, ptrN r.root])] ++ l.cells S) ++ (r.cells (fun _ => nilS) ++ [])) := by rw [List.append_nil, List.append_assoc]; exact hd2
  have hd3 := hd2'.swap (ts' := r.cells S) (k3.mono (fun _ _ h => by rw [FT.fst_cells]; exact h)) h3 (fun x hx => .inl (by rw [FT.fst_cells] at hx ⊢; exact hx))
  rw [List.append_nil, List.append_assoc] at hd3
  refine ⟨?_, eb, (SetsOk.cong el s2).chg k3 (fun x _ hx => hlt x (mr x hx)), (SetsOk.cong er s3).base k2.size, (k2.mono (fun x _ hx => ml x hx)).trans k3 (fun x _ _ hx => mr x hx), el _ l.root_mem, er _ r.root_mem⟩
  show Hd w3 ((b, nodeC (ptrN p) h (S b)) :: (p, [ptrN l.root, ptrN r.root]) :: (l.cells S ++ r.cells S))
  rw [eb]
  exact hd3
/-- A node's set is set. -/
theorem Joined.done {w w3 w4 : World} {b p h : Nat} {l r : FT} {va vb v : Value} {S : Nat → Value} (J : Joined w w3 b p h l r va vb S) (hb : b < w.heap.size) (c : Chg w3 w4 (fun x _ => x = b)) (hr : RX w4 b (nodeC (ptrN p) h v)) (hh : HasN w4 w.heap.size v (HT.node l.er r.er).set) :
    ChooseSays w (.node b p h l r) (.returned v) w4 := by
  have nd := J.hd.nd
  rw [FT.fst_cells] at nd
  simp only [FT.blocks, List.nodup_cons, List.mem_cons, List.mem_append, not_or] at nd
  obtain ⟨⟨nbp, nbl, nbr⟩, _⟩ := nd
  have el : ∀ x ∈ l.blocks, S x = (fun x => if x = b then v else S x) x := fun x hx => by
    have : x ≠ b := fun e => nbl (e ▸ hx)
    simp [this]
  have er : ∀ x ∈ r.blocks, S x = (fun x => if x = b then v else S x) x := fun x hx => by
    have : x ≠ b := fun e => nbr (e ▸ hx)
    simp [this]
  have eb : (fun x => if x = b then v else S x) b = v := by simp
  refine ⟨fun x => if x = b then v else S x, by show _ = Ending.returned (if b = b then v else S b); rw [if_pos rfl], ?_, ?_, ?_⟩
  · generalize (fun x => if x = b then v else S x) = S' at *
    have hd0 : Hd w3 ([] ++ ([(b, nodeC (ptrN p) h (S b))] ++ ((p, [ptrN l.root, ptrN r.root]) :: (l.cells S ++ r.cells S)))) := J.hd
    have := hd0.swap (ts' := [(b, nodeC (ptrN p) h v)]) (c.mono (fun x _ e => by simp [e])) ⟨fun x hx => by simp only [List.mem_singleton] at hx; subst hx; exact hr, by simp⟩ (fun x hx => .inl (by simpa using hx))
    show Hd w4 ((b, nodeC (ptrN p) h (S' b)) :: (p, [ptrN l.root, ptrN r.root]) :: (l.cells S' ++ r.cells S'))
    rw [eb, ← FT.cells_cong el, ← FT.cells_cong er]
    exact this
  · have cF : ∀ x (_ : Nat), x = b → x < w.heap.size := fun x _ e => by omega
    generalize (fun x => if x = b then v else S x) = S' at *
    refine ⟨?_, (SetsOk.cong el J.sl).chg c cF, (SetsOk.cong er J.sr).chg c cF⟩
    rw [eb]
    exact hh
  · exact J.ch.trans c (fun x _ _ e => by simp [FT.blocks, e])
end Go.Proofs.Ytoecmoicaklbaaa
