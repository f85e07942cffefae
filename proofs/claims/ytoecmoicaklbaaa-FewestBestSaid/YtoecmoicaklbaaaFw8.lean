
/- Trees of fewest: the sets that choose gives; contract of choose. -/
import Derived.Test.YtoecmoicaklbaaaFw3
import Derived.Test.YtoecmoicaklbaaaFw4
import Derived.Deep.DeepCutAuto
import Derived.Test.YtoecmoicaklbaaaLk
set_option linter.unusedVariables false
set_option linter.unusedSimpArgs false
namespace Go.Proofs.Ytoecmoicaklbaaa
open Go Go.RowKit Go.Sort Wc Wk

/-- The hops that a tree may have at its top at no cost. -/
def HT.set : HT → List Nat
  | .leaf h => [h]
  | .node l r => if l.set.filter (fun x => decide (x ∈ r.set)) = [] then l.set ++ r.set else l.set.filter (fun x => decide (x ∈ r.set))
def HT.leaves : HT → Nat
  | .leaf _ => 1
  | .node l r => l.leaves + r.leaves
theorem HT.set_pos : ∀ t : HT, 0 < t.set.length
  | .leaf h => by simp [HT.set]
  | .node l r => by
    unfold HT.set
    split
    · have := HT.set_pos l; simp; omega
    · rename_i h
      exact List.length_pos_iff.2 h
theorem HT.set_len : ∀ t : HT, t.set.length ≤ t.leaves
  | .leaf h => by simp [HT.set, HT.leaves]
  | .node l r => by
    have h1 := HT.set_len l
    have h2 := HT.set_len r
    unfold HT.set HT.leaves
    split
    · simp; omega
    · have := List.length_filter_le (fun x => decide (x ∈ r.set)) l.set
      omega
/-- A value that is a slice of its own with these numbers. -/
def HasN (w : World) (B : Nat) (v : Value) (xs : List Nat) : Prop := ∃ a c, v = .slice a xs.length c ∧ Wk.Own w B 3 1 (.slice a xs.length c) (xs.map nR)
theorem own_chgs {w w' : World} {B : Nat} {e : TypeId} {sz : Nat} {v : Value} {xs : List (List Value)} {F : Nat → Nat → Prop} (h : Wk.Own w B e sz v xs) (c : Chg w w' F) (hF : ∀ b x, F b x → b < B) : Wk.Own w' B e sz v xs := by
  obtain ⟨h1, h2, h3⟩ := h
  refine ⟨h1, h2, ?_⟩
  rcases h3 with h3 | ⟨g, cap, cur, e1, hb, hg, rest⟩
  · exact .inl h3
  · refine .inr ⟨g, cap, cur, e1, hb, ?_, rest⟩
    rw [c.block g (by obtain ⟨q, _⟩ := Array.getElem?_eq_some_iff.1 hg; exact q) (fun x hx => by have := hF g x hx; omega)]
    exact hg
theorem HasN.chg {w w' : World} {B : Nat} {v : Value} {xs : List Nat} {F : Nat → Nat → Prop} (h : HasN w B v xs) (c : Chg w w' F) (hF : ∀ b x, F b x → b < B) : HasN w' B v xs := by
  obtain ⟨a, cc, e, ho⟩ := h
  exact ⟨a, cc, e, own_chgs ho c hF⟩
theorem HasN.base {w : World} {B C : Nat} {v : Value} {xs : List Nat} (h : HasN w C v xs) (hB : B ≤ C) : HasN w B v xs := by
  obtain ⟨a, cc, e, ho⟩ := h
  exact ⟨a, cc, e, ho.base hB⟩
def SetsOk (w : World) (B : Nat) (S : Nat → Value) : FT → Prop
  | .leaf b h => HasN w B (S b) [h]
  | .node b p h l r => HasN w B (S b) (HT.node l.er r.er).set ∧ SetsOk w B S l ∧ SetsOk w B S r
theorem SetsOk.chg {w w' : World} {B : Nat} {S : Nat → Value} {F : Nat → Nat → Prop} (c : Chg w w' F) (hF : ∀ b x, F b x → b < B) : ∀ {t : FT}, SetsOk w B S t → SetsOk w' B S t
  | .leaf b h, k => HasN.chg k c hF
  | .node b p h l r, k => ⟨k.1.chg c hF, k.2.1.chg c hF, k.2.2.chg c hF⟩
theorem SetsOk.base {w : World} {B C : Nat} {S : Nat → Value} (hB : B ≤ C) : ∀ {t : FT}, SetsOk w C S t → SetsOk w B S t
  | .leaf b h, k => HasN.base k hB
  | .node b p h l r, k => ⟨k.1.base hB, k.2.1.base hB, k.2.2.base hB⟩
theorem SetsOk.cong {w : World} {B : Nat} {S S' : Nat → Value} : ∀ {t : FT}, (∀ b ∈ t.blocks, S b = S' b) → SetsOk w B S t → SetsOk w B S' t
  | .leaf b h, e, k => by
    show HasN _ _ _ _
    rw [← e b (by simp [FT.blocks])]
    exact k
  | .node b p h l r, e, k => by
    refine ⟨?_, SetsOk.cong (fun x hx => e x (by simp [FT.blocks, hx])) k.2.1, SetsOk.cong (fun x hx => e x (by simp [FT.blocks, hx])) k.2.2⟩
    rw [← e b (by simp [FT.blocks])]
    exact k.1
theorem FT.cells_cong {S S' : Nat → Value} : ∀ {t : FT}, (∀ b ∈ t.blocks, S b = S' b) → t.cells S = t.cells S'
  | .leaf b h, e => by simp only [FT.cells]; rw [e b (by simp [FT.blocks])]
  | .node b p h l r, e => by
    simp only [FT.cells]
    rw [e b (by simp [FT.blocks]), FT.cells_cong (t := l) (fun x hx => e x (by simp [FT.blocks, hx])), FT.cells_cong (t := r) (fun x hx => e x (by simp [FT.blocks, hx]))]
theorem SetsOk.top {w : World} {B : Nat} {S : Nat → Value} : ∀ {t : FT}, SetsOk w B S t → HasN w B (S t.root) t.er.set
  | .leaf b h, k => k
  | .node b p h l r, k => k.1
def ChooseSays (w : World) (t : FT) (e : Ending) (w' : World) : Prop :=
  ∃ S, e = .returned (S t.root) ∧ Hd w' (t.cells S) ∧ SetsOk w' w.heap.size S t ∧ Chg w w' (fun b _ => b ∈ t.blocks)
/-- Behind both parts' choice. -/
structure Joined (w w3 : World) (b p h : Nat) (l r : FT) (va vb : Value) (S : Nat → Value) : Prop where
  hd : Hd w3 ((FT.node b p h l r).cells S)
  sb : S b = nilS
  sl : SetsOk w3 w.heap.size S l
  sr : SetsOk w3 w.heap.size S r
  ch : Chg w w3 (fun x _ => x ∈ (FT.node b p h l r).blocks)
  ea : va = S l.root
  eb : vb = S r.root
theorem joined {w w2 w3 : World} {b p h : Nat} {l r : FT} {S1 S2 : Nat → Value} (hd : Hd w ((FT.node b p h l r).cells (fun _ => nilS))) (k2 : Chg w w2 (fun x _ => x ∈ l.blocks)) (h2 : Hd w2 (l.cells S1)) (s2 : SetsOk w2 w.heap.size S1 l)
    (k3 : Chg w2 w3 (fun x _ => x ∈ r.blocks)) (h3 : Hd w3 (r.cells S2)) (s3 : SetsOk w3 w2.heap.size S2 r) : ∃ S, Joined w w3 b p h l r (S1 l.root) (S2 r.root) S := by
  classical
  have nd := hd.nd
  rw [FT.fst_cells] at nd
  simp only [FT.blocks, List.nodup_cons, List.mem_cons, List.mem_append, not_or] at nd
  obtain ⟨⟨nbp, nbl, nbr⟩, ⟨npl, npr⟩, nlr⟩ := nd
  obtain ⟨nl, nr, dlr⟩ := List.nodup_append.1 nlr
  have hlt : ∀ x ∈ (FT.node b p h l r).blocks, x < w.heap.size := fun x hx => hd.lt x (by rw [FT.fst_cells]; exact hx)
  have ml : ∀ x ∈ l.blocks, x ∈ (FT.node b p h l r).blocks := fun x hx => by simp [FT.blocks, hx]
  have mr : ∀ x ∈ r.blocks, x ∈ (FT.node b p h l r).blocks := fun x hx => by simp [FT.blocks, hx]
  refine ⟨fun x => if x ∈ l.blocks then S1 x else if x ∈ r.blocks then S2 x else nilS, ?_⟩
  have el : ∀ x ∈ l.blocks, S1 x = (fun x => if x ∈ l.blocks then S1 x else if x ∈ r.blocks then S2 x else nilS) x := fun x hx => by simp [hx]
  have er : ∀ x ∈ r.blocks, S2 x = (fun x => if x ∈ l.blocks then S1 x else if x ∈ r.blocks then S2 x else nilS) x := fun x hx => by
    have : x ∉ l.blocks := fun hl => dlr x hl x hx rfl
    simp [hx, this]
  have eb : (fun x => if x ∈ l.blocks then S1 x else if x ∈ r.blocks then S2 x else nilS) b = nilS := by simp [nbl, nbr]
  generalize (fun x => if x ∈ l.blocks then S1 x else if x ∈ r.blocks then S2 x else nilS) = S at *
  have cl := FT.cells_cong el
  have cr := FT.cells_cong er
  rw [cl] at h2
  rw [cr] at h3
  have hd0 : Hd w ([(b, nodeC (ptrN p) h nilS), (p, [ptrN l.root, ptrN r.root])] ++ (l.cells (fun _ => nilS) ++ r.cells (fun _ => nilS))) := hd
  have hd2 := hd0.swap (ts' := l.cells S) (k2.mono (fun _ _ h => by rw [FT.fst_cells]; exact h)) h2 (fun x hx => .inl (by rw [FT.fst_cells] at hx ⊢; exact hx))
  have hd2' : Hd w2 (([(b, nodeC (ptrN p) h nilS), (p, [ptrN l.root, ptrN r.root])] ++ l.cells S) ++ (r.cells (fun _ => nilS) ++ [])) := by rw [List.append_nil, List.append_assoc]; exact hd2
  have hd3 := hd2'.swap (ts' := r.cells S) (k3.mono (fun _ _ h => by rw [FT.fst_cells]; exact h)) h3 (fun x hx => .inl (by rw [FT.fst_cells] at hx ⊢; exact hx))
  rw [List.append_nil, List.append_assoc] at hd3
  refine ⟨?_, eb, (SetsOk.cong el s2).chg k3 (fun x _ hx => hlt x (mr x hx)), (SetsOk.cong er s3).base k2.size, (k2.mono (fun x _ hx => ml x hx)).trans k3 (fun x _ _ hx => mr x hx), el _ l.root_mem, er _ r.root_mem⟩
  show Hd w3 ((b, nodeC (ptrN p) h (S b)) :: (p, [ptrN l.root, ptrN r.root]) :: (l.cells S ++ r.cells S))
  rw [eb]
  exact hd3
/-- A node's set is set. -/
theorem Joined.done {w w3 w4 : World} {b p h : Nat} {l r : FT} {va vb v : Value} {S : Nat → Value} (J : Joined w w3 b p h l r va vb S) (hb : b < w.heap.size) (c : Chg w3 w4 (fun x _ => x = b)) (hr : RX w4 b (nodeC (ptrN p) h v)) (hh : HasN w4 w.heap.size v (HT.node l.er r.er).set) :
    ChooseSays w (.node b p h l r) (.returned v) w4 := by
  have nd := J.hd.nd
  rw [FT.fst_cells] at nd
  simp only [FT.blocks, List.nodup_cons, List.mem_cons, List.mem_append, not_or] at nd
  obtain ⟨⟨nbp, nbl, nbr⟩, _⟩ := nd
  have el : ∀ x ∈ l.blocks, S x = (fun x => if x = b then v else S x) x := fun x hx => by
    have : x ≠ b := fun e => nbl (e ▸ hx)
    simp [this]
  have er : ∀ x ∈ r.blocks, S x = (fun x => if x = b then v else S x) x := fun x hx => by
    have : x ≠ b := fun e => nbr (e ▸ hx)
    simp [this]
  have eb : (fun x => if x = b then v else S x) b = v := by simp
  refine ⟨fun x => if x = b then v else S x, by show _ = Ending.returned (if b = b then v else S b); rw [if_pos rfl], ?_, ?_, ?_⟩
  · generalize (fun x => if x = b then v else S x) = S' at *
    have hd0 : Hd w3 ([] ++ ([(b, nodeC (ptrN p) h (S b))] ++ ((p, [ptrN l.root, ptrN r.root]) :: (l.cells S ++ r.cells S)))) := J.hd
    have := hd0.swap (ts' := [(b, nodeC (ptrN p) h v)]) (c.mono (fun x _ e => by simp [e])) ⟨fun x hx => by simp only [List.mem_singleton] at hx; subst hx; exact hr, by simp⟩ (fun x hx => .inl (by simpa using hx))
    show Hd w4 ((b, nodeC (ptrN p) h (S' b)) :: (p, [ptrN l.root, ptrN r.root]) :: (l.cells S' ++ r.cells S'))
    rw [eb, ← FT.cells_cong el, ← FT.cells_cong er]
    exact this
  · have cF : ∀ x (_ : Nat), x = b → x < w.heap.size := fun x _ e => by omega
    generalize (fun x => if x = b then v else S x) = S' at *
    refine ⟨?_, (SetsOk.cong el J.sl).chg c cF, (SetsOk.cong er J.sr).chg c cF⟩
    rw [eb]
    exact hh
  · exact J.ch.trans c (fun x _ _ e => by simp [FT.blocks, e])
end Go.Proofs.Ytoecmoicaklbaaa

/- Contract: fewest's choose. -/
set_option linter.unusedVariables false
set_option linter.unusedSimpArgs false
namespace Go.Proofs.Ytoecmoicaklbaaa
open Go Go.RowKit Go.Sort Wc Wk

theorem own_lit1 (w : World) (x : Nat) (E : TypeId) (hE : E = 3) : Wk.Own (w.alloc (.cells #[.int .i64 (x : Nat)] E)) w.heap.size 3 1 (.slice (some ⟨w.heap.size, 0, none⟩) 1 1) ([x].map nR) := by
  subst hE
  refine ⟨fun c hc => by simp at hc; subst hc; rfl, rfl, .inr ⟨w.heap.size, 1, #[.int .i64 (x : Nat)], rfl, Nat.le_refl _, heap_newN w _ _, Nat.le_refl _, by unfold maxLen; decide, rfl, rfl⟩⟩
theorem hd_other {w w2 : World} {ts : List (Nat × List Value)} {ls : List Nat} (h : Hd w ts) (c : Chg w w2 (fun x _ => x ∈ ls)) (d : ∀ x ∈ ts.map Prod.fst, x ∉ ls) : Hd w2 ts :=
  ⟨fun x hx => (h.rx x hx).chg c (fun _ hl => d x.1 (List.mem_map.2 ⟨x, hx, rfl⟩) hl), h.nd⟩
def Three (w : World) (b p : Nat) (u v x : Value) : Prop := w.cell? ⟨b, 0, none⟩ = some u ∧ w.cell? ⟨p, 0, none⟩ = some v ∧ w.cell? ⟨p, 1, none⟩ = some x
theorem Three.chg {w w2 : World} {b p : Nat} {u v x : Value} {ls : List Nat} (h : Three w b p u v x) (lb : b < w.heap.size) (lp : p < w.heap.size) (k : Chg w w2 (fun x _ => x ∈ ls)) (hb : b ∉ ls) (hp : p ∉ ls) : Three w2 b p u v x :=
  ⟨(k.cell b 0 lb hb).trans h.1, (k.cell p 0 lp hp).trans h.2.1, (k.cell p 1 lp hp).trans h.2.2⟩
theorem rx_low {w w' : World} {b B : Nat} {c : List Value} (h : RX w b c) (hb : Below B w w') (hlt : b < B) : RX w' b c :=
  ⟨Nat.lt_of_lt_of_le h.lt hb.size, fun j u hu => (hb.cell (p := ⟨b, j, none⟩) hlt).trans (h.cell j u hu), fun j => (hb.frozen (p := ⟨b, j, none⟩) hlt).trans (h.fz j)⟩
theorem chg_low {w w1 w2 : World} {F : Nat → Nat → Prop} (c : Chg w w1 F) (hb : Below w.heap.size w1 w2) : Chg w w2 F :=
  ⟨hb.os.trans c.os, hb.tape.trans c.tape, hb.output.trans c.output, Nat.le_trans c.size hb.size, fun k hk hf => (hb.block k hk).trans (c.block k hk hf), fun k x hk hf => (hb.cell (p := ⟨k, x, none⟩) hk).trans (c.cell k x hk hf), fun k x hk => (hb.frozen (p := ⟨k, x, none⟩) hk).trans (c.froz k x hk)⟩
theorem Joined.below {w w3 w4 : World} {b p h : Nat} {l r : FT} {va vb : Value} {S : Nat → Value} (J : Joined w w3 b p h l r va vb S) (hb : Below w3.heap.size w3 w4) : Joined w w4 b p h l r va vb S :=
  ⟨J.hd.below hb, J.sb, J.sl.chg (Chg.of_below hb (fun _ _ => False)) (fun _ _ h => h.elim), J.sr.chg (Chg.of_below hb (fun _ _ => False)) (fun _ _ h => h.elim), J.ch.trans (Chg.of_below hb _) (fun _ _ _ h => h), J.ea, J.eb⟩
theorem HasN.own {w : World} {B : Nat} {a : Option Addr} {n c : Nat} {xs : List Nat} (h : HasN w B (.slice a n c) xs) : n = xs.length ∧ Wk.Own w B 3 1 (.slice a n c) (xs.map nR) := by
  obtain ⟨a', c', e, ho⟩ := h
  cases e
  exact ⟨rfl, ho⟩
theorem filt_snoc {la lb : List Nat} {j x : Nat} (hx : la[j]? = some x) : (la.take (j + 1)).filter (fun x => decide (x ∈ lb)) = (la.take j).filter (fun x => decide (x ∈ lb)) ++ (if x ∈ lb then [x] else []) := by
  rw [List.take_add_one, hx, List.filter_append]
  by_cases h : x ∈ lb <;> simp [h]
/-- Where choose's loop stands. -/
structure ChSt (w3 wr : World) (b p h : Nat) (la lb : List Nat) (j : Nat) (v : Value) : Prop where
  rx : RX wr b (nodeC (ptrN p) h v)
  ch : Chg w3 wr (fun x _ => x = b)
  ow : HasN wr w3.heap.size v ((la.take j).filter (fun x => decide (x ∈ lb)))
  ni : (la.take j).filter (fun x => decide (x ∈ lb)) = [] → v = nilS

set_option maxRecDepth 100000 in
set_option maxHeartbeats 4000000 in
theorem choose_any : ∀ (t : FT) (w : World), Hd w (t.cells (fun _ => nilS)) → t.er.leaves ≤ 5000 → Calls Try.prog 55 #[ptrN t.root] w (ChooseSays w t)
  | .leaf b h, w, hd, _ => by
    have hx : RX w b (nodeC (.pointer none) h nilS) := hd.rx (b, nodeC (.pointer none) h nilS) (by simp [FT.cells])
    have c0 : w.cell? ⟨b, 0, none⟩ = some (.pointer none) := hx.cell 0 _ rfl
    have c1 : w.cell? ⟨b, 1, none⟩ = some (.int .i64 (h : Nat)) := hx.cell 1 _ rfl
    have c2 : w.cell? ⟨b, 2, none⟩ = some nilS := hx.cell 2 _ rfl
    have f0 := hx.fz
    have hb := hx.lt
    have HX := Lib.hid hx
    have hb1 : b < w.heap.size + 1 := by omega
    clear hx hd
    show Calls Try.prog 55 #[ptrN b] w _
    go_enter Try.func55, Try.ntmps55
    obtain ⟨r1, r2⟩ := rx_one HX.out (j := 2) (by simp [nodeC]) (.slice (some ⟨w.heap.size, 0, none⟩) 1 1)
    have R1 := Lib.hid r1
    have R2 := Lib.hid r2
    clear r1 r2
    go_wp2_with fail
    refine bodyPost_ret (v := .slice (some ⟨w.heap.size, 0, none⟩) 1 1) (by simp [results, Try.results55, go_sem]) rfl ?_
    have hs : (w.setCell ⟨b, 2, none⟩ (.slice (some ⟨w.heap.size, 0, none⟩) 1 1)).heap.size = w.heap.size := by simp
    have r1 := R1.out
    have r2 := R2.out
    clear R1 R2 c0 c1 c2 f0
    generalize w.setCell ⟨b, 2, none⟩ (.slice (some ⟨w.heap.size, 0, none⟩) 1 1) = W1 at r1 r2 hs ⊢
    have hW : Below W1.heap.size W1 (W1.alloc (.cells #[.int .i64 (h : Nat)] 3)) := (Below.refl _ _).alloc (Nat.le_refl _) _
    refine ⟨fun _ => .slice (some ⟨w.heap.size, 0, none⟩) 1 1, rfl, ⟨fun x hx => ?_, by simp [FT.cells]⟩, ⟨some ⟨w.heap.size, 0, none⟩, 1, rfl, ?_⟩, (r2.mono (fun b' _ e => by simp [FT.blocks, e])).trans (Chg.of_below hW _) (fun _ _ _ h => h)⟩
    · simp only [FT.cells, List.mem_singleton] at hx
      subst hx
      exact r1.below hW
    · rw [← hs]
      exact own_lit1 W1 h _ rfl
  | .node b p h l r, w, hd, hle => by
    obtain ⟨hx, hp, hl, hr, hne⟩ := hd.node
    have c0 : w.cell? ⟨b, 0, none⟩ = some (ptrN p) := hx.cell 0 _ rfl
    have q0 : w.cell? ⟨p, 0, none⟩ = some (ptrN l.root) := hp.cell 0 _ rfl
    have q1 : w.cell? ⟨p, 1, none⟩ = some (ptrN r.root) := hp.cell 1 _ rfl
    have lb := hx.lt
    have lp := hp.lt
    have nd := hd.nd
    rw [FT.fst_cells] at nd
    simp only [FT.blocks, List.nodup_cons, List.mem_cons, List.mem_append, not_or] at nd
    have HND := Lib.hid nd
    have hlv : l.er.leaves + r.er.leaves ≤ 5000 := hle
    have IL := Lib.hid (fun w h => choose_any l w h (by omega))
    have IR := Lib.hid (fun w h => choose_any r w h (by omega))
    have HL := Lib.hid hl
    have HR := Lib.hid hr
    have HD := Lib.hid hd
    have sl1 := HT.set_len l.er
    have sl2 := HT.set_len r.er
    clear hx hp hl hr hd nd hle hne
    show Calls Try.prog 55 #[ptrN b] w _
    go_enter Try.func55, Try.ntmps55
    go_wp2_with fail
    have HRD : Hid (∀ x ∈ (r.cells (fun _ => nilS)).map Prod.fst, x ∉ l.blocks) := fun x hx hl => by
      rw [FT.fst_cells] at hx
      exact (List.nodup_append.1 HND.out.2.2).2.2 x hl x hx rfl
    refine wp_region_held_drew (S := (fun w' => w'.cell? ⟨b, 0, none⟩ = some (ptrN p) ∧ w'.cell? ⟨p, 0, none⟩ = some (ptrN l.root) ∧ w'.cell? ⟨p, 1, none⟩ = some (ptrN r.root))) (by kernel_rfl) ?_ (fun hHeld => ?_)
    · ((try dsimp only); (first | (first | (go_simp; done) | (simp [*, go_sem, World.cell?_alloc_past]; done) | (simp [*, go_sem, World.cell?_alloc_past, World.cell?_setCell_far]; done)) | exact K2 | exact K1 | trivial))
    (refine wpAnyH_take (i := 0) (oi := _) (v := ?_) (by simp only [List.getElem?_toArray, List.getElem?_cons_zero, List.getElem?_cons_succ]; rfl) (by kernel_rfl) (by decide +kernel) (by decide +kernel) (by exact fun _ _ _ h => h) (Or.inl ⟨by rfl, ?_⟩) (by assumption) ?_; rotate_left; (· ((intro w hSw); (try dsimp only at hSw); go_simp; (try with_reducible rfl))); (try simp only [Act.put, List.setIfInBounds_toArray, List.set_cons_zero, List.set_cons_succ]))
    (refine wpAnyH_take (i := 1) (oi := _) (v := ?_) (by simp only [List.getElem?_toArray, List.getElem?_cons_zero, List.getElem?_cons_succ]; rfl) (by kernel_rfl) (by decide +kernel) (by decide +kernel) (by exact fun _ _ _ h => h) (Or.inl ⟨by rfl, ?_⟩) (by assumption) ?_; rotate_left; (· ((intro w hSw); (try dsimp only at hSw); go_simp; (try with_reducible rfl))); (try simp only [Act.put, List.setIfInBounds_toArray, List.set_cons_zero, List.set_cons_succ]))
    (refine wpAnyH_take (i := 2) (oi := _) (v := ?_) (by simp only [List.getElem?_toArray, List.getElem?_cons_zero, List.getElem?_cons_succ]; rfl) (by kernel_rfl) (by decide +kernel) (by decide +kernel) (by exact fun _ _ _ h => h) (Or.inl ⟨by rfl, ?_⟩) (by assumption) ?_; rotate_left; (· ((intro w hSw); (try dsimp only at hSw); go_simp; (try with_reducible rfl))); (try simp only [Act.put, List.setIfInBounds_toArray, List.set_cons_zero, List.set_cons_succ]))
    (refine wpAnyH_take (i := 3) (oi := _) (v := ?_) (by simp only [List.getElem?_toArray, List.getElem?_cons_zero, List.getElem?_cons_succ]; rfl) (by kernel_rfl) (by decide +kernel) (by decide +kernel) (by exact fun _ _ _ h => h) (Or.inl ⟨by rfl, ?_⟩) (by assumption) ?_; rotate_left; (· ((intro w hSw); (try dsimp only at hSw); go_simp; (try with_reducible rfl))); (try simp only [Act.put, List.setIfInBounds_toArray, List.set_cons_zero, List.set_cons_succ]))
    (refine wpAnyH_take (i := 4) (oi := _) (v := ?_) (by simp only [List.getElem?_toArray, List.getElem?_cons_zero, List.getElem?_cons_succ]; rfl) (by kernel_rfl) (by decide +kernel) (by decide +kernel) (by exact fun _ _ _ h => h) (Or.inl ⟨by rfl, ?_⟩) (by assumption) ?_; rotate_left; (· ((intro w hSw); (try dsimp only at hSw); go_simp; (try with_reducible rfl))); (try simp only [Act.put, List.setIfInBounds_toArray, List.set_cons_zero, List.set_cons_succ]))
    (refine wpAnyH_take (i := 5) (oi := _) (v := ?_) (by simp only [List.getElem?_toArray, List.getElem?_cons_zero, List.getElem?_cons_succ]; rfl) (by kernel_rfl) (by decide +kernel) (by decide +kernel) (by exact fun _ _ _ h => h) (Or.inl ⟨by rfl, ?_⟩) (by assumption) ?_; rotate_left; (· ((intro w hSw); (try dsimp only at hSw); go_simp; (try with_reducible rfl))); (try simp only [Act.put, List.setIfInBounds_toArray, List.set_cons_zero, List.set_cons_succ]))
    (refine wpAnyH_take (i := 6) (oi := _) (v := ?_) (by simp only [List.getElem?_toArray, List.getElem?_cons_zero, List.getElem?_cons_succ]; rfl) (by kernel_rfl) (by decide +kernel) (by decide +kernel) (by exact fun _ _ _ h => h) (Or.inl ⟨by rfl, ?_⟩) (by assumption) ?_; rotate_left; (· ((intro w hSw); (try dsimp only at hSw); go_simp; (try with_reducible rfl))); (try simp only [Act.put, List.setIfInBounds_toArray, List.set_cons_zero, List.set_cons_succ]))
    (refine wpAnyH_take (i := 8) (oi := _) (v := ?_) (by simp only [List.getElem?_toArray, List.getElem?_cons_zero, List.getElem?_cons_succ]; rfl) (by kernel_rfl) (by decide +kernel) (by decide +kernel) (by exact fun _ _ _ h => h) (Or.inl ⟨by rfl, ?_⟩) (by assumption) ?_; rotate_left; (· ((intro w hSw); (try dsimp only at hSw); go_simp; (try with_reducible rfl))); (try simp only [Act.put, List.setIfInBounds_toArray, List.set_cons_zero, List.set_cons_succ]))
    (refine wpAnyH_take (i := 9) (oi := _) (v := ?_) (by simp only [List.getElem?_toArray, List.getElem?_cons_zero, List.getElem?_cons_succ]; rfl) (by kernel_rfl) (by decide +kernel) (by decide +kernel) (by exact fun _ _ _ h => h) (Or.inl ⟨by rfl, ?_⟩) (by assumption) ?_; rotate_left; (· ((intro w hSw); (try dsimp only at hSw); go_simp; (try with_reducible rfl))); (try simp only [Act.put, List.setIfInBounds_toArray, List.set_cons_zero, List.set_cons_succ]))
    (refine wpAnyH_take (i := 10) (oi := _) (v := ?_) (by simp only [List.getElem?_toArray, List.getElem?_cons_zero, List.getElem?_cons_succ]; rfl) (by kernel_rfl) (by decide +kernel) (by decide +kernel) (by exact fun _ _ _ h => h) (Or.inl ⟨by rfl, ?_⟩) (by assumption) ?_; rotate_left; (· ((intro w hSw); (try dsimp only at hSw); go_simp; (try with_reducible rfl))); (try simp only [Act.put, List.setIfInBounds_toArray, List.set_cons_zero, List.set_cons_succ]))
    (refine wpAnyH_take (i := 11) (oi := _) (v := ?_) (by simp only [List.getElem?_toArray, List.getElem?_cons_zero, List.getElem?_cons_succ]; rfl) (by kernel_rfl) (by decide +kernel) (by decide +kernel) (by exact fun _ _ _ h => h) (Or.inl ⟨by rfl, ?_⟩) (by assumption) ?_; rotate_left; (· ((intro w hSw); (try dsimp only at hSw); go_simp; (try with_reducible rfl))); (try simp only [Act.put, List.setIfInBounds_toArray, List.set_cons_zero, List.set_cons_succ]))
    (refine wpAnyH_take (i := 12) (oi := _) (v := ?_) (by simp only [List.getElem?_toArray, List.getElem?_cons_zero, List.getElem?_cons_succ]; rfl) (by kernel_rfl) (by decide +kernel) (by decide +kernel) (by exact fun _ _ _ h => h) (Or.inl ⟨by rfl, ?_⟩) (by assumption) ?_; rotate_left; (· ((intro w hSw); (try dsimp only at hSw); go_simp; (try with_reducible rfl))); (try simp only [Act.put, List.setIfInBounds_toArray, List.set_cons_zero, List.set_cons_succ]))
    (refine wpAnyH_take (i := 13) (oi := _) (v := ?_) (by simp only [List.getElem?_toArray, List.getElem?_cons_zero, List.getElem?_cons_succ]; rfl) (by kernel_rfl) (by decide +kernel) (by decide +kernel) (by exact fun _ _ _ h => h) (Or.inl ⟨by rfl, ?_⟩) (by assumption) ?_; rotate_left; (· ((intro w hSw); (try dsimp only at hSw); go_simp; (try with_reducible rfl))); (try simp only [Act.put, List.setIfInBounds_toArray, List.set_cons_zero, List.set_cons_succ]))
    (refine wpAnyH_take (i := 14) (oi := _) (v := ?_) (by simp only [List.getElem?_toArray, List.getElem?_cons_zero, List.getElem?_cons_succ]; rfl) (by kernel_rfl) (by decide +kernel) (by decide +kernel) (by exact fun _ _ _ h => h) (Or.inl ⟨by rfl, ?_⟩) (by assumption) ?_; rotate_left; (· ((intro w hSw); (try dsimp only at hSw); go_simp; (try with_reducible rfl))); (try simp only [Act.put, List.setIfInBounds_toArray, List.set_cons_zero, List.set_cons_succ]))
    repeat' (first
      | (refine wpAnyH_take (i := 16) (oi := _) (v := ?_) (by simp only [List.getElem?_toArray, List.getElem?_cons_zero, List.getElem?_cons_succ]; rfl) (by kernel_rfl) (by decide +kernel) (by decide +kernel) (by exact fun _ _ _ h => h) (Or.inl ⟨by rfl, ?_⟩) (by assumption) ?_; rotate_left; (· ((intro w hSw); (try dsimp only at hSw); go_simp; (try with_reducible rfl))); (try simp only [Act.put, List.setIfInBounds_toArray, List.set_cons_zero, List.set_cons_succ]))
      | (refine wpAnyH_take (i := 17) (oi := _) (v := ?_) (by simp only [List.getElem?_toArray, List.getElem?_cons_zero, List.getElem?_cons_succ]; rfl) (by kernel_rfl) (by decide +kernel) (by decide +kernel) (by exact fun _ _ _ h => h) (Or.inl ⟨by rfl, ?_⟩) (by assumption) ?_; rotate_left; (· ((intro w hSw); (try dsimp only at hSw); go_simp; (try with_reducible rfl))); (try simp only [Act.put, List.setIfInBounds_toArray, List.set_cons_zero, List.set_cons_succ]))
      | (refine wpAnyH_ready (rs := [7]) (by decide +kernel) (by simp) (AllReadyH.cons (by simp only [List.getElem?_toArray, List.getElem?_cons_zero, List.getElem?_cons_succ]; rfl) (fun K hK => ?_) AllReadyH.nil); all_goals ((first | fail | (go_simp; (first | ((with_reducible refine (IL.out _ (by first | exact HL.out | exact HL.out.below (Below.drew (Below.refl _ _)))).mono ?_); rintro e w2 ⟨S1, rfl, ha2, hs2, k2⟩; obtain ⟨aA, cA, eA, hoA⟩ := hs2.top; obtain ⟨nA, hnA⟩ : ∃ n, n = l.er.set.length := ⟨_, rfl⟩; rw [← hnA] at eA; rw [eA]; have HNA := Lib.hid hnA; clear hnA; have EA := Lib.hid eA; clear eA; (have K1 : Three w2 b p (ptrN p) (ptrN l.root) (ptrN r.root) := Three.chg hHeld (by simpa using lb) (by simpa using lp) k2 HND.out.1.2.1 HND.out.2.1.1); (have HR2 := Lib.hid (hd_other (HR.out.below (Below.drew (Below.refl _ _))) k2 HRD.out))) | ((with_reducible refine (IR.out _ (by first | exact HR2.out | exact HR2.out.below (Below.drew (Below.refl _ _)))).mono ?_); rintro e w3 ⟨S2, rfl, ha3, hs3, k3⟩; obtain ⟨aB, cB, eB, hoB⟩ := hs3.top; obtain ⟨nB, hnB⟩ : ∃ n, n = r.er.set.length := ⟨_, rfl⟩; rw [← hnB] at eB; rw [eB]; have HNB := Lib.hid hnB; clear hnB; have EB := Lib.hid eB; clear eB; (have K2 : Three w3 b p (ptrN p) (ptrN l.root) (ptrN r.root) := Three.chg hHeld (by have := k2.size; simp at this ⊢; omega) (by have := k2.size; simp at this ⊢; omega) k3 HND.out.1.2.2 HND.out.2.1.2)) | skip))); (refine hK.out _ _ ?_ (fun hHeld => ?_)); (· ((try dsimp only); (first | (first | (go_simp; done) | (simp [*, go_sem, World.cell?_alloc_past]; done) | (simp [*, go_sem, World.cell?_alloc_past, World.cell?_setCell_far]; done)) | exact K2 | exact K1 | trivial))); (clear hK K; (try simp only [Act.put, List.setIfInBounds_toArray, List.set_cons_zero, List.set_cons_succ]))))
      | (refine wpAnyH_ready (rs := [15]) (by decide +kernel) (by simp) (AllReadyH.cons (by simp only [List.getElem?_toArray, List.getElem?_cons_zero, List.getElem?_cons_succ]; rfl) (fun K hK => ?_) AllReadyH.nil); all_goals ((first | fail | (go_simp; (first | ((with_reducible refine (IL.out _ (by first | exact HL.out | exact HL.out.below (Below.drew (Below.refl _ _)))).mono ?_); rintro e w2 ⟨S1, rfl, ha2, hs2, k2⟩; obtain ⟨aA, cA, eA, hoA⟩ := hs2.top; obtain ⟨nA, hnA⟩ : ∃ n, n = l.er.set.length := ⟨_, rfl⟩; rw [← hnA] at eA; rw [eA]; have HNA := Lib.hid hnA; clear hnA; have EA := Lib.hid eA; clear eA; (have K1 : Three w2 b p (ptrN p) (ptrN l.root) (ptrN r.root) := Three.chg hHeld (by simpa using lb) (by simpa using lp) k2 HND.out.1.2.1 HND.out.2.1.1); (have HR2 := Lib.hid (hd_other (HR.out.below (Below.drew (Below.refl _ _))) k2 HRD.out))) | ((with_reducible refine (IR.out _ (by first | exact HR2.out | exact HR2.out.below (Below.drew (Below.refl _ _)))).mono ?_); rintro e w3 ⟨S2, rfl, ha3, hs3, k3⟩; obtain ⟨aB, cB, eB, hoB⟩ := hs3.top; obtain ⟨nB, hnB⟩ : ∃ n, n = r.er.set.length := ⟨_, rfl⟩; rw [← hnB] at eB; rw [eB]; have HNB := Lib.hid hnB; clear hnB; have EB := Lib.hid eB; clear eB; (have K2 : Three w3 b p (ptrN p) (ptrN l.root) (ptrN r.root) := Three.chg hHeld (by have := k2.size; simp at this ⊢; omega) (by have := k2.size; simp at this ⊢; omega) k3 HND.out.1.2.2 HND.out.2.1.2)) | skip))); (refine hK.out _ _ ?_ (fun hHeld => ?_)); (· ((try dsimp only); (first | (first | (go_simp; done) | (simp [*, go_sem, World.cell?_alloc_past]; done) | (simp [*, go_sem, World.cell?_alloc_past, World.cell?_setCell_far]; done)) | exact K2 | exact K1 | trivial))); (clear hK K; (try simp only [Act.put, List.setIfInBounds_toArray, List.set_cons_zero, List.set_cons_succ]))))
      | (refine wpAnyH_done (by decide +kernel) ?_ _)
      | fail)
    go_goals
    have k2' : Chg w w2 (fun x _ => x ∈ l.blocks) := by first | exact k2 | exact (Chg.of_below (Below.drew (Below.refl _ _)) _).trans k2 (fun _ _ _ h => h)
    have k3' : Chg w2 w3 (fun x _ => x ∈ r.blocks) := by first | exact k3 | exact (Chg.of_below (Below.drew (Below.refl _ _)) _).trans k3 (fun _ _ _ h => h)
    obtain ⟨S, hJ⟩ := joined HD.out k2' ha2 (by first | exact hs2 | simpa using hs2) k3' ha3 (by first | exact hs3 | simpa using hs3)
    have HJ3 := Lib.hid hJ
    clear hJ k2 k3 k2' k3' ha2 ha3 hs2 hs3 hHeld K1 K2 HR2 hoA hoB IL IR HL HR HRD c0 q0 q1 HD
    obtain ⟨X, hX⟩ : ∃ X, X = w3 := ⟨_, rfl⟩
    subst hX
    have hzX := HJ3.out.ch.size
    have HA : Hid (HasN X w.heap.size (.slice aA nA cA) l.er.set) := by
      show HasN _ _ _ _
      rw [← EA.out, HJ3.out.ea]
      exact HJ3.out.sl.top
    have HB : Hid (HasN X w.heap.size (.slice aB nB cB) r.er.set) := by
      show HasN _ _ _ _
      rw [← EB.out, HJ3.out.eb]
      exact HJ3.out.sr.top
    have HSE := Lib.hid (show (HT.node l.er r.er).set = if l.er.set.filter (fun x => decide (x ∈ r.er.set)) = [] then l.er.set ++ r.er.set else l.er.set.filter (fun x => decide (x ∈ r.er.set)) from rfl)
    have hnA := HNA.out
    have hnB := HNB.out
    have HNA := Lib.hid hnA
    have HNB := Lib.hid hnB
    have hA5 : nA ≤ 5000 := by omega
    have hB5 : nB ≤ 5000 := by omega
    have hA0 : 0 < nA := by have := HT.set_pos l.er; omega
    have HDN := Lib.hid (fun (w4 : World) (v : Value) (c : Chg X w4 (fun x _ => x = b)) (hr : RX w4 b (nodeC (ptrN p) h v)) (hh : HasN w4 w.heap.size v (HT.node l.er r.er).set) => HJ3.out.done lb c hr hh)
    have R0 : Hid (RX X b (nodeC (ptrN p) h nilS)) := by
      have := HJ3.out.hd.rx (b, nodeC (ptrN p) h (S b)) (by simp [FT.cells])
      rw [HJ3.out.sb] at this
      exact this
    rw [HSE.out] at HDN
    clear hnA hnB HJ3 EA EB HSE sl1 sl2 hlv HND
    generalize l.er.set = la at *
    generalize r.er.set = lb' at *
    have hbX : b < X.heap.size := R0.out.lt
    go_wp2_with fail
    go_loopw [42] (fun i wr => ∃ (j : Nat) (v : Value), j ≤ nA ∧ i = .int .i64 j ∧ Hid (ChSt X wr b p h la lb' j v)) (fun i _ => nA - (intOf i).toNat)
    case atStart => exact ⟨0, nilS, Nat.zero_le _, rfl, ⟨R0.out, Chg.refl _ _, ⟨none, 0, rfl, Wk.Own.nil _ _ _ _⟩, fun _ => rfl⟩⟩
    case round =>
      obtain ⟨j, v, hj, rfl, HI⟩ := hrel
      have cF : ∀ x (_ : Nat), x = b → x < w.heap.size := fun x _ e => by omega
      have HAr := Lib.hid ((HA.out.chg HI.out.ch cF).own)
      have HBr := Lib.hid ((HB.out.chg HI.out.ch cF).own)
      have hzr := HI.out.ch.size
      have hbr := HI.out.rx.lt
      clear cF
      by_cases hlt : j < nA
      · obtain ⟨x, hx⟩ : ∃ x, la[j]? = some x := ⟨_, List.getElem?_eq_getElem (by have := HNA.out; omega)⟩
        obtain ⟨g, off, rfl, hg, d0⟩ := Sl.nat HAr.out.2.sl hx
        have HFS := Lib.hid (filt_snoc (lb := lb') hx)
        have CN : Hid (Calls Try.prog 96 #[.slice aB nB cB, .int .i64 (x : Nat)] wr fun e w' => e = .returned (.bool (decide (x ∈ lb'))) ∧ wr = w') := by
          have hs := HBr.out.2.sl
          have e := HBr.out.1
          show Calls _ _ _ _ _
          rw [e] at hs ⊢
          exact containsN_any aB cB lb' x wr hs (by rw [← e]; omega)
        clear hx
        by_cases hxb : x ∈ lb'
        · rw [decide_eq_true hxb] at CN
          rw [if_pos hxb] at HFS
          obtain ⟨av, cv, rfl, ho⟩ := HI.out.ow
          have HO := Lib.hid ho
          have c2 := HI.out.rx.cell 2 _ rfl
          have fz := HI.out.rx.fz
          have hfl : ((la.take j).filter (fun x => decide (x ∈ lb'))).length ≤ 5000 := by
            have h1 := List.length_filter_le (fun x => decide (x ∈ lb')) (la.take j)
            rw [List.length_take] at h1
            omega
          generalize (la.take j).filter (fun x => decide (x ∈ lb')) = F at *
          clear ho
          go_wp2_with (first | (with_reducible refine CN.out.mono ?_; rintro e w' ⟨rfl, rfl⟩) | (at_builtin; refine stop_at ?_; intro G hG))
          rw [← hG.out]; clear hG G
          refine wpList_append_at rfl _ _ 25 3 1 8 _ rfl eiN X.heap.size (.slice av F.length cv) (F.map nR) rfl (HO.out.alloc _) _ [nR x] rfl (sl_new (c := nR x) (by simp) rfl) (by intro c hc; simp at hc; subst hc; exact nR_one _) (by simp; omega) (by decide) (by simp; omega) (by simp) ?_
          intro v7 w7 hown hgr hb7 hat
          rw [show F.map nR ++ [nR x] = (F ++ [x]).map nR by rw [List.map_append]; rfl] at hown
          obtain ⟨a7, c7, rfl⟩ := hown.shape
          rw [List.length_map] at hown ⊢
          have B7 : Below X.heap.size wr w7 := ((Below.refl _ _).alloc hzr _).trans hb7
          have R7 := rx_low HI.out.rx B7 hbX
          have C7 := chg_low HI.out.ch B7
          have c2' := R7.cell 2 _ rfl
          have fz' := R7.fz
          have hb7l := R7.lt
          obtain ⟨r1, r2⟩ := rx_one R7 (j := 2) (by simp [nodeC]) (.slice a7 (F ++ [x]).length c7)
          have HI7 : Hid (ChSt X (w7.setCell ⟨b, 2, none⟩ (.slice a7 (F ++ [x]).length c7)) b p h la lb' (j + 1) (.slice a7 (F ++ [x]).length c7)) :=
            ⟨r1, C7.trans r2 (fun _ _ _ h => h), by rw [HFS.out]; exact ⟨a7, c7, rfl, own_chgs hown r2 (fun k _ e => by omega)⟩, fun e => by rw [HFS.out] at e; exact absurd e (by simp)⟩
          clear hown hgr hb7 hat r1 r2 R7 C7 B7 HI c2 fz HO hfl
          generalize (F ++ [x]).length = q at *
          go_wp2_with fail
          go_roundw
          case rel => exact ⟨j + 1, _, by omega, by go_num, HI7⟩
          case measure => simp [intOf]; omega
        · rw [decide_eq_false hxb] at CN
          rw [if_neg hxb, List.append_nil] at HFS
          have HI7 : Hid (ChSt X wr b p h la lb' (j + 1) v) := ⟨HI.out.rx, HI.out.ch, by rw [HFS.out]; exact HI.out.ow, by rw [HFS.out]; exact HI.out.ni⟩
          clear HI
          go_wp2_with (with_reducible refine CN.out.mono ?_; rintro e w' ⟨rfl, rfl⟩)
          go_roundw
          case rel => exact ⟨j + 1, v, by omega, by go_num, HI7⟩
          case measure => simp [intOf]; omega
      · obtain rfl : j = nA := by omega
        have HTK : Hid (la.take j = la) := List.take_of_length_le (by have := HNA.out; omega)
        have HOW : Hid (HasN wr X.heap.size v (la.filter (fun x => decide (x ∈ lb')))) := by have := HI.out.ow; rw [HTK.out] at this; exact this
        have HNI : Hid (la.filter (fun x => decide (x ∈ lb')) = [] → v = nilS) := by have := HI.out.ni; rw [HTK.out] at this; exact this
        have c2 := HI.out.rx.cell 2 _ rfl
        have fz := HI.out.rx.fz
        by_cases hI : la.filter (fun x => decide (x ∈ lb')) = []
        · rw [if_pos hI] at HDN
          have hv := HNI.out hI
          subst hv
          have HLL := Lib.hid (show la.length = j ∧ lb'.length = nB from ⟨HNA.out.symm, HNB.out.symm⟩)
          have SA : Hid (Sl wr 1 (.slice aA la.length cA) (la.map nR)) := by have h1 := HAr.out.2.sl; rw [HAr.out.1] at h1; exact h1
          have SB : Hid (Sl wr 1 (.slice aB lb'.length cB) (lb'.map nR)) := by have h1 := HBr.out.2.sl; rw [HBr.out.1] at h1; exact h1
          have CC : Hid (Calls Try.prog 97 #[.slice (some ⟨wr.heap.size, 0, none⟩) 2 2] (wr.alloc (.cells #[.slice aA j cA, .slice aB nB cB] 25)) fun e w' => ∃ a c, e = .returned (.slice a (la ++ lb').length c) ∧ Wk.Own w' wr.heap.size 3 1 (.slice a (la ++ lb').length c) ((la ++ lb').map nR) ∧ Below wr.heap.size wr w') := by
            have hW : Below wr.heap.size wr (wr.alloc (.cells #[.slice aA j cA, .slice aB nB cB] 25)) := (Below.refl _ _).alloc (Nat.le_refl _) _
            have eF : flatN [(aA, cA, la), (aB, cB, lb')] = la ++ lb' := by simp [flatN]
            have h := concatN_any wr.heap.size 2 [(aA, cA, la), (aB, cB, lb')] (wr.alloc (.cells #[.slice aA j cA, .slice aB nB cB] 25)) (by simp) (fun i q hq => by
              match i, hq with
              | 0, hq => simp at hq; subst hq; exact ⟨by simp [HLL.out.1], SA.out.below hW, by have := HLL.out.1; dsimp only; omega⟩
              | 1, hq => simp at hq; subst hq; exact ⟨by simp [HLL.out.2], SB.out.below hW, by have := HLL.out.2; dsimp only; omega⟩
              | i + 2, hq => simp at hq) (by simp) (by rw [eF, List.length_append]; have := HLL.out.1; omega)
            rw [eF] at h
            refine h.mono ?_
            rintro e w' ⟨a, c, rfl, ho, hb⟩
            exact ⟨a, c, rfl, ho.base hW.size, hW.trans (hb.mono hW.size)⟩
          clear HOW HNI HAr HBr SA SB
          have EQ : ∀ W : World, (binOp .eql 25 nilS (.slice none 0 0)).run Try.prog W = .ok (.bool true) W := fun W => Lib.run_eql_slice_nil W _ _ _ _ _ _ _ eiN.1
          go_wp2_with fail
          refine CC.out.mono ?_
          rintro e w5 ⟨a5, c5, rfl, ho5, hb5⟩
          have R5 := HI.out.rx.below hb5
          have C5 := chg_low HI.out.ch (hb5.mono hzr)
          have c2' := R5.cell 2 _ rfl
          have fz' := R5.fz
          have hb5l := R5.lt
          obtain ⟨r1, r2⟩ := rx_one R5 (j := 2) (by simp [nodeC]) (.slice a5 (la ++ lb').length c5)
          have HF := Lib.hid (HDN.out (w5.setCell ⟨b, 2, none⟩ (.slice a5 (la ++ lb').length c5)) (.slice a5 (la ++ lb').length c5) (C5.trans r2 (fun _ _ _ h => h)) r1 ⟨a5, c5, rfl, own_chgs (ho5.base (Nat.le_trans hzX hzr)) r2 (fun k _ e => by omega)⟩)
          clear ho5 hb5 R5 C5 r1 r2 HDN HI c2 fz CC
          generalize (la ++ lb').length = q at *
          go_wp2_with fail
          exact bodyPost_ret (v := .slice a5 q c5) (by simp [results, Try.results55, go_sem]) rfl HF.out
        · rw [if_neg hI] at HDN
          obtain ⟨av, cv, rfl, ho⟩ := HOW.out
          obtain ⟨x, hx⟩ : ∃ x, (la.filter (fun x => decide (x ∈ lb')))[0]? = some x := ⟨_, List.getElem?_eq_getElem (List.length_pos_iff.2 hI)⟩
          obtain ⟨g, off, rfl, hg, _⟩ := Sl.nat ho.sl hx
          have HF := Lib.hid (HDN.out wr _ HI.out.ch HI.out.rx ⟨_, _, rfl, ho.base hzX⟩)
          clear ho hx HOW HNI HDN HAr HBr HI HTK
          generalize (la.filter (fun x => decide (x ∈ lb'))).length = q at *
          have EQ : ∀ W : World, (binOp .eql 25 (.slice (some ⟨g, off, none⟩) q cv) (.slice none 0 0)).run Try.prog W = .ok (.bool false) W := fun W => Lib.run_eql_slice_nil W _ _ _ _ _ _ _ eiN.1
          go_wp2_with fail
          exact bodyPost_ret (v := .slice (some ⟨g, off, none⟩) q cv) (by simp [results, Try.results55, go_sem]) rfl HF.out
end Go.Proofs.Ytoecmoicaklbaaa

/- Contract: fewest's give. -/
set_option linter.unusedVariables false
set_option linter.unusedSimpArgs false
namespace Go.Proofs.Ytoecmoicaklbaaa
open Go Go.RowKit Go.Sort Wc Wk

/-- A slice of the call's own has come to another one, and all else stands. -/
structure Gr (w w' : World) (v v' : Value) : Prop where
  g : w.grownBy w' v.ownBlock
  at_ : ∀ k, v'.ownBlock = some k → v.ownBlock = some k ∨ w.heap.size ≤ k
theorem Gr.of_below {w w' : World} (v : Value) (hb : Below w.heap.size w w') : Gr w w' v v := ⟨⟨hb.os, hb.tape, hb.output, hb.size, fun k hk _ => hb.block k hk⟩, fun k h => .inl h⟩
theorem Gr.trans {w w1 w2 : World} {v v1 v2 : Value} (h : Gr w w1 v v1) (k : Gr w1 w2 v1 v2) : Gr w w2 v v2 := by
  refine ⟨⟨k.g.os.trans h.g.os, k.g.tape.trans h.g.tape, k.g.output.trans h.g.output, Nat.le_trans h.g.size k.g.size, fun b hb hne => ?_⟩, fun b hb => ?_⟩
  · refine (k.g.block b (Nat.lt_of_lt_of_le hb h.g.size) (fun e => ?_)).trans (h.g.block b hb hne)
    rcases h.at_ b e.symm with h1 | h1
    · exact hne h1.symm
    · omega
  · rcases k.at_ b hb with h1 | h1
    · exact h.at_ b h1
    · exact .inr (Nat.le_trans h.g.size h1)
theorem Gr.low {w w' : World} {v v' : Value} (h : Gr w w' v v') {B : Nat} (hB : B ≤ w.heap.size) (hv : ∀ k, v.ownBlock = some k → B ≤ k) : Below B w w' := Below.of_grown h.g hB hv
theorem Gr.rx {w w' : World} {v v' : Value} (h : Gr w w' v v') {b : Nat} {c : List Value} (r : RX w b c) (hv : ∀ k, v.ownBlock = some k → k ≠ b) : RX w' b c := r.grown h.g hv
def HT.hd (t : HT) : Nat := t.set.headD 0
def HT.top (t : HT) (a : Nat) : Nat := if a ∈ t.set then a else t.hd
def HT.own1 (t : HT) (n k a : Nat) : List (Nat × Nat × Nat) := if a ∈ t.set then [] else [(n, k, t.hd)]
/-- The routes of a tree below a prefix, where what stands above goes to a hop. -/
def HT.give : HT → Nat → Nat → Nat → List (Nat × Nat × Nat)
  | .leaf h, n, k, a => (HT.leaf h).own1 n k a
  | .node l r, n, k, a => (HT.node l r).own1 n k a ++ (l.give n (k + 1) ((HT.node l r).top a) ++ r.give (halfN 32 n k 1) (k + 1) ((HT.node l r).top a))
def HT.depth : HT → Nat
  | .leaf _ => 0
  | .node l r => max l.depth r.depth + 1
theorem own1_len (t : HT) (n k a : Nat) : (t.own1 n k a).length ≤ 1 := by unfold HT.own1; split <;> simp
theorem leaves_pos : ∀ t : HT, 1 ≤ t.leaves
  | .leaf _ => Nat.le_refl _
  | .node l r => by have := leaves_pos l; simp only [HT.leaves]; omega
theorem give_len : ∀ (t : HT) (n k a : Nat), (t.give n k a).length + 1 ≤ 2 * t.leaves
  | .leaf h, n, k, a => by have := own1_len (.leaf h) n k a; simp only [HT.give, HT.leaves]; omega
  | .node l r, n, k, a => by
    have h1 := give_len l n (k + 1) ((HT.node l r).top a)
    have h2 := give_len r (halfN 32 n k 1) (k + 1) ((HT.node l r).top a)
    have h3 := own1_len (.node l r) n k a
    simp only [HT.give, HT.leaves, List.length_append]
    omega
theorem set_hd (t : HT) : t.set[0]? = some t.hd := by
  unfold HT.hd
  have := HT.set_pos t
  cases h : t.set with
  | nil => rw [h] at this; simp at this
  | cons x xs => rfl
def FT.pv : FT → Value
  | .leaf _ _ => .pointer none
  | .node _ p _ _ _ => ptrN p
def FT.hop : FT → Nat
  | .leaf _ h => h
  | .node _ _ h _ _ => h
theorem Hd.rootx {w : World} {S : Nat → Value} : ∀ {t : FT}, Hd w (t.cells S) → RX w t.root (nodeC t.pv t.hop (S t.root))
  | .leaf b h, k => k.rx (b, nodeC (.pointer none) h (S b)) (by simp [FT.cells])
  | .node b p h l r, k => k.node.1
def GiveSays (w : World) (B : Nat) (v : Value) (O L : List (Nat × Nat × Nat)) (e : Ending) (w' : World) : Prop :=
  ∃ a c, e = .returned (.slice a (O ++ L).length c) ∧ Wk.Own w' B 49 5 (.slice a (O ++ L).length c) ((O ++ L).map routeCells) ∧ Gr w w' v (.slice a (O ++ L).length c)
def GiveP (w0 : World) (B' : Nat) (S : Nat → Value) (t : FT) : Prop :=
  ∀ (w : World) (n k ab : Nat) (va : Option Addr) (vc : Nat) (O : List (Nat × Nat × Nat)), Hd w0 (t.cells S) → SetsOk w0 B' S t → Below w0.heap.size w0 w → VP false n k → t.er.depth + k ≤ 32 → t.er.leaves ≤ 5000 → Wk.Own w w0.heap.size 49 5 (.slice va O.length vc) (O.map routeCells) → O.length + 2 * t.er.leaves ≤ 100000 →
    Calls Try.prog 56 #[ptrN t.root, Value.agg #[.bool false, .int .u64 (hiOf false n), .int .u64 (loOf n), .int .i64 k], .int .i64 (ab : Nat), .slice va O.length vc] w (GiveSays w w0.heap.size (.slice va O.length vc) O (t.er.give n k ab))

/-- What region after region reads. -/
structure Sev (w : World) (b p A n k : Nat) (u v x : Value) : Prop where
  e0 : w.cell? ⟨b, 0, none⟩ = some u
  e1 : w.cell? ⟨p, 0, none⟩ = some v
  e2 : w.cell? ⟨p, 1, none⟩ = some x
  ra : RX w A (preCells false n k)
  lb : b < w.heap.size
  lp : p < w.heap.size
theorem Sev.below {w w' : World} {b p A n k : Nat} {u v x : Value} (h : Sev w b p A n k u v x) (hb : Below w.heap.size w w') : Sev w' b p A n k u v x :=
  ⟨(hb.cell (p := ⟨b, 0, none⟩) h.lb).trans h.e0, (hb.cell (p := ⟨p, 0, none⟩) h.lp).trans h.e1, (hb.cell (p := ⟨p, 1, none⟩) h.lp).trans h.e2, h.ra.below hb, Nat.lt_of_lt_of_le h.lb hb.size, Nat.lt_of_lt_of_le h.lp hb.size⟩
theorem Sev.gr {w w' : World} {b p A n k : Nat} {u v x o o' : Value} (h : Sev w b p A n k u v x) (g : Gr w w' o o') (ho : ∀ z, o.ownBlock = some z → z ≠ b ∧ z ≠ p ∧ z ≠ A) : Sev w' b p A n k u v x :=
  ⟨(World.cell?_of_block (a := ⟨b, 0, none⟩) (g.g.block b h.lb (fun e => (ho b e.symm).1 rfl))).trans h.e0, (World.cell?_of_block (a := ⟨p, 0, none⟩) (g.g.block p h.lp (fun e => (ho p e.symm).2.1 rfl))).trans h.e1, (World.cell?_of_block (a := ⟨p, 1, none⟩) (g.g.block p h.lp (fun e => (ho p e.symm).2.1 rfl))).trans h.e2, g.rx h.ra (fun z hz => (ho z hz).2.2), Nat.lt_of_lt_of_le h.lb g.g.size, Nat.lt_of_lt_of_le h.lp g.g.size⟩
theorem Sev.say {w : World} {b p A n k : Nat} {u v x : Value} (h : Sev w b p A n k u v x) : w.cell? ⟨b, 0, none⟩ = some u ∧ w.cell? ⟨p, 0, none⟩ = some v ∧ w.cell? ⟨p, 1, none⟩ = some x ∧ w.cell? ⟨A, 0, none⟩ = some (.bool false) ∧ w.cell? ⟨A, 1, none⟩ = some (.int .u64 (hiOf false n)) ∧ w.cell? ⟨A, 2, none⟩ = some (.int .u64 (loOf n)) ∧ w.cell? ⟨A, 3, none⟩ = some (.int .i64 (k : Nat)) :=
  ⟨h.e0, h.e1, h.e2, h.ra.cell 0 _ rfl, h.ra.cell 1 _ rfl, h.ra.cell 2 _ rfl, h.ra.cell 3 _ rfl⟩

set_option maxRecDepth 100000 in
set_option maxHeartbeats 4000000 in
theorem give_step (w0 : World) (B' : Nat) (S : Nat → Value) (t : FT) (IH : ∀ b p h l r, t = .node b p h l r → GiveP w0 B' S l ∧ GiveP w0 B' S r) : GiveP w0 B' S t := by
  intro w n k ab va vc O hd hs hb hv hdep hlv ho hlen
  have hroot := hd.rootx
  have hrw := hroot.below hb
  obtain ⟨sa, sc, eS, hso⟩ := hs.top
  have c2 : w.cell? ⟨t.root, 2, none⟩ = some (S t.root) := hrw.cell 2 _ rfl
  rw [eS] at c2
  have lr := hrw.lt
  obtain ⟨rt, hrt⟩ : ∃ rt, rt = t.root := ⟨_, rfl⟩
  rw [← hrt] at c2 lr ⊢
  have HRT := Lib.hid hrt
  have hsw := hso.below hb
  have HSS := Lib.hid hsw.sl
  have hset := HT.set_len t.er
  have HHD := Lib.hid (set_hd t.er)
  have HB := Lib.hid hb
  have HV := Lib.hid hv
  have HDP := Lib.hid hdep
  have HLV := Lib.hid hlv
  have HO := Lib.hid ho
  have hol : O.length ≤ 100000 := by omega
  have HLN := Lib.hid hlen
  have HD := Lib.hid hd
  have HS := Lib.hid hs
  obtain ⟨q, hq⟩ : ∃ q, q = t.er.set.length := ⟨_, rfl⟩
  rw [← hq] at c2 HSS
  have HQ := Lib.hid hq
  have hq5 : q ≤ 5000 := by omega
  have CN : Hid (∀ W, Below w.heap.size w W → Calls Try.prog 96 #[.slice sa q sc, .int .i64 (ab : Nat)] W fun e w' => e = .returned (.bool (decide (ab ∈ t.er.set))) ∧ W = w') := fun W hW => by
    have h1 := HSS.out.below hW
    rw [HQ.out] at h1 ⊢
    exact containsN_any sa sc t.er.set ab W h1 (by rw [← HQ.out]; omega)
  obtain ⟨A, hA⟩ : ∃ A, A = w.heap.size := ⟨_, rfl⟩
  obtain ⟨V, hV⟩ : ∃ V, V = w.alloc (.cells (preCells false n k).toArray 30) := ⟨_, rfl⟩
  have hVB : Below w.heap.size w V := by rw [hV]; exact (Below.refl _ _).alloc (Nat.le_refl _) _
  have RA : Hid (RX V A (preCells false n k)) := by rw [hV, hA]; exact rx_new _ _
  have HAN := Lib.hid (show ∀ g, (Value.slice va O.length vc).ownBlock = some g → g ≠ A from fun g hg => by have := (ho.lt g hg).2; omega)
  have CV := Lib.hid (CN.out V hVB)
  clear hroot hrw eS hso hsw hset hb hv hdep hlv ho hlen hd hs hq CN hrt
  go_enter Try.func56, Try.ntmps56
  have hV' := hV
  simp only [preCells] at hV'
  go_wp2_with fail
  rw [← hV']
  clear hV hV'
  rw [← hA]
  have HAe := Lib.hid hA
  clear hA
  go_upto_if 15 with (with_reducible refine CV.out.mono ?_; rintro e w' ⟨rfl, rfl⟩)
  have HVB := Lib.hid hVB
  have lrV : rt < V.heap.size := Nat.lt_of_lt_of_le lr hVB.size
  have c2' : V.cell? ⟨rt, 2, none⟩ = some (.slice sa q sc) := (hVB.cell (p := ⟨rt, 2, none⟩) lr).trans c2
  have h1 := HSS.out.below hVB
  obtain ⟨g, off, rfl, hg, d0⟩ := Sl.nat h1 HHD.out
  have hq0 : 0 < q := by rw [HQ.out]; exact HT.set_pos _
  have a0 := RA.out.cell 0 _ rfl
  have a1 := RA.out.cell 1 _ rfl
  have a2 := RA.out.cell 2 _ rfl
  have a3 := RA.out.cell 3 _ rfl
  have la := RA.out.lt
  have HOV := Lib.hid (HO.out.below hVB)
  have hzV : w0.heap.size ≤ V.heap.size := Nat.le_trans HB.out.size hVB.size
  have HEG : Hid (HT.give t.er n k ab = t.er.own1 n k ab ++ (match t.er with | .leaf _ => [] | .node l r => l.give n (k + 1) (t.er.top ab) ++ r.give (halfN 32 n k 1) (k + 1) (t.er.top ab))) := by
    show _ = _
    cases t.er with
    | leaf h => simp [HT.give]
    | node l r => rfl
  obtain ⟨O2, hO2⟩ : ∃ O2, O2 = O ++ t.er.own1 n k ab := ⟨_, rfl⟩
  have HO2 := Lib.hid hO2
  have h2l : O2.length ≤ O.length + 1 := by rw [hO2, List.length_append]; have := own1_len t.er n k ab; omega
  rw [Nat.add_zero] at d0
  clear h1 hO2 hVB c2 CV
  go_cut [2, 3] (fun v2 v3 wx => v2 = .int .i64 (t.er.top ab : Nat) ∧ ∃ a c, v3 = .slice a O2.length c ∧ Hid (Wk.Own wx w0.heap.size 49 5 (.slice a O2.length c) (O2.map routeCells)) ∧ Hid (Gr V wx (.slice va O.length vc) (.slice a O2.length c)) ∧ Hid (RX wx A (preCells false n k)))
  case first =>
    by_cases hm : ab ∈ t.er.set
    · have e1 : t.er.top ab = ab := if_pos hm
      have e2 : O2 = O := by rw [HO2.out, HT.own1, if_pos hm, List.append_nil]
      rw [decide_eq_true hm]
      go_wp2_with fail
      go_meet
      rw [e1, e2]
      exact ⟨rfl, va, vc, rfl, HOV, Gr.of_below _ (Below.refl _ _), RA⟩
    · have e1 : t.er.top ab = t.er.hd := if_neg hm
      have e2 : O2 = O ++ [(n, k, t.er.hd)] := by rw [HO2.out, HT.own1, if_neg hm]
      have HE1 := Lib.hid e1
      have HE2 := Lib.hid e2
      clear e1 e2
      rw [decide_eq_false hm]
      generalize t.er.hd = hp at *
      go_wp2_with (at_builtin; refine stop_at ?_; intro G hG)
      rw [← hG.out]; clear hG G
      refine wpList_append_at rfl _ _ 43 49 5 40 _ rfl eiRoute w0.heap.size (.slice va O.length vc) (O.map routeCells) rfl (HOV.out.alloc _) _ [routeCells (n, k, hp)] rfl (sl_new (c := routeCells (n, k, hp)) (by simp) rfl) (by intro c hc; simp at hc; subst hc; exact routeCells_one _) (by simp; omega) (by decide) (by simp; omega) (by simp) ?_
      intro v7 w7 hown hgr hb7 hat
      rw [show O.map routeCells ++ [routeCells (n, k, hp)] = O2.map routeCells by rw [HE2.out, List.map_append]; rfl] at hown
      obtain ⟨a7, c7, rfl⟩ := hown.shape
      rw [List.length_map] at hown hat ⊢
      have HO7 := Lib.hid hown
      have hVal : Below V.heap.size V (V.alloc (.cells (routeCells (n, k, hp)).toArray 49)) := (Below.refl _ _).alloc (Nat.le_refl _) _
      have HG7 : Hid (Gr V w7 (.slice va O.length vc) (.slice a7 O2.length c7)) := (Gr.of_below _ hVal).trans ⟨hgr, fun z hz => hat.elim (fun e => .inl (e ▸ hz)) (fun e => by rw [hz] at e; cases e; exact .inr (Nat.le_refl _))⟩
      have RA7 := Lib.hid (HG7.out.rx RA.out HAN.out)
      clear hown hgr hb7 hat hVal
      go_wp2_with fail
      go_meet
      rw [HE1.out]
      exact ⟨rfl, _, _, rfl, HO7, HG7, RA7⟩
  case rest =>
    obtain ⟨rfl, a2', cc2, rfl, HO3, HG3, RA3⟩ := hcut
    have HNA3 := Lib.hid (show ∀ z, (Value.slice a2' O2.length cc2).ownBlock = some z → z ≠ A from fun z hz => (HG3.out.at_ z hz).elim (fun h1 => HAN.out z h1) (fun h1 => by omega))
    have HOB := Lib.hid (show ∀ z, (Value.slice va O.length vc).ownBlock = some z → w0.heap.size ≤ z from fun z hz => (HOV.out.lt z hz).1)
    have HBc := Lib.hid (HB.out.trans ((HVB.out.mono HB.out.size).trans (HG3.out.low hzV HOB.out)))
    have HGc := Lib.hid ((Gr.of_below (.slice va O.length vc) HVB.out).trans HG3.out)
    clear d0 a0 a1 a2 a3 la c2' HOV HSS HHD HQ hq0 hq5 hg lr lrV HG3 RA HOB HAN
    cases t with
    | leaf b h =>
      have hrw := HD.out.rootx.below HBc.out
      rw [← HRT.out] at hrw
      have c0 : wc.cell? ⟨rt, 0, none⟩ = some (.pointer none) := hrw.cell 0 _ rfl
      have lr := hrw.lt
      have HEE : Hid (O2 = O ++ (FT.leaf b h).er.give n k ab) := by show _ = _; rw [HO2.out]; rfl
      clear hrw
      go_wp2_with fail
      refine bodyPost_ret (v := .slice a2' O2.length cc2) (by simp [results, Try.results56, go_sem]) rfl ?_
      show GiveSays _ _ _ _ _ _ _
      unfold GiveSays
      rw [← HEE.out]
      exact ⟨_, _, rfl, HO3.out, HGc.out⟩
    | node b p h l r =>
      obtain ⟨IHl, IHr⟩ := IH b p h l r rfl
      have hrw := HD.out.rootx.below HBc.out
      rw [← HRT.out] at hrw
      obtain ⟨_, hpx, hdl, hdr, _⟩ := HD.out.node
      have hpw := hpx.below HBc.out
      have SV : Hid (Sev wc rt p A n k (ptrN p) (ptrN l.root) (ptrN r.root)) := ⟨hrw.cell 0 _ rfl, hpw.cell 0 _ rfl, hpw.cell 1 _ rfl, RA3.out, hrw.lt, hpw.lt⟩
      have hdp : l.er.depth + (k + 1) ≤ 32 ∧ r.er.depth + (k + 1) ≤ 32 := by
        have := HDP.out
        simp only [FT.er, HT.depth] at this
        omega
      have hlv2 : l.er.leaves + r.er.leaves ≤ 5000 := HLV.out
      have hk32 : k < 32 := by omega
      have hvp := half_vp HV.out (show k < wd false from hk32)
      have HF1 : Hid (∀ w, Calls Try.prog 72 #[Value.agg #[.bool false, .int .u64 (hiOf false n), .int .u64 (loOf n), .int .i64 k], .int .i64 0] w fun e w' => e = .returned (Value.agg #[.bool false, .int .u64 (hiOf false n), .int .u64 (loOf n), .int .i64 ((k : Int) + 1)]) ∧ Below w.heap.size w w') := fun w => half_low false n k w (by omega)
      have HF2 : Hid (∀ w, Calls Try.prog 72 #[Value.agg #[.bool false, .int .u64 (hiOf false n), .int .u64 (loOf n), .int .i64 k], .int .i64 1] w fun e w' => e = .returned (Value.agg #[.bool false, .int .u64 (hiOf false (halfN 32 n k 1)), .int .u64 (loOf (halfN 32 n k 1)), .int .i64 ((k : Int) + 1)]) ∧ Below w.heap.size w w') := fun w => half_high false n k w HV.out hk32
      have hln := HLN.out
      have hl1 := leaves_pos l.er
      have hr1 := leaves_pos r.er
      have L1 : Hid (∀ (W : World), Below wc.heap.size wc W → Calls Try.prog 56 #[ptrN l.root, Value.agg #[.bool false, .int .u64 (hiOf false n), .int .u64 (loOf n), .int .i64 ((k : Int) + 1)], .int .i64 ((FT.node b p h l r).er.top ab : Nat), .slice a2' O2.length cc2] W (GiveSays W w0.heap.size (.slice a2' O2.length cc2) O2 (l.er.give n (k + 1) ((FT.node b p h l r).er.top ab)))) := (fun (W : World) (hW : Below wc.heap.size wc W) => IHl W n (k + 1) ((FT.node b p h l r).er.top ab) a2' cc2 O2 hdl HS.out.2.1 (HBc.out.trans (hW.mono HBc.out.size)) hvp.1 hdp.1 (by omega) (HO3.out.below hW) (by simp only [FT.er, HT.leaves] at hln; omega))
      have hrt0 : rt < w0.heap.size := by rw [HRT.out]; exact HD.out.top
      have hp0 : p < w0.heap.size := hpx.lt
      have HOX := Lib.hid (show ∀ z, (Value.slice a2' O2.length cc2).ownBlock = some z → z ≠ rt ∧ z ≠ p ∧ z ≠ A from fun z hz => by
        have := (HO3.out.lt z hz).1
        exact ⟨by omega, by omega, HNA3.out z hz⟩)
      have L2 : Hid (∀ (w4 : World) (a4 : Option Addr) (c4 : Nat) (O4 : List (Nat × Nat × Nat)) (hB4 : Below w0.heap.size w0 w4) (hO4 : Wk.Own w4 w0.heap.size 49 5 (.slice a4 O4.length c4) (O4.map routeCells)) (h4 : O4.length + 1 ≤ O2.length + 2 * l.er.leaves) (W : World) (hW : Below w4.heap.size w4 W), Calls Try.prog 56 #[ptrN r.root, Value.agg #[.bool false, .int .u64 (hiOf false (halfN 32 n k 1)), .int .u64 (loOf (halfN 32 n k 1)), .int .i64 ((k : Int) + 1)], .int .i64 ((FT.node b p h l r).er.top ab : Nat), .slice a4 O4.length c4] W (GiveSays W w0.heap.size (.slice a4 O4.length c4) O4 (r.er.give (halfN 32 n k 1) (k + 1) ((FT.node b p h l r).er.top ab)))) := (fun (w4 : World) (a4 : Option Addr) (c4 : Nat) (O4 : List (Nat × Nat × Nat)) (hB4 : Below w0.heap.size w0 w4) (hO4 : Wk.Own w4 w0.heap.size 49 5 (.slice a4 O4.length c4) (O4.map routeCells)) (h4 : O4.length + 1 ≤ O2.length + 2 * l.er.leaves) (W : World) (hW : Below w4.heap.size w4 W) =>
        IHr W (halfN 32 n k 1) (k + 1) ((FT.node b p h l r).er.top ab) a4 c4 O4 hdr HS.out.2.2 (hB4.trans (hW.mono hB4.size)) hvp.2 hdp.2 (by omega) (hO4.below hW) (by simp only [FT.er, HT.leaves] at hln; omega))
      have HEE : Hid ((O2 ++ l.er.give n (k + 1) ((FT.node b p h l r).er.top ab)) ++ r.er.give (halfN 32 n k 1) (k + 1) ((FT.node b p h l r).er.top ab) = O ++ (FT.node b p h l r).er.give n k ab) := by
        show _ = _
        rw [HEG.out, HO2.out, List.append_assoc, List.append_assoc]
        rfl
      have HGL := Lib.hid (give_len l.er n (k + 1) ((FT.node b p h l r).er.top ab))
      have h2l' : O2.length ≤ 100001 := by omega
      obtain ⟨s0, s1, s2, s3, s4, s5, s6⟩ := SV.out.say
      have lrt := SV.out.lb
      have lpp := SV.out.lp
      have lA := RA3.out.lt
      clear hrw hpx hdl hdr hpw hvp hln hl1 hr1 IH IHl IHr hdp hlv2 HLV HLN HDP HEG HD HS HV HO2 HNA3 h2l
      generalize (FT.node b p h l r).er.top ab = tp at *
      go_wp2_with fail
      refine wp_region_held_drew (S := (fun w' => w'.cell? ⟨rt, 0, none⟩ = some (ptrN p) ∧ w'.cell? ⟨p, 0, none⟩ = some (ptrN l.root) ∧ w'.cell? ⟨p, 1, none⟩ = some (ptrN r.root) ∧ w'.cell? ⟨A, 0, none⟩ = some (.bool false) ∧ w'.cell? ⟨A, 1, none⟩ = some (.int .u64 (hiOf false n)) ∧ w'.cell? ⟨A, 2, none⟩ = some (.int .u64 (loOf n)) ∧ w'.cell? ⟨A, 3, none⟩ = some (.int .i64 (k : Nat)))) (by kernel_rfl) ?_ (fun hHeld => ?_)
      · ((try dsimp only); (first | (first | (go_simp; done) | (simp [*, go_sem, World.cell?_alloc_past]; done) | (simp [*, go_sem, World.cell?_alloc_past, World.cell?_setCell_far]; done)) | exact SV4.out.say | exact SV2.out.say | trivial))
      (refine wpAnyH_take (i := 0) (oi := _) (v := ?_) (by simp only [List.getElem?_toArray, List.getElem?_cons_zero, List.getElem?_cons_succ]; rfl) (by kernel_rfl) (by decide +kernel) (by decide +kernel) (by exact fun _ _ _ h => h) (Or.inl ⟨by rfl, ?_⟩) (by assumption) ?_; rotate_left; (· ((intro w hSw); (try dsimp only at hSw); go_simp; (try with_reducible rfl))); (try simp only [Act.put, List.setIfInBounds_toArray, List.set_cons_zero, List.set_cons_succ]))
      (refine wpAnyH_take (i := 1) (oi := _) (v := ?_) (by simp only [List.getElem?_toArray, List.getElem?_cons_zero, List.getElem?_cons_succ]; rfl) (by kernel_rfl) (by decide +kernel) (by decide +kernel) (by exact fun _ _ _ h => h) (Or.inl ⟨by rfl, ?_⟩) (by assumption) ?_; rotate_left; (· ((intro w hSw); (try dsimp only at hSw); go_simp; (try with_reducible rfl))); (try simp only [Act.put, List.setIfInBounds_toArray, List.set_cons_zero, List.set_cons_succ]))
      (refine wpAnyH_take (i := 2) (oi := _) (v := ?_) (by simp only [List.getElem?_toArray, List.getElem?_cons_zero, List.getElem?_cons_succ]; rfl) (by kernel_rfl) (by decide +kernel) (by decide +kernel) (by exact fun _ _ _ h => h) (Or.inl ⟨by rfl, ?_⟩) (by assumption) ?_; rotate_left; (· ((intro w hSw); (try dsimp only at hSw); go_simp; (try with_reducible rfl))); (try simp only [Act.put, List.setIfInBounds_toArray, List.set_cons_zero, List.set_cons_succ]))
      (refine wpAnyH_take (i := 3) (oi := _) (v := ?_) (by simp only [List.getElem?_toArray, List.getElem?_cons_zero, List.getElem?_cons_succ]; rfl) (by kernel_rfl) (by decide +kernel) (by decide +kernel) (by exact fun _ _ _ h => h) (Or.inl ⟨by rfl, ?_⟩) (by assumption) ?_; rotate_left; (· ((intro w hSw); (try dsimp only at hSw); go_simp; (try with_reducible rfl))); (try simp only [Act.put, List.setIfInBounds_toArray, List.set_cons_zero, List.set_cons_succ]))
      (refine wpAnyH_take (i := 4) (oi := _) (v := ?_) (by simp only [List.getElem?_toArray, List.getElem?_cons_zero, List.getElem?_cons_succ]; rfl) (by kernel_rfl) (by decide +kernel) (by decide +kernel) (by exact fun _ _ _ h => h) (Or.inl ⟨by rfl, ?_⟩) (by assumption) ?_; rotate_left; (· ((intro w hSw); (try dsimp only at hSw); go_simp; (try with_reducible rfl))); (try simp only [Act.put, List.setIfInBounds_toArray, List.set_cons_zero, List.set_cons_succ]))
      (refine wpAnyH_take (i := 5) (oi := _) (v := ?_) (by simp only [List.getElem?_toArray, List.getElem?_cons_zero, List.getElem?_cons_succ]; rfl) (by kernel_rfl) (by decide +kernel) (by decide +kernel) (by exact fun _ _ _ h => h) (Or.inl ⟨by rfl, ?_⟩) (by assumption) ?_; rotate_left; (· ((intro w hSw); (try dsimp only at hSw); go_simp; (try with_reducible rfl))); (try simp only [Act.put, List.setIfInBounds_toArray, List.set_cons_zero, List.set_cons_succ]))
      (refine wpAnyH_take (i := 6) (oi := _) (v := ?_) (by simp only [List.getElem?_toArray, List.getElem?_cons_zero, List.getElem?_cons_succ]; rfl) (by kernel_rfl) (by decide +kernel) (by decide +kernel) (by exact fun _ _ _ h => h) (Or.inl ⟨by rfl, ?_⟩) (by assumption) ?_; rotate_left; (· ((intro w hSw); (try dsimp only at hSw); go_simp; (try with_reducible rfl))); (try simp only [Act.put, List.setIfInBounds_toArray, List.set_cons_zero, List.set_cons_succ]))
      (refine wpAnyH_take (i := 7) (oi := _) (v := ?_) (by simp only [List.getElem?_toArray, List.getElem?_cons_zero, List.getElem?_cons_succ]; rfl) (by kernel_rfl) (by decide +kernel) (by decide +kernel) (by exact fun _ _ _ h => h) (Or.inl ⟨by rfl, ?_⟩) (by assumption) ?_; rotate_left; (· ((intro w hSw); (try dsimp only at hSw); go_simp; (try with_reducible rfl))); (try simp only [Act.put, List.setIfInBounds_toArray, List.set_cons_zero, List.set_cons_succ]))
      (refine wpAnyH_take (i := 9) (oi := _) (v := ?_) (by simp only [List.getElem?_toArray, List.getElem?_cons_zero, List.getElem?_cons_succ]; rfl) (by kernel_rfl) (by decide +kernel) (by decide +kernel) (by exact fun _ _ _ h => h) (Or.inl ⟨by rfl, ?_⟩) (by assumption) ?_; rotate_left; (· ((intro w hSw); (try dsimp only at hSw); go_simp; (try with_reducible rfl))); (try simp only [Act.put, List.setIfInBounds_toArray, List.set_cons_zero, List.set_cons_succ]))
      (refine wpAnyH_take (i := 10) (oi := _) (v := ?_) (by simp only [List.getElem?_toArray, List.getElem?_cons_zero, List.getElem?_cons_succ]; rfl) (by kernel_rfl) (by decide +kernel) (by decide +kernel) (by exact fun _ _ _ h => h) (Or.inl ⟨by rfl, ?_⟩) (by assumption) ?_; rotate_left; (· ((intro w hSw); (try dsimp only at hSw); go_simp; (try with_reducible rfl))); (try simp only [Act.put, List.setIfInBounds_toArray, List.set_cons_zero, List.set_cons_succ]))
      repeat' (first
        | (refine wpAnyH_take (i := 12) (oi := _) (v := ?_) (by simp only [List.getElem?_toArray, List.getElem?_cons_zero, List.getElem?_cons_succ]; rfl) (by kernel_rfl) (by decide +kernel) (by decide +kernel) (by exact fun _ _ _ h => h) (Or.inl ⟨by rfl, ?_⟩) (by assumption) ?_; rotate_left; (· ((intro w hSw); (try dsimp only at hSw); go_simp; (try with_reducible rfl))); (try simp only [Act.put, List.setIfInBounds_toArray, List.set_cons_zero, List.set_cons_succ]))
        | (refine wpAnyH_ready (rs := [8]) (by decide +kernel) (by simp) (AllReadyH.cons (by simp only [List.getElem?_toArray, List.getElem?_cons_zero, List.getElem?_cons_succ]; rfl) (fun K hK => ?_) AllReadyH.nil); all_goals ((first | fail | (go_simp; (first | ((with_reducible refine (HF1.out _).mono ?_); rintro e w2 ⟨rfl, hb2⟩; (have SV2 := Lib.hid ((SV.out.below (Below.drew (Below.refl _ _))).below hb2)); (have hW2 : Below wc.heap.size wc w2 := (Below.drew (Below.refl _ _)).trans hb2)) | ((with_reducible refine (L1.out _ hW2).mono ?_); rintro e w4 ⟨a4, c4, rfl, ho4, hg4⟩; (have SV4 := Lib.hid (SV2.out.gr hg4 HOX.out)); obtain ⟨O4, hO4⟩ : ∃ O4, O4 = O2 ++ l.er.give n (k + 1) tp := ⟨_, rfl⟩; rw [← hO4] at ho4 hg4 ⊢; have HO4E := Lib.hid hO4; clear hO4) | skip))); (refine hK.out _ _ ?_ (fun hHeld => ?_)); (· ((try dsimp only); (first | (first | (go_simp; done) | (simp [*, go_sem, World.cell?_alloc_past]; done) | (simp [*, go_sem, World.cell?_alloc_past, World.cell?_setCell_far]; done)) | exact SV4.out.say | exact SV2.out.say | trivial))); (clear hK K; (try simp only [Act.put, List.setIfInBounds_toArray, List.set_cons_zero, List.set_cons_succ]))))
        | (refine wpAnyH_ready (rs := [11]) (by decide +kernel) (by simp) (AllReadyH.cons (by simp only [List.getElem?_toArray, List.getElem?_cons_zero, List.getElem?_cons_succ]; rfl) (fun K hK => ?_) AllReadyH.nil); all_goals ((first | fail | (go_simp; (first | ((with_reducible refine (HF1.out _).mono ?_); rintro e w2 ⟨rfl, hb2⟩; (have SV2 := Lib.hid ((SV.out.below (Below.drew (Below.refl _ _))).below hb2)); (have hW2 : Below wc.heap.size wc w2 := (Below.drew (Below.refl _ _)).trans hb2)) | ((with_reducible refine (L1.out _ hW2).mono ?_); rintro e w4 ⟨a4, c4, rfl, ho4, hg4⟩; (have SV4 := Lib.hid (SV2.out.gr hg4 HOX.out)); obtain ⟨O4, hO4⟩ : ∃ O4, O4 = O2 ++ l.er.give n (k + 1) tp := ⟨_, rfl⟩; rw [← hO4] at ho4 hg4 ⊢; have HO4E := Lib.hid hO4; clear hO4) | skip))); (refine hK.out _ _ ?_ (fun hHeld => ?_)); (· ((try dsimp only); (first | (first | (go_simp; done) | (simp [*, go_sem, World.cell?_alloc_past]; done) | (simp [*, go_sem, World.cell?_alloc_past, World.cell?_setCell_far]; done)) | exact SV4.out.say | exact SV2.out.say | trivial))); (clear hK K; (try simp only [Act.put, List.setIfInBounds_toArray, List.set_cons_zero, List.set_cons_succ]))))
        | (refine wpAnyH_done (by decide +kernel) ?_ _)
        | fail)
      go_goals
      have hz2 := hW2.size
      have HBW := Lib.hid (HBc.out.trans (hW2.mono HBc.out.size))
      have HB4 := Lib.hid (HBW.out.trans (hg4.low HBW.out.size (fun z hz => (HO3.out.lt z hz).1)))
      have HG4 := Lib.hid (HGc.out.trans ((Gr.of_below _ hW2).trans hg4))
      have HOX4 := Lib.hid (show ∀ z, (Value.slice a4 O4.length c4).ownBlock = some z → z ≠ rt ∧ z ≠ p ∧ z ≠ A from fun z hz => (hg4.at_ z hz).elim (fun h1 => HOX.out z h1) (fun h1 => by omega))
      have h4 : O4.length + 1 ≤ O2.length + 2 * l.er.leaves := by rw [HO4E.out, List.length_append]; have := HGL.out; omega
      have HO4 := Lib.hid ho4
      have L3 := Lib.hid (L2.out w4 a4 c4 O4 HB4.out ho4 h4)
      have hz4 := hg4.g.size
      clear hHeld hb2 hW2 ho4 hg4 s0 s1 s2 s3 s4 s5 s6 SV SV2 HBW HBc HGc HOX HO3 RA3 HF1 L1 L2 h4 HGL
      obtain ⟨s0, s1, s2, s3, s4, s5, s6⟩ := SV4.out.say
      have lrt := SV4.out.lb
      have lpp := SV4.out.lp
      have lA := SV4.out.ra.lt
      go_wp2_with fail
      refine wp_region_held_drew (S := (fun w' => w'.cell? ⟨rt, 0, none⟩ = some (ptrN p) ∧ w'.cell? ⟨p, 0, none⟩ = some (ptrN l.root) ∧ w'.cell? ⟨p, 1, none⟩ = some (ptrN r.root) ∧ w'.cell? ⟨A, 0, none⟩ = some (.bool false) ∧ w'.cell? ⟨A, 1, none⟩ = some (.int .u64 (hiOf false n)) ∧ w'.cell? ⟨A, 2, none⟩ = some (.int .u64 (loOf n)) ∧ w'.cell? ⟨A, 3, none⟩ = some (.int .i64 (k : Nat)))) (by kernel_rfl) ?_ (fun hHeld => ?_)
      · ((try dsimp only); (first | (first | (go_simp; done) | (simp [*, go_sem, World.cell?_alloc_past]; done) | (simp [*, go_sem, World.cell?_alloc_past, World.cell?_setCell_far]; done)) | exact SV6.out.say | exact SV5.out.say | trivial))
      (refine wpAnyH_take (i := 0) (oi := _) (v := ?_) (by simp only [List.getElem?_toArray, List.getElem?_cons_zero, List.getElem?_cons_succ]; rfl) (by kernel_rfl) (by decide +kernel) (by decide +kernel) (by exact fun _ _ _ h => h) (Or.inl ⟨by rfl, ?_⟩) (by assumption) ?_; rotate_left; (· ((intro w hSw); (try dsimp only at hSw); go_simp; (try with_reducible rfl))); (try simp only [Act.put, List.setIfInBounds_toArray, List.set_cons_zero, List.set_cons_succ]))
      (refine wpAnyH_take (i := 1) (oi := _) (v := ?_) (by simp only [List.getElem?_toArray, List.getElem?_cons_zero, List.getElem?_cons_succ]; rfl) (by kernel_rfl) (by decide +kernel) (by decide +kernel) (by exact fun _ _ _ h => h) (Or.inl ⟨by rfl, ?_⟩) (by assumption) ?_; rotate_left; (· ((intro w hSw); (try dsimp only at hSw); go_simp; (try with_reducible rfl))); (try simp only [Act.put, List.setIfInBounds_toArray, List.set_cons_zero, List.set_cons_succ]))
      (refine wpAnyH_take (i := 2) (oi := _) (v := ?_) (by simp only [List.getElem?_toArray, List.getElem?_cons_zero, List.getElem?_cons_succ]; rfl) (by kernel_rfl) (by decide +kernel) (by decide +kernel) (by exact fun _ _ _ h => h) (Or.inl ⟨by rfl, ?_⟩) (by assumption) ?_; rotate_left; (· ((intro w hSw); (try dsimp only at hSw); go_simp; (try with_reducible rfl))); (try simp only [Act.put, List.setIfInBounds_toArray, List.set_cons_zero, List.set_cons_succ]))
      (refine wpAnyH_take (i := 3) (oi := _) (v := ?_) (by simp only [List.getElem?_toArray, List.getElem?_cons_zero, List.getElem?_cons_succ]; rfl) (by kernel_rfl) (by decide +kernel) (by decide +kernel) (by exact fun _ _ _ h => h) (Or.inl ⟨by rfl, ?_⟩) (by assumption) ?_; rotate_left; (· ((intro w hSw); (try dsimp only at hSw); go_simp; (try with_reducible rfl))); (try simp only [Act.put, List.setIfInBounds_toArray, List.set_cons_zero, List.set_cons_succ]))
      (refine wpAnyH_take (i := 4) (oi := _) (v := ?_) (by simp only [List.getElem?_toArray, List.getElem?_cons_zero, List.getElem?_cons_succ]; rfl) (by kernel_rfl) (by decide +kernel) (by decide +kernel) (by exact fun _ _ _ h => h) (Or.inl ⟨by rfl, ?_⟩) (by assumption) ?_; rotate_left; (· ((intro w hSw); (try dsimp only at hSw); go_simp; (try with_reducible rfl))); (try simp only [Act.put, List.setIfInBounds_toArray, List.set_cons_zero, List.set_cons_succ]))
      (refine wpAnyH_take (i := 5) (oi := _) (v := ?_) (by simp only [List.getElem?_toArray, List.getElem?_cons_zero, List.getElem?_cons_succ]; rfl) (by kernel_rfl) (by decide +kernel) (by decide +kernel) (by exact fun _ _ _ h => h) (Or.inl ⟨by rfl, ?_⟩) (by assumption) ?_; rotate_left; (· ((intro w hSw); (try dsimp only at hSw); go_simp; (try with_reducible rfl))); (try simp only [Act.put, List.setIfInBounds_toArray, List.set_cons_zero, List.set_cons_succ]))
      (refine wpAnyH_take (i := 6) (oi := _) (v := ?_) (by simp only [List.getElem?_toArray, List.getElem?_cons_zero, List.getElem?_cons_succ]; rfl) (by kernel_rfl) (by decide +kernel) (by decide +kernel) (by exact fun _ _ _ h => h) (Or.inl ⟨by rfl, ?_⟩) (by assumption) ?_; rotate_left; (· ((intro w hSw); (try dsimp only at hSw); go_simp; (try with_reducible rfl))); (try simp only [Act.put, List.setIfInBounds_toArray, List.set_cons_zero, List.set_cons_succ]))
      (refine wpAnyH_take (i := 7) (oi := _) (v := ?_) (by simp only [List.getElem?_toArray, List.getElem?_cons_zero, List.getElem?_cons_succ]; rfl) (by kernel_rfl) (by decide +kernel) (by decide +kernel) (by exact fun _ _ _ h => h) (Or.inl ⟨by rfl, ?_⟩) (by assumption) ?_; rotate_left; (· ((intro w hSw); (try dsimp only at hSw); go_simp; (try with_reducible rfl))); (try simp only [Act.put, List.setIfInBounds_toArray, List.set_cons_zero, List.set_cons_succ]))
      (refine wpAnyH_take (i := 9) (oi := _) (v := ?_) (by simp only [List.getElem?_toArray, List.getElem?_cons_zero, List.getElem?_cons_succ]; rfl) (by kernel_rfl) (by decide +kernel) (by decide +kernel) (by exact fun _ _ _ h => h) (Or.inl ⟨by rfl, ?_⟩) (by assumption) ?_; rotate_left; (· ((intro w hSw); (try dsimp only at hSw); go_simp; (try with_reducible rfl))); (try simp only [Act.put, List.setIfInBounds_toArray, List.set_cons_zero, List.set_cons_succ]))
      (refine wpAnyH_take (i := 10) (oi := _) (v := ?_) (by simp only [List.getElem?_toArray, List.getElem?_cons_zero, List.getElem?_cons_succ]; rfl) (by kernel_rfl) (by decide +kernel) (by decide +kernel) (by exact fun _ _ _ h => h) (Or.inl ⟨by rfl, ?_⟩) (by assumption) ?_; rotate_left; (· ((intro w hSw); (try dsimp only at hSw); go_simp; (try with_reducible rfl))); (try simp only [Act.put, List.setIfInBounds_toArray, List.set_cons_zero, List.set_cons_succ]))
      repeat' (first
        | (refine wpAnyH_take (i := 12) (oi := _) (v := ?_) (by simp only [List.getElem?_toArray, List.getElem?_cons_zero, List.getElem?_cons_succ]; rfl) (by kernel_rfl) (by decide +kernel) (by decide +kernel) (by exact fun _ _ _ h => h) (Or.inl ⟨by rfl, ?_⟩) (by assumption) ?_; rotate_left; (· ((intro w hSw); (try dsimp only at hSw); go_simp; (try with_reducible rfl))); (try simp only [Act.put, List.setIfInBounds_toArray, List.set_cons_zero, List.set_cons_succ]))
        | (refine wpAnyH_ready (rs := [8]) (by decide +kernel) (by simp) (AllReadyH.cons (by simp only [List.getElem?_toArray, List.getElem?_cons_zero, List.getElem?_cons_succ]; rfl) (fun K hK => ?_) AllReadyH.nil); all_goals ((first | fail | (go_simp; (first | ((with_reducible refine (HF2.out _).mono ?_); rintro e w5 ⟨rfl, hb5⟩; (have SV5 := Lib.hid ((SV4.out.below (Below.drew (Below.refl _ _))).below hb5)); (have hW5 : Below w4.heap.size w4 w5 := (Below.drew (Below.refl _ _)).trans hb5)) | ((with_reducible refine (L3.out _ hW5).mono ?_); rintro e w6 ⟨a6, c6, rfl, ho6, hg6⟩; (have SV6 := Lib.hid (SV5.out.gr hg6 HOX4.out)); obtain ⟨O6, hO6⟩ : ∃ O6, O6 = O4 ++ r.er.give (halfN 32 n k 1) (k + 1) tp := ⟨_, rfl⟩; rw [← hO6] at ho6 hg6 ⊢; have HO6E := Lib.hid hO6; clear hO6) | skip))); (refine hK.out _ _ ?_ (fun hHeld => ?_)); (· ((try dsimp only); (first | (first | (go_simp; done) | (simp [*, go_sem, World.cell?_alloc_past]; done) | (simp [*, go_sem, World.cell?_alloc_past, World.cell?_setCell_far]; done)) | exact SV6.out.say | exact SV5.out.say | trivial))); (clear hK K; (try simp only [Act.put, List.setIfInBounds_toArray, List.set_cons_zero, List.set_cons_succ]))))
        | (refine wpAnyH_ready (rs := [11]) (by decide +kernel) (by simp) (AllReadyH.cons (by simp only [List.getElem?_toArray, List.getElem?_cons_zero, List.getElem?_cons_succ]; rfl) (fun K hK => ?_) AllReadyH.nil); all_goals ((first | fail | (go_simp; (first | ((with_reducible refine (HF2.out _).mono ?_); rintro e w5 ⟨rfl, hb5⟩; (have SV5 := Lib.hid ((SV4.out.below (Below.drew (Below.refl _ _))).below hb5)); (have hW5 : Below w4.heap.size w4 w5 := (Below.drew (Below.refl _ _)).trans hb5)) | ((with_reducible refine (L3.out _ hW5).mono ?_); rintro e w6 ⟨a6, c6, rfl, ho6, hg6⟩; (have SV6 := Lib.hid (SV5.out.gr hg6 HOX4.out)); obtain ⟨O6, hO6⟩ : ∃ O6, O6 = O4 ++ r.er.give (halfN 32 n k 1) (k + 1) tp := ⟨_, rfl⟩; rw [← hO6] at ho6 hg6 ⊢; have HO6E := Lib.hid hO6; clear hO6) | skip))); (refine hK.out _ _ ?_ (fun hHeld => ?_)); (· ((try dsimp only); (first | (first | (go_simp; done) | (simp [*, go_sem, World.cell?_alloc_past]; done) | (simp [*, go_sem, World.cell?_alloc_past, World.cell?_setCell_far]; done)) | exact SV6.out.say | exact SV5.out.say | trivial))); (clear hK K; (try simp only [Act.put, List.setIfInBounds_toArray, List.set_cons_zero, List.set_cons_succ]))))
        | (refine wpAnyH_done (by decide +kernel) ?_ _)
        | fail)
      go_goals
      have HG6 := Lib.hid (HG4.out.trans ((Gr.of_below _ hW5).trans hg6))
      have HO6 := Lib.hid ho6
      have HEE6 : Hid (O6 = O ++ (FT.node b p h l r).er.give n k ab) := by show _ = _; rw [← HEE.out, HO6E.out, HO4E.out]
      clear hHeld hb5 hW5 ho6 hg6 s0 s1 s2 s3 s4 s5 s6 SV4 SV5 SV6 HG4 HOX4 L3 HEE
      go_wp2_with fail
      refine bodyPost_ret (v := .slice a6 O6.length c6) (by simp [results, Try.results56, go_sem]) rfl ?_
      unfold GiveSays
      rw [← HEE6.out]
      exact ⟨_, _, rfl, HO6.out, HG6.out⟩
theorem give_any (w0 : World) (B' : Nat) (S : Nat → Value) : ∀ t : FT, GiveP w0 B' S t
  | .leaf b h => give_step w0 B' S _ (fun _ _ _ _ _ e => by cases e)
  | .node b p h l r => give_step w0 B' S _ (fun _ _ _ _ _ e => by cases e; exact ⟨give_any w0 B' S l, give_any w0 B' S r⟩)
end Go.Proofs.Ytoecmoicaklbaaa

/- Contract: fewest.Fewest. -/
set_option linter.unusedVariables false
set_option linter.unusedSimpArgs false
namespace Go.Proofs.Ytoecmoicaklbaaa
open Go Go.RowKit Go.Sort Wc Wk

theorem fn1_any (x : Nat × Nat × Nat) (w : World) : Calls Try.prog 52 #[.agg #[.bool false, .int .u64 (hiOf false x.1), .int .u64 (loOf x.1), .int .i64 x.2.1, .int .i64 x.2.2]] w fun e w' => e = .returned (.bool false) ∧ Below w.heap.size w w' := by
  go_enter Try.func52, Try.ntmps52
  go_wp2_with fail
  go_returns
  exact ⟨rfl, (Below.refl _ _).alloc (Nat.le_refl _) _⟩

set_option maxHeartbeats 2000000 in
theorem index1_any (a : Option Addr) (cap : Nat) (xs : List (Nat × Nat × Nat)) (w : World) (hs : Sl w 5 (.slice a xs.length cap) (xs.map routeCells)) (hl : xs.length ≤ 1000) (ha : ∀ x, a = some x → x.block < w.heap.size) :
    Calls Try.prog 89 #[.slice a xs.length cap, .func (.func 52) #[] #[]] w fun e w' => (e = .returned (.int .i64 (-1))) ∧ Below w.heap.size w w' := by
  have HS := Lib.hid hs
  have HA := Lib.hid ha


  clear hs ha
  go_enter Try.func89, Try.ntmps89
  go_wp2_with fail
  go_loopw [8] (fun i wr => ∃ j : Nat, j ≤ xs.length ∧ i = .int .i64 j ∧ Hid (Below w.heap.size w wr)) (fun i _ => xs.length - (intOf i).toNat)
  case atStart => exact ⟨0, Nat.zero_le _, rfl, Below.refl _ _⟩
  case round =>
    obtain ⟨j, hj, rfl, HB⟩ := hrel
    have hzr := HB.out.size
    by_cases hlt : j < xs.length
    · obtain ⟨x, hx⟩ : ∃ s, xs[j]? = some s := ⟨_, List.getElem?_eq_getElem hlt⟩
      obtain ⟨g, off, rfl, hg, hgw, d0, d1, d2, d3, d4⟩ := Sl.rv HS.out HB.out HA.out hx
      have F := Lib.hid (fun w => fn1_any x w)
      clear hx
      go_wp2_with fail
      refine (F.out _).mono ?_
      rintro e w2 ⟨rfl, hb2⟩
      have HB2 := Lib.hid (HB.out.trans (hb2.mono hzr))
      clear hb2
      go_wp2_with fail
      go_roundw
      case rel => exact ⟨j + 1, by omega, by go_num, HB2⟩
      case measure => simp [intOf]; omega
    · obtain rfl : j = xs.length := by omega
      go_wp2_with fail
      exact bodyPost_ret (v := .int .i64 (-1)) (by simp [results, Try.results89, go_sem]) rfl ⟨rfl, HB.out⟩
theorem contains1_any (a : Option Addr) (cap : Nat) (xs : List (Nat × Nat × Nat)) (w : World) (hs : Sl w 5 (.slice a xs.length cap) (xs.map routeCells)) (hl : xs.length ≤ 1000) (ha : ∀ x, a = some x → x.block < w.heap.size) :
    Calls Try.prog 51 #[.slice a xs.length cap, .func (.func 52) #[] #[]] w fun e w' => e = .returned (.bool false) ∧ Below w.heap.size w w' := by
  have IX := Lib.hid (index1_any a cap xs w hs hl ha)
  clear hs ha
  go_enter Try.func51, Try.ntmps51
  go_wp2_with fail
  refine IX.out.mono ?_
  rintro e w1 ⟨rfl, hb1⟩
  go_wp2_with fail
  go_returns
  exact ⟨by simp, hb1⟩
theorem fn2_any (x : Nat × Nat × Nat) (w : World) (hx : x.2.1 ≤ 32) : Calls Try.prog 53 #[.agg #[.bool false, .int .u64 (hiOf false x.1), .int .u64 (loOf x.1), .int .i64 x.2.1, .int .i64 x.2.2]] w fun e w' => e = .returned (.bool (decide (x.2.1 = 0))) ∧ Below w.heap.size w w' := by
  by_cases h : x.2.1 = 0
  · rw [decide_eq_true h, h]
    clear h hx
    go_enter Try.func53, Try.ntmps53
    go_wp2_with fail
    go_returns
    exact ⟨by simp, (Below.refl _ _).alloc (Nat.le_refl _) _⟩
  · rw [decide_eq_false h]
    have h1 : ¬ ((x.2.1 : Int) = 0) := by omega
    have h2 : ((x.2.1 : Int) == 0) = false := by rw [beq_eq_false_iff_ne]; exact h1
    clear h
    go_enter Try.func53, Try.ntmps53
    go_wp2_with fail
    go_returns
    exact ⟨by simp [h1], (Below.refl _ _).alloc (Nat.le_refl _) _⟩

set_option maxHeartbeats 2000000 in
theorem index2_any (a : Option Addr) (cap : Nat) (xs : List (Nat × Nat × Nat)) (w : World) (hs : Sl w 5 (.slice a xs.length cap) (xs.map routeCells)) (hl : xs.length ≤ 1000) (ha : ∀ x, a = some x → x.block < w.heap.size) (h32 : ∀ x ∈ xs, x.2.1 ≤ 32) (hex : ∃ x ∈ xs, x.2.1 = 0) :
    Calls Try.prog 89 #[.slice a xs.length cap, .func (.func 53) #[] #[]] w fun e w' => (∃ i : Nat, e = .returned (.int .i64 (i : Nat))) ∧ Below w.heap.size w w' := by
  have HS := Lib.hid hs
  have HA := Lib.hid ha
  have H32 := Lib.hid h32
  have HEX := Lib.hid hex
  clear hs ha h32 hex
  go_enter Try.func89, Try.ntmps89
  go_wp2_with fail
  go_loopw [8] (fun i wr => ∃ j : Nat, j ≤ xs.length ∧ i = .int .i64 j ∧ Hid (∀ m, m < j → ∀ x, xs[m]? = some x → x.2.1 ≠ 0) ∧ Hid (Below w.heap.size w wr)) (fun i _ => xs.length - (intOf i).toNat)
  case atStart => exact ⟨0, Nat.zero_le _, rfl, fun m hm => absurd hm (Nat.not_lt_zero m), Below.refl _ _⟩
  case round =>
    obtain ⟨j, hj, rfl, HNO, HB⟩ := hrel
    have hzr := HB.out.size
    by_cases hlt : j < xs.length
    · obtain ⟨x, hx⟩ : ∃ s, xs[j]? = some s := ⟨_, List.getElem?_eq_getElem hlt⟩
      obtain ⟨g, off, rfl, hg, hgw, d0, d1, d2, d3, d4⟩ := Sl.rv HS.out HB.out HA.out hx
      have HX := Lib.hid hx
      have F := Lib.hid (fun w => fn2_any x w (H32.out x (List.mem_of_getElem? hx)))
      clear hx
      by_cases h0 : x.2.1 = 0
      · rw [decide_eq_true h0] at F
        clear h0
        go_wp2_with fail
        refine (F.out _).mono ?_
        rintro e w2 ⟨rfl, hb2⟩
        have HB2 := Lib.hid (HB.out.trans (hb2.mono hzr))
        clear hb2
        go_wp2_with fail
        exact bodyPost_ret (v := .int .i64 (j : Nat)) (by simp [results, Try.results89, go_sem]) rfl ⟨⟨j, rfl⟩, HB2.out⟩
      · have HN2 : Hid (∀ m, m < j + 1 → ∀ x, xs[m]? = some x → x.2.1 ≠ 0) := fun m hm y hy => by
          by_cases e : m = j
          · subst e
            rw [HX.out] at hy
            cases hy
            exact h0
          · exact HNO.out m (by omega) y hy
        rw [decide_eq_false h0] at F
        clear h0 HNO
        go_wp2_with fail
        refine (F.out _).mono ?_
        rintro e w2 ⟨rfl, hb2⟩
        have HB2 := Lib.hid (HB.out.trans (hb2.mono hzr))
        clear hb2
        go_wp2_with fail
        go_roundw
        case rel => exact ⟨j + 1, by omega, by go_num, HN2, HB2⟩
        case measure => simp [intOf]; omega
    · exfalso
      obtain ⟨x, hx, h0⟩ := HEX.out
      obtain ⟨m, hm⟩ := List.mem_iff_getElem?.1 hx
      exact HNO.out m (by have := (List.getElem?_eq_some_iff.1 hm).1; omega) x hm h0
theorem contains2_any (a : Option Addr) (cap : Nat) (xs : List (Nat × Nat × Nat)) (w : World) (hs : Sl w 5 (.slice a xs.length cap) (xs.map routeCells)) (hl : xs.length ≤ 1000) (ha : ∀ x, a = some x → x.block < w.heap.size) (h32 : ∀ x ∈ xs, x.2.1 ≤ 32) (hex : ∃ x ∈ xs, x.2.1 = 0) :
    Calls Try.prog 51 #[.slice a xs.length cap, .func (.func 53) #[] #[]] w fun e w' => e = .returned (.bool true) ∧ Below w.heap.size w w' := by
  have IX := Lib.hid (index2_any a cap xs w hs hl ha h32 hex)
  clear hs ha h32 hex
  go_enter Try.func51, Try.ntmps51
  go_wp2_with fail
  refine IX.out.mono ?_
  rintro e w1 ⟨⟨i, rfl⟩, hb1⟩
  have hi : (i : Int) ≥ 0 := by omega
  go_wp2_with fail
  go_returns
  exact ⟨by simp, hb1⟩
theorem depth_tell (g : Nat) : ∀ t : HT, (t.tell g).depth = t.depth
  | .leaf _ => rfl
  | .node l r => by simp only [HT.tell, HT.depth, depth_tell g l, depth_tell g r]
theorem leaves_tell (g : Nat) : ∀ t : HT, (t.tell g).leaves = t.leaves
  | .leaf _ => rfl
  | .node l r => by simp only [HT.tell, HT.leaves, leaves_tell g l, leaves_tell g r]
theorem put_bounds (g : Nat) : ∀ (bs : List Bool) (t : HT), (HT.put bs g t).depth ≤ max t.depth bs.length ∧ (HT.put bs g t).leaves ≤ t.leaves + bs.length
  | [], t => by
    have h1 := depth_tell g t
    have h2 := leaves_tell g t
    have e : HT.put [] g t = t.tell g := by cases t <;> rfl
    rw [e, h1, h2]
    simp
  | d :: bs, .leaf h => by
    obtain ⟨h1, h2⟩ := put_bounds g bs (.leaf h)
    cases d <;> simp only [HT.put, HT.depth, HT.leaves, List.length_cons, if_true, Bool.false_eq_true, if_false] at h1 h2 ⊢ <;> omega
  | d :: bs, .node l r => by
    obtain ⟨h1, h2⟩ := put_bounds g bs l
    obtain ⟨h3, h4⟩ := put_bounds g bs r
    cases d <;> simp only [HT.put, HT.depth, HT.leaves, List.length_cons, if_true, Bool.false_eq_true, if_false] at h1 h2 h3 h4 ⊢ <;> omega
theorem growL_bounds : ∀ (n : Nat) (ys : List (Nat × Nat × Nat)), ys.length = n → (∀ x ∈ ys, x.2.1 ≤ 32) → (growL ys).depth ≤ 32 ∧ (growL ys).leaves ≤ 1 + 32 * n
  | 0, ys, h, _ => by
    obtain rfl := List.eq_nil_of_length_eq_zero h
    simp [growL, HT.depth, HT.leaves]
  | n + 1, ys, h, hk => by
    rcases List.eq_nil_or_concat ys with rfl | ⟨zs, x, rfl⟩
    · simp at h
    · rw [List.concat_eq_append] at *
      obtain ⟨h1, h2⟩ := growL_bounds n zs (by simpa using h) (fun y hy => hk y (List.mem_append_left _ hy))
      obtain ⟨h3, h4⟩ := put_bounds x.2.2 (bitsL x.1 x.2.1) (growL zs)
      have h5 := hk x (by simp)
      rw [growL_snoc]
      rw [bits_len] at h3 h4
      omega
/-- The fewest routes of a list. -/
def fewL (ys : List (Nat × Nat × Nat)) : List (Nat × Nat × Nat) := (growL ys).give 0 0 0
set_option maxHeartbeats 2000000 in
theorem fewest_any (a : Option Addr) (cap : Nat) (rs : List (Nat × Nat × Nat)) (w : World) (hs : Sl w 5 (.slice a rs.length cap) (rs.map routeCells)) (hok : RtOk rs) (hex : ∃ x ∈ rs, x.2.1 = 0) (ha : ∀ x, a = some x → x.block < w.heap.size) :
    Calls Try.prog 22 #[.slice a rs.length cap] w fun e w' => ∃ a' c' ys, e = .returned (.tuple #[.slice a' (fewL ys).length c', .int .i64 0]) ∧ SortL rs ys ∧ Wk.Own w' w.heap.size 49 5 (.slice a' (fewL ys).length c') ((fewL ys).map routeCells) ∧ Below w.heap.size w w' := by
  have h32 : ∀ x ∈ rs, x.2.1 ≤ 32 := fun x hx => (vp_iff.1 (hok.vp x hx)).2.1
  have hlen := hok.len
  have HC := Lib.hid (check_any a cap rs.length rs w rfl hs hok)
  have lift : ∀ W, Below w.heap.size w W → Sl W 5 (.slice a rs.length cap) (rs.map routeCells) ∧ ∀ x, a = some x → x.block < W.heap.size := fun W hb => ⟨hs.below hb, fun x hx => Nat.lt_of_lt_of_le (ha x hx) hb.size⟩
  have H1 := Lib.hid (fun W (hb : Below w.heap.size w W) => contains1_any a cap rs W (lift W hb).1 (by omega) (lift W hb).2)
  have H2 := Lib.hid (fun W (hb : Below w.heap.size w W) => contains2_any a cap rs W (lift W hb).1 (by omega) (lift W hb).2 h32 hex)
  have HG := Lib.hid (fun W (hb : Below w.heap.size w W) => grow_any a cap rs W (lift W hb).1 hlen hok.vp (lift W hb).2)
  have H32 := Lib.hid h32
  clear hs hok hex ha lift h32
  go_enter Try.func22, Try.ntmps22
  go_wp2_with fail
  refine HC.out.mono ?_
  rintro e w1 ⟨rfl, hb1⟩
  have HB1 := Lib.hid hb1
  clear hb1 HC
  go_wp2_with fail
  refine (H1.out w1 HB1.out).mono ?_
  rintro e w2 ⟨rfl, hb2⟩
  have HB2 := Lib.hid (HB1.out.trans (hb2.mono HB1.out.size))
  clear hb2 H1
  go_wp2_with fail
  refine (H2.out w2 HB2.out).mono ?_
  rintro e w3 ⟨rfl, hb3⟩
  have HB3 := Lib.hid (HB2.out.trans (hb3.mono HB2.out.size))
  clear hb3 H2
  go_wp2_with fail
  refine (HG.out w3 HB3.out).mono ?_
  rintro e w4 ⟨t, ys, rfl, hsr, her, hd, hbl, hb4⟩
  have HB4 := Lib.hid (HB3.out.trans (hb4.mono HB3.out.size))
  have HSR := Lib.hid hsr
  have hbd := growL_bounds ys.length ys rfl (fun x hx => H32.out x (hsr.1.mem_iff.1 hx))
  have hyl : ys.length ≤ 60 := by rw [hsr.1.length_eq]; exact hlen
  have HER := Lib.hid her
  have HBD : Hid (t.er.depth ≤ 32 ∧ t.er.leaves ≤ 5000) := by show _ ∧ _; rw [her]; omega
  have HD := Lib.hid hd
  have HBL := Lib.hid hbl
  have CH := Lib.hid (choose_any t w4 hd HBD.out.2)
  clear hb4 hsr her hd hbl hbd hyl HG H32
  go_wp2_with fail
  refine CH.out.mono ?_
  rintro e w5 ⟨S, rfl, hd5, hs5, k5⟩
  have HB5 := Lib.hid (HB4.out.trans (k5.below HB4.out.size (fun b _ hb h => by have := HBL.out b h; have := HB3.out.size; omega)))
  have GV : Hid (Calls Try.prog 56 #[ptrN t.root, .agg #[.bool false, .int .u64 0, .int .u64 0, .int .i64 0], .int .i64 0, .slice none 0 0] w5 (GiveSays w5 w5.heap.size (.slice none 0 0) [] (t.er.give 0 0 0))) :=
    give_any w5 w4.heap.size S t w5 0 0 0 none 0 [] hd5 hs5 (Below.refl _ _) (vp_iff.2 ⟨Nat.two_pow_pos _, Nat.zero_le _, Nat.zero_mod _⟩) HBD.out.1 HBD.out.2 (Wk.Own.nil _ _ _ _) (by have := HBD.out.2; simp; omega)
  obtain ⟨vS, hvS⟩ : ∃ v, v = S t.root := ⟨_, rfl⟩
  rw [← hvS]
  clear hvS hd5 hs5 k5 CH HD
  go_wp2_with fail
  refine GV.out.mono ?_
  rintro e w6 ⟨a6, c6, rfl, ho6, hg6⟩
  rw [List.nil_append] at ho6 hg6 ⊢
  have e6 : t.er.give 0 0 0 = fewL ys := by rw [HER.out]; rfl
  rw [e6] at ho6 hg6 ⊢
  have HO6 := Lib.hid (ho6.base HB5.out.size)
  have HB6 := Lib.hid (HB5.out.trans (hg6.low HB5.out.size (fun z hz => by cases hz)))
  clear e6 ho6 hg6 GV HER
  obtain ⟨L, hL⟩ : ∃ L, L = fewL ys := ⟨_, rfl⟩
  rw [← hL] at HO6 ⊢
  have HL := Lib.hid hL
  clear hL
  go_wp2_with fail
  refine bodyPost_ret (v := .tuple #[.slice a6 L.length c6, .int .i64 0]) (by simp [results, Try.results22, go_sem]) rfl ⟨a6, c6, ys, ?_⟩
  rw [← HL.out]
  exact ⟨rfl, HSR.out, HO6.out, HB6.out⟩
end Go.Proofs.Ytoecmoicaklbaaa
