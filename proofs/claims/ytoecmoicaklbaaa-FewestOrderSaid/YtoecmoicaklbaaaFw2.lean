
/- Trees of fewest: a tree with a hole; putting a prefix; contract of grow. -/
import Derived.Test.YtoecmoicaklbaaaFw1
import Derived.Test.YtoecmoicaklbaaaSrR
import Derived.Test.YtoecmoicaklbaaaRg1
set_option linter.unusedVariables false
set_option linter.unusedSimpArgs false
namespace Go.Proofs.Ytoecmoicaklbaaa
open Go Go.RowKit Go.Sort Wc Wk

/-- The tree without its blocks. -/
inductive HT where
  | leaf (h : Nat)
  | node (l r : HT)
def FT.er : FT → HT
  | .leaf _ h => .leaf h
  | .node _ _ _ l r => .node l.er r.er
def HT.tell (g : Nat) : HT → HT
  | .leaf _ => .leaf g
  | .node l r => .node (l.tell g) (r.tell g)
theorem er_tell (g : Nat) : ∀ t : FT, (t.tell g).er = t.er.tell g
  | .leaf b h => rfl
  | .node b p h l r => by simp only [FT.tell, FT.er, HT.tell, er_tell g l, er_tell g r]
/-- A hop for all below the place that bits lead to. -/
def HT.put : List Bool → Nat → HT → HT
  | [], g, t => t.tell g
  | d :: bs, g, .leaf h => if d then .node (.leaf h) (HT.put bs g (.leaf h)) else .node (HT.put bs g (.leaf h)) (.leaf h)
  | d :: bs, g, .node l r => if d then .node l (HT.put bs g r) else .node (HT.put bs g l) r
def plugH : List (Bool × HT) → HT → HT
  | [], t => t
  | (d, s) :: c, t => plugH c (if d then .node s t else .node t s)
structure FF where
  d : Bool
  b : Nat
  p : Nat
  h : Nat
  sib : FT
def FF.fill (f : FF) (t : FT) : FT := if f.d then .node f.b f.p f.h f.sib t else .node f.b f.p f.h t f.sib
def plugF : List FF → FT → FT
  | [], t => t
  | f :: c, t => plugF c (f.fill t)
def FF.e (f : FF) : Bool × HT := (f.d, f.sib.er)
theorem FF.fill_er (f : FF) (t : FT) : (f.fill t).er = if f.d then .node f.sib.er t.er else .node t.er f.sib.er := by unfold FF.fill; split <;> rfl
theorem FF.fill_root (f : FF) (t : FT) : (f.fill t).root = f.b := by unfold FF.fill; split <;> rfl
theorem er_plug : ∀ (c : List FF) (t : FT), (plugF c t).er = plugH (c.map FF.e) t.er
  | [], t => rfl
  | f :: c, t => by
    show (plugF c (f.fill t)).er = plugH (c.map FF.e) (if f.d then .node f.sib.er t.er else .node t.er f.sib.er)
    rw [er_plug c (f.fill t), FF.fill_er]
/-- The cells around a hole. -/
def ctxC (S : Nat → Value) : List FF → Nat → List (Nat × List Value)
  | [], _ => []
  | f :: c, r => (f.b, nodeC (ptrN f.p) f.h (S f.b)) :: (f.p, if f.d then [ptrN f.sib.root, ptrN r] else [ptrN r, ptrN f.sib.root]) :: (f.sib.cells S ++ ctxC S c f.b)
theorem plugF_cells (S : Nat → Value) : ∀ (c : List FF) (t : FT), ((plugF c t).cells S).Perm (ctxC S c t.root ++ t.cells S)
  | [], t => List.Perm.refl _
  | f :: c, t => by
    have e : ((f.fill t).cells S).Perm ((f.b, nodeC (ptrN f.p) f.h (S f.b)) :: (f.p, if f.d then [ptrN f.sib.root, ptrN t.root] else [ptrN t.root, ptrN f.sib.root]) :: (f.sib.cells S ++ t.cells S)) := by
      unfold FF.fill
      split
      · exact List.Perm.refl _
      · exact ((List.perm_append_comm).cons _).cons _
    have h := plugF_cells S c (f.fill t)
    rw [FF.fill_root] at h
    refine h.trans ((e.append_left _).trans ?_)
    simp only [ctxC, List.cons_append]
    refine List.perm_append_comm.trans ?_
    simp only [List.cons_append]
    refine List.Perm.cons _ (List.Perm.cons _ ?_)
    rw [List.append_assoc, List.append_assoc]
    exact (List.perm_append_comm).append_left _
theorem plugF_root : ∀ (c : List FF) (t t' : FT), t.root = t'.root → (plugF c t).root = (plugF c t').root
  | [], t, t', h => h
  | f :: c, t, t', h => plugF_root c _ _ (by rw [FF.fill_root, FF.fill_root])
theorem plugF_blocks (c : List FF) (t : FT) : (plugF c t).blocks.Perm ((ctxC (fun _ => nilS) c t.root).map Prod.fst ++ t.blocks) := by
  have h := (plugF_cells (fun _ => nilS) c t).map Prod.fst
  rw [List.map_append, FT.fst_cells, FT.fst_cells] at h
  exact h
def bitsL (n k : Nat) : List Bool := (List.range k).map (fun i => decide (bitAt false n i = 1))
theorem bits_len (n k : Nat) : (bitsL n k).length = k := by simp [bitsL]
theorem bits_drop {n k j : Nat} (h : j < k) : (bitsL n k).drop j = decide (bitAt false n j = 1) :: (bitsL n k).drop (j + 1) := by
  rw [List.drop_eq_getElem_cons (by rw [bits_len]; exact h)]
  simp [bitsL]
theorem put_split (d : Bool) (bs : List Bool) (g h : Nat) : HT.put (d :: bs) g (.node (.leaf h) (.leaf h)) = HT.put (d :: bs) g (.leaf h) := by cases d <;> rfl

/-- Behind split a node has both parts. -/
def SplitTo (w : World) (C : List (Nat × List Value)) (t : FT) (e : Ending) (w' : World) : Prop :=
  e = .returned (.tuple #[]) ∧ ∃ b p h l r, b = t.root ∧ Hd w' (C ++ (FT.node b p h l r).cells (fun _ => nilS)) ∧ (∀ d bs g, HT.put (d :: bs) g (FT.node b p h l r).er = HT.put (d :: bs) g t.er) ∧ (∀ x ∈ (FT.node b p h l r).blocks, x ∈ t.blocks ∨ w.heap.size ≤ x) ∧ Chg w w' (fun k _ => k = t.root)
theorem split_any (C : List (Nat × List Value)) (t : FT) (w : World) (hd : Hd w (C ++ t.cells (fun _ => nilS))) : Calls Try.prog 93 #[ptrN t.root] w (SplitTo w C t) := by
  cases t with
  | leaf b h =>
    refine (split_leaf b h w (hd.rx (b, nodeC (.pointer none) h nilS) (List.mem_append_right _ (by simp [FT.cells])))).mono ?_
    rintro e w' ⟨rfl, p, bl, br, h1, h2, h3, h4, c⟩
    refine ⟨rfl, b, p, h, .leaf bl h, .leaf br h, rfl, ?_, fun d bs g => put_split d bs g h, fun x hx => ?_, c⟩
    · have hd' : Hd w (C ++ ((FT.leaf b h).cells (fun _ => nilS) ++ [])) := by rw [List.append_nil]; exact hd
      have := hd'.swap (ts' := (FT.node b p h (.leaf bl h) (.leaf br h)).cells (fun _ => nilS)) (c.mono (fun _ _ e => by simp [FT.cells, e])) h4 (fun x hx => by
        simp only [FT.fst_cells, FT.blocks, List.mem_cons, List.mem_append, List.not_mem_nil, or_false] at hx
        rcases hx with rfl | rfl | rfl | rfl
        · exact .inl (by simp [FT.cells])
        · exact .inr h1
        · exact .inr h2
        · exact .inr h3)
      rwa [List.append_nil] at this
    · simp only [FT.blocks, List.mem_cons, List.mem_append, List.not_mem_nil, or_false] at hx ⊢
      rcases hx with rfl | rfl | rfl | rfl
      · exact .inl rfl
      · exact .inr h1
      · exact .inr h2
      · exact .inr h3
  | node b p h l r =>
    refine (split_node b p h nilS w (hd.rx (b, nodeC (ptrN p) h nilS) (List.mem_append_right _ (by simp [FT.cells])))).mono ?_
    rintro e w' ⟨rfl, hb⟩
    exact ⟨rfl, b, p, h, l, r, rfl, hd.below hb, fun _ _ _ => rfl, fun x hx => .inl hx, Chg.of_below hb _⟩
/-- Where the way down of a prefix stands. -/
structure DownSt (V wr : World) (t0 : FT) (n k g j : Nat) (c : List FF) (t : FT) : Prop where
  hd : Hd wr (ctxC (fun _ => nilS) c t.root ++ t.cells (fun _ => nilS))
  rt : (plugF c t).root = t0.root
  eq : plugH (c.map FF.e) (HT.put ((bitsL n k).drop j) g t.er) = HT.put (bitsL n k) g t0.er
  bl : ∀ b ∈ (plugF c t).blocks, b ∈ t0.blocks ∨ V.heap.size ≤ b
  ch : Chg V wr (fun b _ => b ∈ t0.blocks)
theorem DownSt.step {V wr w' : World} {t0 : FT} {n k g j : Nat} {c : List FF} {t : FT} (h : DownSt V wr t0 n k g j c t) (hj : j < k) {b p hh : Nat} {l r : FT} (hb : b = t.root)
    (h2 : Hd w' (ctxC (fun _ => nilS) c t.root ++ (FT.node b p hh l r).cells (fun _ => nilS))) (h3 : ∀ d bs g, HT.put (d :: bs) g (FT.node b p hh l r).er = HT.put (d :: bs) g t.er) (h4 : ∀ x ∈ (FT.node b p hh l r).blocks, x ∈ t.blocks ∨ wr.heap.size ≤ x) (h5 : Chg wr w' (fun k _ => k = t.root)) (d : Bool) (hd : decide (bitAt false n j = 1) = d) :
    DownSt V w' t0 n k g (j + 1) ((⟨d, b, p, hh, if d then l else r⟩ : FF) :: c) (if d then r else l) := by
  have hfill : (⟨d, b, p, hh, if d then l else r⟩ : FF).fill (if d then r else l) = .node b p hh l r := by cases d <;> rfl
  refine ⟨?_, ?_, ?_, fun x hx => ?_, ?_⟩
  · have e := plugF_cells (fun _ => nilS) [(⟨d, b, p, hh, if d then l else r⟩ : FF)] (if d then r else l)
    simp only [plugF, hfill] at e
    refine h2.perm ?_
    refine (e.append_left _).trans ?_
    simp only [ctxC, List.append_nil, List.cons_append]
    rw [← hb]
    refine List.perm_append_comm.trans ?_
    simp only [List.cons_append]
    refine List.Perm.cons _ (List.Perm.cons _ ?_)
    rw [List.append_assoc, List.append_assoc]
    exact (List.perm_append_comm).append_left _
  · rw [← h.rt]
    show (plugF c _).root = _
    rw [hfill]
    exact plugF_root c _ _ hb
  · rw [← h.eq, bits_drop hj, ← h3, hd]
    show plugH (c.map FF.e) _ = _
    cases d <;> rfl
  · have hx' : x ∈ (plugF c (.node b p hh l r)).blocks := by
      have : plugF ((⟨d, b, p, hh, if d then l else r⟩ : FF) :: c) (if d then r else l) = plugF c (.node b p hh l r) := by show plugF c _ = _; rw [hfill]
      rwa [this] at hx
    have hx2 := (plugF_blocks c _).mem_iff.1 hx'
    rw [show (FT.node b p hh l r).root = t.root from hb] at hx2
    rcases List.mem_append.1 hx2 with h6 | h6
    · exact h.bl x ((plugF_blocks c t).mem_iff.2 (List.mem_append_left _ h6))
    · rcases h4 x h6 with h7 | h7
      · exact h.bl x ((plugF_blocks c t).mem_iff.2 (List.mem_append_right _ h7))
      · exact .inr (Nat.le_trans h.ch.size h7)
  · refine h.ch.trans h5 (fun b' _ hb' e => ?_)
    subst e
    rcases h.bl t.root ((plugF_blocks c t).mem_iff.2 (List.mem_append_right _ t.root_mem)) with h6 | h6
    · exact h6
    · omega
theorem DownSt.below {V wr w' : World} {t0 : FT} {n k g j : Nat} {c : List FF} {t : FT} (h : DownSt V wr t0 n k g j c t) (hb : Below wr.heap.size wr w') : DownSt V w' t0 n k g j c t :=
  ⟨h.hd.below hb, h.rt, h.eq, h.bl, h.ch.trans (Chg.of_below hb _) (fun _ _ _ h => h)⟩
end Go.Proofs.Ytoecmoicaklbaaa
