
/- Trees of fewest: a tree with a hole; putting a prefix; contract of grow. -/
import Derived.Test.YtoecmoicaklbaaaFw1
import Derived.Test.YtoecmoicaklbaaaSrR
import Derived.Test.YtoecmoicaklbaaaRg2
import Derived.Deep.DeepCutAuto
set_option linter.unusedVariables false
set_option linter.unusedSimpArgs false
namespace Go.Proofs.Ytoecmoicaklbaaa
open Go Go.RowKit Go.Sort Wc Wk

/-- The tree without its blocks. -/
inductive HT where
  | leaf (h : Nat)
  | node (l r : HT)
def FT.er : FT → HT
  | .leaf _ h => .leaf h
  | .node _ _ _ l r => .node l.er r.er
def HT.tell (g : Nat) : HT → HT
  | .leaf _ => .leaf g
  | .node l r => .node (l.tell g) (r.tell g)
theorem er_tell (g : Nat) : ∀ t : FT, (t.tell g).er = t.er.tell g
  | .leaf b h => rfl
  | .node b p h l r => by simp only [FT.tell, FT.er, HT.tell, er_tell g l, er_tell g r]
/-- A hop for all below the place that bits lead to. -/
def HT.put : List Bool → Nat → HT → HT
  | [], g, t => t.tell g
  | d :: bs, g, .leaf h => if d then .node (.leaf h) (HT.put bs g (.leaf h)) else .node (HT.put bs g (.leaf h)) (.leaf h)
  | d :: bs, g, .node l r => if d then .node l (HT.put bs g r) else .node (HT.put bs g l) r
def plugH : List (Bool × HT) → HT → HT
  | [], t => t
  | (d, s) :: c, t => plugH c (if d then .node s t else .node t s)
structure FF where
  d : Bool
  b : Nat
  p : Nat
  h : Nat
  sib : FT
def FF.fill (f : FF) (t : FT) : FT := if f.d then .node f.b f.p f.h f.sib t else .node f.b f.p f.h t f.sib
def plugF : List FF → FT → FT
  | [], t => t
  | f :: c, t => plugF c (f.fill t)
def FF.e (f : FF) : Bool × HT := (f.d, f.sib.er)
theorem FF.fill_er (f : FF) (t : FT) : (f.fill t).er = if f.d then .node f.sib.er t.er else .node t.er f.sib.er := by unfold FF.fill; split <;> rfl
theorem FF.fill_root (f : FF) (t : FT) : (f.fill t).root = f.b := by unfold FF.fill; split <;> rfl
theorem er_plug : ∀ (c : List FF) (t : FT), (plugF c t).er = plugH (c.map FF.e) t.er
  | [], t => rfl
  | f :: c, t => by
    show (plugF c (f.fill t)).er = plugH (c.map FF.e) (if f.d then .node f.sib.er t.er else .node t.er f.sib.er)
    rw [er_plug c (f.fill t), FF.fill_er]
/-- The cells around a hole. -/
def ctxC (S : Nat → Value) : List FF → Nat → List (Nat × List Value)
  | [], _ => []
  | f :: c, r => (f.b, nodeC (ptrN f.p) f.h (S f.b)) :: (f.p, if f.d then [ptrN f.sib.root, ptrN r] else [ptrN r, ptrN f.sib.root]) :: (f.sib.cells S ++ ctxC S c f.b)
theorem plugF_cells (S : Nat → Value) : ∀ (c : List FF) (t : FT), ((plugF c t).cells S).Perm (ctxC S c t.root ++ t.cells S)
  | [], t => List.Perm.refl _
  | f :: c, t => by
    have e : ((f.fill t).cells S).Perm ((f.b, nodeC (ptrN f.p) f.h (S f.b)) :: (f.p, if f.d then [ptrN f.sib.root, ptrN t.root] else [ptrN t.root, ptrN f.sib.root]) :: (f.sib.cells S ++ t.cells S)) := by
      unfold FF.fill
      split
      · exact List.Perm.refl _
      · exact ((List.perm_append_comm).cons _).cons _
    have h := plugF_cells S c (f.fill t)
    rw [FF.fill_root] at h
    refine h.trans ((e.append_left _).trans ?_)
    simp only [ctxC, List.cons_append]
    refine List.perm_append_comm.trans ?_
    simp only [List.cons_append]
    refine List.Perm.cons _ (List.Perm.cons _ ?_)
    rw [List.append_assoc, List.append_assoc]
    exact (List.perm_append_comm).append_left _
theorem plugF_root : ∀ (c : List FF) (t t' : FT), t.root = t'.root → (plugF c t).root = (plugF c t').root
  | [], t, t', h => h
  | f :: c, t, t', h => plugF_root c _ _ (by rw [FF.fill_root, FF.fill_root])
theorem plugF_blocks (c : List FF) (t : FT) : (plugF c t).blocks.Perm ((ctxC (fun _ => nilS) c t.root).map Prod.fst ++ t.blocks) := by
  have h := (plugF_cells (fun _ => nilS) c t).map Prod.fst
  rw [List.map_append, FT.fst_cells, FT.fst_cells] at h
  exact h
def bitsL (n k : Nat) : List Bool := (List.range k).map (fun i => decide (bitAt false n i = 1))
theorem bits_len (n k : Nat) : (bitsL n k).length = k := by simp [bitsL]
theorem bits_drop {n k j : Nat} (h : j < k) : (bitsL n k).drop j = decide (bitAt false n j = 1) :: (bitsL n k).drop (j + 1) := by
  rw [List.drop_eq_getElem_cons (by rw [bits_len]; exact h)]
  simp [bitsL]
theorem put_split (d : Bool) (bs : List Bool) (g h : Nat) : HT.put (d :: bs) g (.node (.leaf h) (.leaf h)) = HT.put (d :: bs) g (.leaf h) := by cases d <;> rfl

/-- Behind split a node has both parts. -/
def SplitTo (w : World) (C : List (Nat × List Value)) (t : FT) (e : Ending) (w' : World) : Prop :=
  e = .returned (.tuple #[]) ∧ ∃ b p h l r, b = t.root ∧ Hd w' (C ++ (FT.node b p h l r).cells (fun _ => nilS)) ∧ (∀ d bs g, HT.put (d :: bs) g (FT.node b p h l r).er = HT.put (d :: bs) g t.er) ∧ (∀ x ∈ (FT.node b p h l r).blocks, x ∈ t.blocks ∨ w.heap.size ≤ x) ∧ Chg w w' (fun k _ => k = t.root)
theorem split_any (C : List (Nat × List Value)) (t : FT) (w : World) (hd : Hd w (C ++ t.cells (fun _ => nilS))) : Calls Try.prog 93 #[ptrN t.root] w (SplitTo w C t) := by
  cases t with
  | leaf b h =>
    refine (split_leaf b h w (hd.rx (b, nodeC (.pointer none) h nilS) (List.mem_append_right _ (by simp [FT.cells])))).mono ?_
    rintro e w' ⟨rfl, p, bl, br, h1, h2, h3, h4, c⟩
    refine ⟨rfl, b, p, h, .leaf bl h, .leaf br h, rfl, ?_, fun d bs g => put_split d bs g h, fun x hx => ?_, c⟩
    · have hd' : Hd w (C ++ ((FT.leaf b h).cells (fun _ => nilS) ++ [])) := by rw [List.append_nil]; exact hd
      have := hd'.swap (ts' := (FT.node b p h (.leaf bl h) (.leaf br h)).cells (fun _ => nilS)) (c.mono (fun _ _ e => by simp [FT.cells, e])) h4 (fun x hx => by
        simp only [FT.fst_cells, FT.blocks, List.mem_cons, List.mem_append, List.not_mem_nil, or_false] at hx
        rcases hx with rfl | rfl | rfl | rfl
        · exact .inl (by simp [FT.cells])
        · exact .inr h1
        · exact .inr h2
        · exact .inr h3)
      rwa [List.append_nil] at this
    · simp only [FT.blocks, List.mem_cons, List.mem_append, List.not_mem_nil, or_false] at hx ⊢
      rcases hx with rfl | rfl | rfl | rfl
      · exact .inl rfl
      · exact .inr h1
      · exact .inr h2
      · exact .inr h3
  | node b p h l r =>
    refine (split_node b p h nilS w (hd.rx (b, nodeC (ptrN p) h nilS) (List.mem_append_right _ (by simp [FT.cells])))).mono ?_
    rintro e w' ⟨rfl, hb⟩
    exact ⟨rfl, b, p, h, l, r, rfl, hd.below hb, fun _ _ _ => rfl, fun x hx => .inl hx, Chg.of_below hb _⟩
/-- Where the way down of a prefix stands. -/
structure DownSt (V wr : World) (t0 : FT) (n k g j : Nat) (c : List FF) (t : FT) : Prop where
  hd : Hd wr (ctxC (fun _ => nilS) c t.root ++ t.cells (fun _ => nilS))
  rt : (plugF c t).root = t0.root
  eq : plugH (c.map FF.e) (HT.put ((bitsL n k).drop j) g t.er) = HT.put (bitsL n k) g t0.er
  bl : ∀ b ∈ (plugF c t).blocks, b ∈ t0.blocks ∨ V.heap.size ≤ b
  ch : Chg V wr (fun b _ => b ∈ t0.blocks)
theorem DownSt.step {V wr w' : World} {t0 : FT} {n k g j : Nat} {c : List FF} {t : FT} (h : DownSt V wr t0 n k g j c t) (hj : j < k) {b p hh : Nat} {l r : FT} (hb : b = t.root)
    (h2 : Hd w' (ctxC (fun _ => nilS) c t.root ++ (FT.node b p hh l r).cells (fun _ => nilS))) (h3 : ∀ d bs g, HT.put (d :: bs) g (FT.node b p hh l r).er = HT.put (d :: bs) g t.er) (h4 : ∀ x ∈ (FT.node b p hh l r).blocks, x ∈ t.blocks ∨ wr.heap.size ≤ x) (h5 : Chg wr w' (fun k _ => k = t.root)) (d : Bool) (hd : decide (bitAt false n j = 1) = d) :
    DownSt V w' t0 n k g (j + 1) ((⟨d, b, p, hh, if d then l else r⟩ : FF) :: c) (if d then r else l) := by
  have hfill : (⟨d, b, p, hh, if d then l else r⟩ : FF).fill (if d then r else l) = .node b p hh l r := by cases d <;> rfl
  refine ⟨?_, ?_, ?_, fun x hx => ?_, ?_⟩
  · have e := plugF_cells (fun _ => nilS) [(⟨d, b, p, hh, if d then l else r⟩ : FF)] (if d then r else l)
    simp only [plugF, hfill] at e
    refine h2.perm ?_
    refine (e.append_left _).trans ?_
    simp only [ctxC, List.append_nil, List.cons_append]
    rw [← hb]
    refine List.perm_append_comm.trans ?_
    simp only [List.cons_append]
    refine List.Perm.cons _ (List.Perm.cons _ ?_)
    rw [List.append_assoc, List.append_assoc]
    exact (List.perm_append_comm).append_left _
  · rw [← h.rt]
    show (plugF c _).root = _
    rw [hfill]
    exact plugF_root c _ _ hb
  · rw [← h.eq, bits_drop hj, ← h3, hd]
    show plugH (c.map FF.e) _ = _
    cases d <;> rfl
  · have hx' : x ∈ (plugF c (.node b p hh l r)).blocks := by
      have : plugF ((⟨d, b, p, hh, if d then l else r⟩ : FF) :: c) (if d then r else l) = plugF c (.node b p hh l r) := by show plugF c _ = _; rw [hfill]
      rwa [this] at hx
    have hx2 := (plugF_blocks c _).mem_iff.1 hx'
    rw [show (FT.node b p hh l r).root = t.root from hb] at hx2
    rcases List.mem_append.1 hx2 with h6 | h6
    · exact h.bl x ((plugF_blocks c t).mem_iff.2 (List.mem_append_left _ h6))
    · rcases h4 x h6 with h7 | h7
      · exact h.bl x ((plugF_blocks c t).mem_iff.2 (List.mem_append_right _ h7))
      · exact .inr (Nat.le_trans h.ch.size h7)
  · refine h.ch.trans h5 (fun b' _ hb' e => ?_)
    subst e
    rcases h.bl t.root ((plugF_blocks c t).mem_iff.2 (List.mem_append_right _ t.root_mem)) with h6 | h6
    · exact h6
    · omega
theorem DownSt.below {V wr w' : World} {t0 : FT} {n k g j : Nat} {c : List FF} {t : FT} (h : DownSt V wr t0 n k g j c t) (hb : Below wr.heap.size wr w') : DownSt V w' t0 n k g j c t :=
  ⟨h.hd.below hb, h.rt, h.eq, h.bl, h.ch.trans (Chg.of_below hb _) (fun _ _ _ h => h)⟩
end Go.Proofs.Ytoecmoicaklbaaa

/- Contract: fewest.grow. -/
set_option linter.unusedVariables false
set_option linter.unusedSimpArgs false
namespace Go.Proofs.Ytoecmoicaklbaaa
open Go Go.RowKit Go.Sort Wc Wk

/-- The tree of routes, put one by one. -/
def growL (ys : List (Nat × Nat × Nat)) : HT := ys.foldl (fun T x => HT.put (bitsL x.1 x.2.1) x.2.2 T) (.leaf 0)
theorem growL_snoc (ys : List (Nat × Nat × Nat)) (x : Nat × Nat × Nat) : growL (ys ++ [x]) = HT.put (bitsL x.1 x.2.1) x.2.2 (growL ys) := by simp [growL]
def RetTree (w : World) (rs : List (Nat × Nat × Nat)) (e : Ending) (w' : World) : Prop :=
  ∃ t ys, e = .returned (ptrN (FT.root t)) ∧ SortL rs ys ∧ t.er = growL ys ∧ Hd w' (t.cells (fun _ => nilS)) ∧ (∀ b ∈ t.blocks, w.heap.size ≤ b) ∧ Below w.heap.size w w'
/-- Where grow's loop stands. -/
structure GrSt (w1 wr : World) (rb : Nat) (ys : List (Nat × Nat × Nat)) (j : Nat) (t : FT) : Prop where
  rt : t.root = rb
  hd : Hd wr (t.cells (fun _ => nilS))
  er : t.er = growL (ys.take j)
  bl : ∀ b ∈ t.blocks, b = rb ∨ w1.heap.size ≤ b
  ch : Chg w1 wr (fun b _ => b = rb)
theorem DownSt.chg2 {V wr w' : World} {t0 : FT} {n k g j : Nat} {c : List FF} {t : FT} (h : DownSt V wr t0 n k g j c t) (h5 : Chg wr w' (fun k _ => k = t.root)) : Chg V w' (fun b _ => b ∈ t0.blocks) :=
  h.ch.trans h5 (fun b' _ hb' e => by
    subst e
    rcases h.bl t.root ((plugF_blocks c t).mem_iff.2 (List.mem_append_right _ t.root_mem)) with h6 | h6
    · exact h6
    · omega)
/-- Behind the way down the hop is told. -/
theorem DownSt.done {w1 w0 V wx w3 : World} {rb : Nat} {ys : List (Nat × Nat × Nat)} {j : Nat} {x : Nat × Nat × Nat} {t0 : FT} {c : List FF} {t : FT} (G : GrSt w1 w0 rb ys j t0) (hV : Below w0.heap.size w0 V) (hx : ys[j]? = some x) (D : DownSt V wx t0 x.1 x.2.1 x.2.2 x.2.1 c t)
    (h1 : Hd w3 ((t.tell x.2.2).cells (fun _ => nilS))) (h2 : Chg wx w3 (fun b _ => b ∈ t.blocks)) : GrSt w1 w3 rb ys (j + 1) (plugF c (t.tell x.2.2)) := by
  have e0 : HT.put ((bitsL x.1 x.2.1).drop x.2.1) x.2.2 t.er = t.er.tell x.2.2 := by
    rw [List.drop_of_length_le (by rw [bits_len]; exact Nat.le_refl _)]
    rfl
  have hmem : ∀ b ∈ t.blocks, b ∈ t0.blocks ∨ V.heap.size ≤ b := fun b hb => D.bl b ((plugF_blocks c t).mem_iff.2 (List.mem_append_right _ hb))
  refine ⟨?_, ?_, ?_, fun b hb => ?_, ?_⟩
  · rw [← G.rt, ← D.rt]
    exact plugF_root c _ _ (FT.tell_root _ _)
  · have hd' : Hd wx (ctxC (fun _ => nilS) c t.root ++ (t.cells (fun _ => nilS) ++ [])) := by rw [List.append_nil]; exact D.hd
    have := hd'.swap (ts' := (t.tell x.2.2).cells (fun _ => nilS)) (h2.mono (fun _ _ h => by rw [FT.fst_cells]; exact h)) h1 (fun y hy => .inl (by rw [FT.fst_cells] at hy ⊢; rw [FT.tell_blocks] at hy; exact hy))
    rw [List.append_nil] at this
    refine this.perm ?_
    have h := (plugF_cells (fun _ => nilS) c (t.tell x.2.2)).symm
    rw [FT.tell_root] at h
    exact h
  · rw [er_plug, er_tell, ← e0, D.eq, G.er, List.take_add_one, hx]
    exact (growL_snoc _ _).symm
  · have hb' : b ∈ (plugF c t).blocks := by
      have h := (plugF_blocks c (t.tell x.2.2)).mem_iff.1 hb
      rw [FT.tell_root, FT.tell_blocks] at h
      exact (plugF_blocks c t).mem_iff.2 h
    rcases D.bl b hb' with h | h
    · exact G.bl b h
    · exact .inr (Nat.le_trans (Nat.le_trans G.ch.size hV.size) h)
  · have s1 := G.ch.size
    have s2 := hV.size
    have htr : ∀ b, b < w1.heap.size → b ∈ t0.blocks → b = rb := fun b hb h => (G.bl b h).elim id (fun h => by omega)
    refine ((G.ch.trans (Chg.of_below hV (fun b _ => b = rb)) (fun _ _ _ h => h)).trans D.ch (fun b _ hb h => htr b hb h)).trans h2 (fun b _ hb h => ?_)
    rcases hmem b h with h | h
    · exact htr b hb h
    · omega

set_option maxRecDepth 100000 in
set_option maxHeartbeats 4000000 in
theorem grow_any (a : Option Addr) (cap : Nat) (rs : List (Nat × Nat × Nat)) (w : World) (hs : Sl w 5 (.slice a rs.length cap) (rs.map routeCells)) (hl : rs.length ≤ 60) (hok : ∀ x ∈ rs, VP false x.1 x.2.1) (ha : ∀ x, a = some x → x.block < w.heap.size) :
    Calls Try.prog 54 #[.slice a rs.length cap] w (RetTree w rs) := by
  have HS := Lib.hid hs
  have HK := Lib.hid hok
  have HA := Lib.hid ha
  clear hs hok ha
  go_enter Try.func54, Try.ntmps54
  go_wp2_with fail
  obtain ⟨W1, hW1⟩ : ∃ W1, W1 = w.alloc (.cells (nodeC (.pointer none) 0 nilS).toArray 163) := ⟨_, rfl⟩
  rw [show w.alloc (.cells #[.pointer none, .int .i64 0, .slice none 0 0] 163) = W1 from hW1.symm]
  obtain ⟨rb, hrb⟩ : ∃ rb, rb = w.heap.size := ⟨_, rfl⟩
  have HRB := Lib.hid hrb
  have hd1 : Hd W1 ((FT.leaf rb 0).cells (fun _ => nilS)) := ⟨fun x hx => by
    simp only [FT.cells, List.mem_singleton] at hx
    subst hx
    rw [hW1, hrb]
    exact rx_new _ _, by simp [FT.cells]⟩
  have hB1 : Below w.heap.size w W1 := by rw [hW1]; exact (Below.refl _ _).alloc (Nat.le_refl _) _
  have hs1 : W1.heap.size = w.heap.size + 1 := by rw [hW1]; simp
  rw [← hrb]
  refine (valuesRt_any a rs.length cap W1).mono ?_
  rintro e w' ⟨rfl, rfl⟩
  obtain ⟨W2, hW2⟩ : ∃ W2, W2 = W1.alloc (.cells #[.slice a rs.length cap] 43) := ⟨_, rfl⟩
  have hB2 : Below W1.heap.size W1 W2 := by rw [hW2]; exact (Below.refl _ _).alloc (Nat.le_refl _) _
  have hs2 : W2.heap.size = w.heap.size + 2 := by rw [hW2]; simp; omega
  have hc2 : W2.cell? ⟨W1.heap.size, 0, none⟩ = some (.slice a rs.length cap) := by rw [hW2]; simp
  rw [← hW2]
  have hBW := hB1.trans (hB2.mono hB1.size)
  have SF := Lib.hid (sortedRt_any W1.heap.size a rs.length cap rs W2 (HS.out.below hBW) rfl (by omega) (fun x hx => (vp_iff.1 (HK.out x hx)).2.1) hc2 (by omega) (fun x hx => by have := HA.out x hx; omega))
  have HD2 := Lib.hid (hd1.below hB2)
  have HB2 := Lib.hid hBW
  have HS2 := Lib.hid hs2
  clear hW1 hW2 hd1 hB1 hB2 hc2 hBW hs1 hs2 hrb
  generalize W1.heap.size = vb at *
  go_wp2_with fail
  refine SF.out.mono ?_
  rintro e w1 ⟨v1, ys, rfl, ho, hsr, hb1⟩
  obtain ⟨ya, yc, rfl⟩ := ho.shape
  rw [List.length_map] at ho ⊢
  have HO := Lib.hid ho
  have HSR := Lib.hid hsr
  have HYK := Lib.hid (fun x (hx : x ∈ ys) => HK.out x (hsr.1.mem_iff.1 hx))
  have hly : ys.length ≤ 60 := by rw [hsr.1.length_eq]; exact hl
  have HB1 := Lib.hid (HB2.out.trans (hb1.mono (by have := HS2.out; omega)))
  have HD1 := Lib.hid (HD2.out.below hb1)
  have hz1 := hb1.size
  have HNR := Lib.hid (show (Value.slice ya ys.length yc).ownBlock ≠ some rb from fun e => by have := (HO.out.lt rb e).1; have := HRB.out; have := HS2.out; omega)
  clear ho hsr hb1 SF HD2 HB2
  go_wp2_with fail
  go_loopw [16] (fun i wr => ∃ (j : Nat) (t : FT), j ≤ ys.length ∧ i = .int .i64 j ∧ Hid (GrSt w1 wr rb ys j t)) (fun i _ => ys.length - (intOf i).toNat)
  case atStart => exact ⟨0, .leaf rb 0, Nat.zero_le _, rfl, ⟨rfl, HD1.out, rfl, fun b hb => .inl (by simpa [FT.blocks] using hb), Chg.refl _ _⟩⟩
  case round =>
    obtain ⟨j, t0, hj, rfl, HG⟩ := hrel
    have hzr := HG.out.ch.size
    by_cases hlt : j < ys.length
    · obtain ⟨x, hx⟩ : ∃ x, ys[j]? = some x := ⟨_, List.getElem?_eq_getElem hlt⟩
      have HOr := Lib.hid (HO.out.chg HG.out.ch (fun _ _ e => e) HNR.out)
      obtain ⟨b, off, rfl, hb, hbw, d0, d1, d2, d3, d4⟩ := Sl.rv HOr.out.sl (Below.refl wr.heap.size wr) (fun x hx => (HOr.out.lt x.block (by rw [hx]; rfl)).2) hx
      have HX := Lib.hid hx
      have hvp := vp_iff.1 (HYK.out x (List.mem_of_getElem? hx))
      have hk32 : x.2.1 ≤ 32 := hvp.2.1
      have hfn := Lib.hid hvp.1
      clear hx hvp
      go_wp2_with fail
      obtain ⟨V, hV⟩ : ∃ V, V = wr.alloc (.cells (routeCells x).toArray 49) := ⟨_, rfl⟩
      have hV' := hV
      simp only [routeCells] at hV'
      rw [← hV']
      obtain ⟨A, hA⟩ : ∃ A, A = wr.heap.size := ⟨_, rfl⟩
      have RA : Hid (RX V A (routeCells x)) := by rw [hV, hA]; exact rx_new _ _
      have HVB : Hid (Below wr.heap.size wr V) := by rw [hV]; exact (Below.refl _ _).alloc (Nat.le_refl _) _
      have HAN := Lib.hid (show ∀ b ∈ t0.blocks, b ≠ A from fun b hb e => by have := HG.out.hd.lt b (by rw [FT.fst_cells]; exact hb); omega)
      rw [← hA]
      obtain ⟨w0, hw0⟩ : ∃ w0, w0 = wr := ⟨_, rfl⟩
      subst hw0
      clear hV hV' d0 d1 d2 d3 d4 HOr hA
      go_loopw [7, 24] (fun v7 i wx => ∃ (m : Nat) (c : List FF) (t : FT), m ≤ x.2.1 ∧ i = .int .i64 m ∧ v7 = ptrN t.root ∧ Hid (DownSt V wx t0 x.1 x.2.1 x.2.2 m c t)) (fun _ i _ => x.2.1 - (intOf i).toNat)
      case atStart => exact ⟨0, [], t0, Nat.zero_le _, rfl, by rw [HG.out.rt], ⟨HG.out.hd.below HVB.out, rfl, rfl, fun b hb => .inl hb, Chg.refl _ _⟩⟩
      case round =>
        obtain ⟨m, c, t, hm, rfl, rfl, HD⟩ := hrel
        by_cases hmk : m < x.2.1
        · have AT := Lib.hid (fun w => at_any false x.1 (m : Nat) w hfn.out (by omega) (by show (m : Int) < 32; omega))
          have SP := Lib.hid (split_any _ t wr HD.out.hd)
          go_wp2_with fail
          refine SP.out.mono ?_
          rintro e w2 ⟨rfl, b2, p, hh, l, r, hb2, h2, h3, h4, h5⟩
          have H2 := Lib.hid h2
          have ST := Lib.hid (fun d hd => HD.out.step hmk hb2 h2 h3 h4 h5 d hd)
          have K2 := Lib.hid (HD.out.chg2 h5)
          have RA2 := Lib.hid (RA.out.chg K2.out (fun _ h => HAN.out _ h rfl))
          subst hb2
          clear h2 h3 h4 h5 SP
          have c0 := (H2.out.rx (t.root, nodeC (ptrN p) hh nilS) (List.mem_append_right _ (by simp [FT.cells]))).cell 0 _ rfl
          have q0 := (H2.out.rx (p, [ptrN l.root, ptrN r.root]) (List.mem_append_right _ (by simp [FT.cells]))).cell 0 _ rfl
          have q1 := (H2.out.rx (p, [ptrN l.root, ptrN r.root]) (List.mem_append_right _ (by simp [FT.cells]))).cell 1 _ rfl
          have lb := (H2.out.rx (t.root, nodeC (ptrN p) hh nilS) (List.mem_append_right _ (by simp [FT.cells]))).lt
          have lp := (H2.out.rx (p, [ptrN l.root, ptrN r.root]) (List.mem_append_right _ (by simp [FT.cells]))).lt
          have a0 := RA2.out.cell 0 _ rfl
          have a1 := RA2.out.cell 1 _ rfl
          have a2 := RA2.out.cell 2 _ rfl
          have la := RA2.out.lt
          have e2 : ((m : Nat) : Int).toNat = m := by simp
          rw [e2] at AT
          clear e2
          by_cases hbit : bitAt false x.1 m = 1
          · rw [hbit] at AT
            have HSt := Lib.hid (ST.out true (decide_eq_true hbit))
            clear ST
            go_wp2_with fail
            refine wp_region_qb (by kernel_rfl) (by kernel_rfl) (fun kq => ?_)
            repeat (first | go_big_quiet_step ((with_reducible exact Calls.regrown_of (AT.out _))) | quiet_step ((with_reducible exact Calls.regrown_of (AT.out _))))
            clear kq
            refine wpQuiet_nil ?_; intro w4 hb4; (repeat (with_reducible (replace hb4 := Below.undrew hb4))); obtain ⟨hc4, hf4⟩ := bcell hb4; have hz4 := hb4.size; (repeat (first | rw [World.size_alloc] at hz4 | rw [World.size_drew] at hz4 | rw [World.size_setCell] at hz4)); (try have : w.heap.size < w4.heap.size := by omega); (try have : w.heap.size < w4.heap.size + 1 := by omega); (try have : w.heap.size < w4.heap.size + 1 + 1 := by omega); (try have : w.heap.size < w4.heap.size + 1 + 1 + 1 := by omega); (try have : w1.heap.size < w4.heap.size := by omega); (try have : w1.heap.size < w4.heap.size + 1 := by omega); (try have : w1.heap.size < w4.heap.size + 1 + 1 := by omega); (try have : w1.heap.size < w4.heap.size + 1 + 1 + 1 := by omega); (try have : wr.heap.size < w4.heap.size := by omega); (try have : wr.heap.size < w4.heap.size + 1 := by omega); (try have : wr.heap.size < w4.heap.size + 1 + 1 := by omega); (try have : wr.heap.size < w4.heap.size + 1 + 1 + 1 := by omega); (try have : wr.heap.size + 1 < w4.heap.size := by omega); (try have : wr.heap.size + 1 < w4.heap.size + 1 := by omega); (try have : wr.heap.size + 1 < w4.heap.size + 1 + 1 := by omega); (try have : wr.heap.size + 1 < w4.heap.size + 1 + 1 + 1 := by omega)
            go_wp2_with fail
            go_roundw
            case rel => exact ⟨m + 1, _, r, by omega, by go_num, rfl, Lib.hid (HSt.out.below (by (repeat' (first | (with_reducible exact Below.refl _ _) | (with_reducible assumption) | (with_reducible refine Below.alloc ?_ ?_ _) | (with_reducible refine Below.drew ?_) | (with_reducible refine Below.stepG ?_ (by assumption) ?_) | (with_reducible refine Below.setCell ?_ ?_ _) | omega | (dsimp only; omega) | (simp; done) | (simp; omega)))))⟩
            case measure => simp [intOf]; omega
          · have hb0 : bitAt false x.1 m = 0 := by have := bitAt_le false x.1 m; omega
            rw [hb0] at AT
            have HSt := Lib.hid (ST.out false (decide_eq_false hbit))
            clear ST
            go_wp2_with fail
            refine wp_region_qb (by kernel_rfl) (by kernel_rfl) (fun kq => ?_)
            repeat (first | go_big_quiet_step ((with_reducible exact Calls.regrown_of (AT.out _))) | quiet_step ((with_reducible exact Calls.regrown_of (AT.out _))))
            clear kq
            refine wpQuiet_nil ?_; intro w4 hb4; (repeat (with_reducible (replace hb4 := Below.undrew hb4))); obtain ⟨hc4, hf4⟩ := bcell hb4; have hz4 := hb4.size; (repeat (first | rw [World.size_alloc] at hz4 | rw [World.size_drew] at hz4 | rw [World.size_setCell] at hz4)); (try have : w.heap.size < w4.heap.size := by omega); (try have : w.heap.size < w4.heap.size + 1 := by omega); (try have : w.heap.size < w4.heap.size + 1 + 1 := by omega); (try have : w.heap.size < w4.heap.size + 1 + 1 + 1 := by omega); (try have : w1.heap.size < w4.heap.size := by omega); (try have : w1.heap.size < w4.heap.size + 1 := by omega); (try have : w1.heap.size < w4.heap.size + 1 + 1 := by omega); (try have : w1.heap.size < w4.heap.size + 1 + 1 + 1 := by omega); (try have : wr.heap.size < w4.heap.size := by omega); (try have : wr.heap.size < w4.heap.size + 1 := by omega); (try have : wr.heap.size < w4.heap.size + 1 + 1 := by omega); (try have : wr.heap.size < w4.heap.size + 1 + 1 + 1 := by omega); (try have : wr.heap.size + 1 < w4.heap.size := by omega); (try have : wr.heap.size + 1 < w4.heap.size + 1 := by omega); (try have : wr.heap.size + 1 < w4.heap.size + 1 + 1 := by omega); (try have : wr.heap.size + 1 < w4.heap.size + 1 + 1 + 1 := by omega)
            go_wp2_with fail
            go_roundw
            case rel => exact ⟨m + 1, _, l, by omega, by go_num, rfl, Lib.hid (HSt.out.below (by (repeat' (first | (with_reducible exact Below.refl _ _) | (with_reducible assumption) | (with_reducible refine Below.alloc ?_ ?_ _) | (with_reducible refine Below.drew ?_) | (with_reducible refine Below.stepG ?_ (by assumption) ?_) | (with_reducible refine Below.setCell ?_ ?_ _) | omega | (dsimp only; omega) | (simp; done) | (simp; omega)))))⟩
            case measure => simp [intOf]; omega
        · obtain rfl : m = x.2.1 := by omega
          have RA2 := Lib.hid (RA.out.chg HD.out.ch (fun _ h => HAN.out _ h rfl))
          have a4 := RA2.out.cell 4 _ rfl
          have TL := Lib.hid (tell_any (fun _ => nilS) x.2.2 t wr HD.out.hd.right)
          go_wp2_with fail
          refine TL.out.mono ?_
          rintro e w3 ⟨rfl, h3, k3⟩
          have HG3 := Lib.hid (DownSt.done HG.out HVB.out HX.out HD.out h3 k3)
          clear h3 k3 TL RA2 a4
          go_wp2_with fail
          go_roundw
          case rel => exact ⟨j + 1, _, by omega, by go_num, HG3⟩
          case measure => simp [intOf]; omega
    · obtain rfl : j = ys.length := by omega
      have hB : Below w.heap.size w wr := HB1.out.trans (HG.out.ch.below (by have := HB1.out.size; exact this) (fun b _ hb e => by have := HRB.out; omega))
      have HBe := Lib.hid hB
      clear hB
      go_wp2_with fail
      refine bodyPost_ret (v := ptrN rb) (by simp [results, Try.results54, go_sem]) rfl ⟨t0, ys, by rw [HG.out.rt], HSR.out, ?_, HG.out.hd, fun b hb => ?_, HBe.out⟩
      · have := HG.out.er
        rw [List.take_length] at this
        exact this
      · have := HRB.out
        rcases HG.out.bl b hb with h | h
        · omega
        · have := HB1.out.size; omega
end Go.Proofs.Ytoecmoicaklbaaa
