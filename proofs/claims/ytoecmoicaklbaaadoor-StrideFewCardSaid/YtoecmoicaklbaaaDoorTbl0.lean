
/- Trees of prefixes, with the places of their nodes: plain. -/
import Derived.Test.YtoecmoicaklbaaaDoorPlain
set_option linter.unusedVariables false
namespace Go.Proofs.YtoecmoicaklbaaaDoor
open Go Go.RowKit Wc

inductive BT where
  | nil : BT
  | node (b n k h : Nat) (l r : BT) : BT
def BT.nodes : BT → List (Nat × Nat × Nat)
  | .nil => []
  | .node _ n k h l r => (n, k, h) :: (l.nodes ++ r.nodes)
def BT.list (t : BT) : List (Nat × Nat × Nat) := t.nodes.filter (fun x => decide (x.2.2 ≠ 0))
def lt3 (x y : Nat × Nat × Nat) : Prop := x.1 < y.1 ∨ (x.1 = y.1 ∧ x.2.1 < y.2.1)
def Und (d : Bool) (n k : Nat) : BT → Prop
  | .nil => True
  | .node _ n' k' _ _ _ => k < k' ∧ cov false n k n' k' ∧ bitAt false n' k = d.toNat
def BT.wf : BT → Prop
  | .nil => True
  | .node _ n k _ l r => VP false n k ∧ Und false n k l ∧ Und true n k r ∧ l.wf ∧ r.wf

def tp (n k : Nat) : Nat := n / 2 ^ (32 - k)
theorem tp_succ (n k : Nat) (hk : k < 32) : tp n (k + 1) = 2 * tp n k + bitAt false n k := by
  unfold tp bitAt
  have := div_step n (32 - (k + 1))
  rw [show 32 - (k + 1) + 1 = 32 - k by omega] at this
  rw [show wd false - 1 - k = 32 - (k + 1) by show 32 - 1 - k = _; omega]
  exact this
theorem covT {n k m l : Nat} (hp : VP false n k) : cov false n k m l ↔ k ≤ l ∧ tp m k = tp n k := cov_iff (six := false) hp
theorem tp_mono {a b j k : Nat} (h : tp a k = tp b k) (hj : j ≤ k) (hk : k ≤ 32) : tp a j = tp b j := head_mono (w := 32) h hj hk
theorem vp_tp {n k : Nat} (hp : VP false n k) : tp n k * 2 ^ (32 - k) = n := hp.2.2
theorem tp_bit {a b k : Nat} (h : tp a (k + 1) = tp b (k + 1)) (hk : k < 32) : bitAt false a k = bitAt false b k := by
  have h1 := tp_succ a k hk
  have h2 := tp_succ b k hk
  have h3 := tp_mono h (Nat.le_succ k) (by omega)
  omega
theorem covTr {n k m l o p : Nat} (hp : VP false n k) (hq : VP false m l) (h1 : cov false n k m l) (h2 : cov false m l o p) : cov false n k o p := by
  rw [covT hp] at *
  rw [covT hq] at h2
  exact ⟨Nat.le_trans h1.1 h2.1, (tp_mono h2.2 h1.1 hq.2.1).trans h1.2⟩
theorem cov_le' {n k m l : Nat} (h : cov false n k m l) : n ≤ m := by
  have := h.2
  rw [← this]
  exact cutN_le _ _ _
theorem cov_refl {n k : Nat} (hp : VP false n k) : cov false n k n k := ⟨Nat.le_refl _, hp.2.2⟩

theorem wf_cov : ∀ {t : BT}, t.wf → ∀ {b n k h l r}, t = .node b n k h l r → ∀ x ∈ t.nodes, VP false x.1 x.2.1 ∧ cov false n k x.1 x.2.1
  | .nil, _, _, _, _, _, _, _, he, _, _ => by cases he
  | .node b' n' k' h' l' r', hw, b, n, k, h, l, r, he, x, hx => by
    cases he
    obtain ⟨hv, ul, ur, wl, wr⟩ := hw
    simp only [BT.nodes, List.mem_cons, List.mem_append] at hx
    rcases hx with rfl | hx | hx
    · exact ⟨hv, cov_refl hv⟩
    · match l', ul, wl, hx with
      | .node b1 n1 k1 h1 l1 r1, ul, wl, hx =>
        have := wf_cov wl rfl x hx
        exact ⟨this.1, covTr hv wl.1 ul.2.1 this.2⟩
    · match r', ur, wr, hx with
      | .node b1 n1 k1 h1 l1 r1, ur, wr, hx =>
        have := wf_cov wr rfl x hx
        exact ⟨this.1, covTr hv wr.1 ur.2.1 this.2⟩
theorem und_nodes {t : BT} {d : Bool} {n k : Nat} (hw : t.wf) (hp : VP false n k) (hu : Und d n k t) : ∀ x ∈ t.nodes, VP false x.1 x.2.1 ∧ k < x.2.1 ∧ cov false n k x.1 x.2.1 ∧ bitAt false x.1 k = d.toNat := by
  intro x hx
  match t, hw, hu, hx with
  | .node b1 n1 k1 h1 l1 r1, hw, hu, hx =>
    obtain ⟨u1, u2, u3⟩ := hu
    obtain ⟨v, c⟩ := wf_cov hw rfl x hx
    have hk1 : k1 ≤ 32 := hw.1.2.1
    refine ⟨v, Nat.lt_of_lt_of_le u1 c.1, covTr hp hw.1 u2 c, ?_⟩
    rw [← u3]
    exact tp_bit (tp_mono ((covT hw.1).1 c).2 (by omega) hk1) (by omega)
theorem half_lt {n m l o p k : Nat} (hp : VP false n k) (hk : k < 32) (h1 : cov false n k m l) (h2 : cov false n k o p) (b1 : bitAt false m k = 0) (b2 : bitAt false o k = 1) : m < o := by
  have t1 := tp_succ m k hk
  have t2 := tp_succ o k hk
  have e1 := ((covT hp).1 h1).2
  have e2 := ((covT hp).1 h2).2
  have h3 : tp m (k + 1) < tp o (k + 1) := by omega
  unfold tp at h3
  rcases Nat.lt_or_ge m o with h | h
  · exact h
  · have := Nat.div_le_div_right (c := 2 ^ (32 - (k + 1))) h
    omega
theorem wf_sorted : ∀ {t : BT}, t.wf → t.nodes.Pairwise lt3
  | .nil, _ => List.Pairwise.nil
  | .node b n k h l r, hw => by
    obtain ⟨hv, ul, ur, wl, wr⟩ := hw
    have nl := und_nodes wl hv ul
    have nr := und_nodes wr hv ur
    simp only [BT.nodes]
    rw [List.pairwise_cons, List.pairwise_append]
    have root : ∀ d x, (VP false x.1 x.2.1 ∧ k < x.2.1 ∧ cov false n k x.1 x.2.1 ∧ bitAt false x.1 k = d) → lt3 (n, k, h) x := by
      rintro d x ⟨_, h1, h2, _⟩
      have := cov_le' h2
      unfold lt3
      dsimp only
      omega
    refine ⟨fun x hx => ?_, wf_sorted wl, wf_sorted wr, fun x hx y hy => ?_⟩
    · rcases List.mem_append.1 hx with hx | hx
      · exact root _ x (nl x hx)
      · exact root _ x (nr x hx)
    · obtain ⟨v1, k1, c1, b1⟩ := nl x hx
      obtain ⟨v2, k2, c2, b2⟩ := nr y hy
      have : x.2.1 ≤ 32 := v1.2.1
      exact .inl (half_lt hv (by omega) c1 c2 b1 b2)

/-- The way down to a place. -/
structure Fr where
  b : Nat
  n : Nat
  k : Nat
  h : Nat
  d : Bool
  sib : BT
def Fr.fill (f : Fr) (t : BT) : BT := if f.d then .node f.b f.n f.k f.h f.sib t else .node f.b f.n f.k f.h t f.sib
def plug : List Fr → BT → BT
  | [], t => t
  | f :: c, t => plug c (f.fill t)
def preN : List Fr → List (Nat × Nat × Nat)
  | [] => []
  | f :: c => preN c ++ ((f.n, f.k, f.h) :: (if f.d then f.sib.nodes else []))
def postN : List Fr → List (Nat × Nat × Nat)
  | [] => []
  | f :: c => (if f.d then [] else f.sib.nodes) ++ postN c
theorem plug_nodes : ∀ (c : List Fr) (t : BT), (plug c t).nodes = preN c ++ t.nodes ++ postN c
  | [], t => by simp [plug, preN, postN]
  | f :: c, t => by
    rw [plug, plug_nodes c]
    unfold Fr.fill
    cases hd : f.d <;> simp [preN, postN, BT.nodes, hd]
def headUnd (c : List Fr) (t : BT) : Prop := match c with | [] => True | f :: _ => Und f.d f.n f.k t
theorem fill_und {f : Fr} {d : Bool} {n k : Nat} {t t' : BT} : Und d n k (f.fill t) ↔ Und d n k (f.fill t') := by
  unfold Fr.fill
  cases f.d <;> exact Iff.rfl
theorem headUnd_fill {c : List Fr} {f : Fr} {t t' : BT} : headUnd c (f.fill t) ↔ headUnd c (f.fill t') := by
  cases c with
  | nil => exact Iff.rfl
  | cons g c => exact fill_und
theorem fill_wf {f : Fr} {t : BT} : (f.fill t).wf ↔ VP false f.n f.k ∧ Und f.d f.n f.k t ∧ t.wf ∧ Und (!f.d) f.n f.k f.sib ∧ f.sib.wf := by
  unfold Fr.fill
  cases f.d
  · exact ⟨fun ⟨a, b, c, d, e⟩ => ⟨a, b, d, c, e⟩, fun ⟨a, b, d, c, e⟩ => ⟨a, b, c, d, e⟩⟩
  · exact ⟨fun ⟨a, b, c, d, e⟩ => ⟨a, c, e, b, d⟩, fun ⟨a, c, e, b, d⟩ => ⟨a, b, c, d, e⟩⟩
/-- What stands in a place may be exchanged. -/
theorem plug_wf : ∀ {c : List Fr} {t : BT}, (plug c t).wf → t.wf ∧ headUnd c t ∧ ∀ t', t'.wf → headUnd c t' → (plug c t').wf
  | [], t, hw => ⟨hw, trivial, fun t' h _ => h⟩
  | f :: c, t, hw => by
    obtain ⟨h1, h2, h3⟩ := plug_wf (c := c) (t := f.fill t) hw
    obtain ⟨a, b, d, e, g⟩ := fill_wf.1 h1
    refine ⟨d, b, fun t' ht hu => h3 _ (fill_wf.2 ⟨a, hu, ht, e, g⟩) (headUnd_fill.1 h2)⟩
/-- The way down leads to a prefix. -/
def onPath (c : List Fr) (n k : Nat) : Prop := ∀ f ∈ c, VP false f.n f.k ∧ cov false f.n f.k n k ∧ f.k < k ∧ bitAt false n f.k = f.d.toNat
theorem onPath_und {c : List Fr} {n k b h : Nat} {l r : BT} (ho : onPath c n k) : headUnd c (.node b n k h l r) := by
  cases c with
  | nil => trivial
  | cons f c =>
    obtain ⟨_, h1, h2, h3⟩ := ho f List.mem_cons_self
    exact ⟨h2, h1, h3⟩
theorem pair_mid {A M B : List (Nat × Nat × Nat)} {x : Nat × Nat × Nat} (h : (A ++ (x :: M) ++ B).Pairwise lt3) : (∀ y ∈ A, ¬ (y.1 = x.1 ∧ y.2.1 = x.2.1)) ∧ (∀ y ∈ M, ¬ (y.1 = x.1 ∧ y.2.1 = x.2.1)) ∧ ∀ y ∈ B, ¬ (y.1 = x.1 ∧ y.2.1 = x.2.1) := by
  rw [List.append_assoc, List.pairwise_append] at h
  obtain ⟨_, h2, h3⟩ := h
  rw [List.cons_append, List.pairwise_cons] at h2
  refine ⟨fun y hy e => ?_, fun y hy e => ?_, fun y hy e => ?_⟩
  · have := h3 y hy x (by simp)
    unfold lt3 at this; omega
  · have := h2.1 y (by simp [hy])
    unfold lt3 at this; omega
  · have := h2.1 y (by simp [hy])
    unfold lt3 at this; omega
end Go.Proofs.YtoecmoicaklbaaaDoor

/- Trees of prefixes: what a place tells, put, cut: plain. -/
set_option linter.unusedVariables false
namespace Go.Proofs.YtoecmoicaklbaaaDoor
open Go Go.RowKit Wc

/-- Beside the way down nothing covers the prefix. -/
theorem path_sib : ∀ {c : List Fr} {t : BT} {n k : Nat}, (plug c t).wf → onPath c n k → ∀ x ∈ preN c ++ postN c, cov false x.1 x.2.1 n k → ∃ f ∈ c, x = (f.n, f.k, f.h)
  | [], _, _, _, _, _, x, hx, _ => by simp [preN, postN] at hx
  | f :: c, t, n, k, hw, ho, x, hx, hc => by
    have hw' : (plug c (f.fill t)).wf := hw
    obtain ⟨h1, _, _⟩ := plug_wf hw'
    obtain ⟨hv, _, _, us, ws⟩ := fill_wf.1 h1
    have IH := path_sib hw' (fun g hg => ho g (List.mem_cons_of_mem _ hg)) x
    have sib : x ∈ f.sib.nodes → ∃ g ∈ f :: c, x = (g.n, g.k, g.h) := fun hs => by
      exfalso
      obtain ⟨_, o2, o3, o4⟩ := ho f List.mem_cons_self
      obtain ⟨vx, k1, c1, b1⟩ := und_nodes ws hv us x hs
      have e := ((covT vx).1 hc).2
      have hx32 : x.2.1 ≤ 32 := vx.2.1
      have e2 := tp_bit (tp_mono e (show f.k + 1 ≤ x.2.1 by omega) hx32) (by omega)
      rw [o4, b1] at e2
      cases hd : f.d <;> simp [hd] at e2
    have up : (∃ g ∈ c, x = (g.n, g.k, g.h)) → ∃ g ∈ f :: c, x = (g.n, g.k, g.h) := fun ⟨g, hg, e⟩ => ⟨g, List.mem_cons_of_mem _ hg, e⟩
    simp only [preN, postN, List.mem_append, List.mem_cons] at hx
    rcases hx with (hx | hx | hx) | hx | hx
    · exact up (IH (List.mem_append.2 (.inl hx)) hc)
    · exact ⟨f, List.mem_cons_self, hx⟩
    · split at hx
      · exact sib hx
      · cases hx
    · split at hx
      · cases hx
      · exact sib hx
    · exact up (IH (List.mem_append.2 (.inr hx)) hc)
theorem path_key {c : List Fr} {t : BT} {n k : Nat} (hw : (plug c t).wf) (ho : onPath c n k) (hp : VP false n k) : ∀ x, x ∈ preN c ∨ x ∈ postN c → ¬ (x.1 = n ∧ x.2.1 = k) := by
  rintro x hx ⟨e1, e2⟩
  obtain ⟨f, hf, rfl⟩ := path_sib hw ho x (List.mem_append.2 hx) (by rw [e1, e2]; exact cov_refl hp)
  have := (ho f hf).2.2.1
  simp only at e2
  omega
/-- How the way down ends. -/
def Stop (t : BT) (n k : Nat) : Prop := match t with | .nil => True | .node _ n' k' _ _ _ => (n' = n ∧ k' = k) ∨ ¬ cov false n' k' n k
def exactH (t : BT) (n k : Nat) : Nat := match t with | .nil => 0 | .node _ n' k' h _ _ => if n' = n ∧ k' = k then h else 0
theorem stop_nodes {t : BT} {n k : Nat} (hw : t.wf) (hp : VP false n k) (hs : Stop t n k) : ∀ x ∈ t.nodes, cov false x.1 x.2.1 n k → x = (n, k, exactH t n k) := by
  intro x hx hc
  match t, hw, hs, hx with
  | .node b n1 k1 h1 l r, hw, hs, hx =>
    obtain ⟨v, c1⟩ := wf_cov hw rfl x hx
    have h1 := covTr hw.1 v c1 hc
    rcases hs with ⟨rfl, rfl⟩ | hs
    · have hx' := hx
      simp only [BT.nodes, List.mem_cons, List.mem_append] at hx
      obtain ⟨hv, ul, ur, wl, wr⟩ := hw
      rcases hx with rfl | hx | hx
      · simp [exactH]
      · have := (und_nodes wl hv ul x hx).2.1
        have := hc.1; omega
      · have := (und_nodes wr hv ur x hx).2.1
        have := hc.1; omega
    · exact absurd h1 hs
theorem mem_plug {c : List Fr} {t : BT} {x : Nat × Nat × Nat} : x ∈ (plug c t).list ↔ (x ∈ preN c ∨ x ∈ postN c) ∧ x.2.2 ≠ 0 ∨ x ∈ t.list := by
  unfold BT.list
  rw [plug_nodes]
  simp only [List.mem_filter, List.mem_append, decide_eq_true_eq]
  constructor
  · rintro ⟨(h | h) | h, h2⟩
    · exact .inl ⟨.inl h, h2⟩
    · exact .inr ⟨h, h2⟩
    · exact .inl ⟨.inr h, h2⟩
  · rintro (⟨h | h, h2⟩ | ⟨h, h2⟩)
    · exact ⟨.inl (.inl h), h2⟩
    · exact ⟨.inr h, h2⟩
    · exact ⟨.inl (.inr h), h2⟩
theorem list_len {c : List Fr} {t : BT} : (plug c t).list.length = ((preN c).filter (fun x => decide (x.2.2 ≠ 0))).length + t.list.length + ((postN c).filter (fun x => decide (x.2.2 ≠ 0))).length := by
  unfold BT.list
  rw [plug_nodes, List.filter_append, List.filter_append, List.length_append, List.length_append]
/-- What the table has at the prefix. -/
theorem get_says {c : List Fr} {t : BT} {n k : Nat} (hw : (plug c t).wf) (ho : onPath c n k) (hp : VP false n k) (hs : Stop t n k) (h : Nat) (hh : h ≠ 0) : (n, k, h) ∈ (plug c t).list ↔ exactH t n k = h := by
  have ht := (plug_wf hw).1
  rw [mem_plug]
  constructor
  · rintro (⟨hx, _⟩ | hx)
    · exact absurd ⟨rfl, rfl⟩ (path_key hw ho hp _ hx)
    · have := stop_nodes ht hp hs _ (List.mem_filter.1 hx).1 (cov_refl hp)
      simp only [Prod.mk.injEq, true_and] at this
      exact this.symm
  · intro e
    right
    match t, hs, e with
    | .nil, _, e => simp [exactH] at e; omega
    | .node b n1 k1 h1 l r, hs, e =>
      by_cases he : n1 = n ∧ k1 = k
      · obtain ⟨rfl, rfl⟩ := he
        simp only [exactH, and_self, if_true] at e
        subst e
        exact List.mem_filter.2 ⟨by simp [BT.nodes], by simpa using hh⟩
      · simp only [exactH, he, if_false] at e
        exact absurd e.symm hh
/-- What is to say of a place's new content when it is put. -/
structure PutOk (c : List Fr) (t t' : BT) (n k h : Nat) : Prop where
  wf : t'.wf
  und : headUnd c t'
  mem : ∀ x, x ∈ t'.list ↔ x = (n, k, h) ∨ (x ∈ t.list ∧ ¬ (x.1 = n ∧ x.2.1 = k))
  len : t'.list.length = t.list.length + (if exactH t n k = 0 then 1 else 0)
theorem put_says {c : List Fr} {t t' : BT} {n k h : Nat} (hw : (plug c t).wf) (ho : onPath c n k) (hp : VP false n k) (ok : PutOk c t t' n k h) : (plug c t').wf ∧ (∀ x, x ∈ (plug c t').list ↔ x = (n, k, h) ∨ (x ∈ (plug c t).list ∧ ¬ (x.1 = n ∧ x.2.1 = k))) ∧
    (plug c t').list.length = (plug c t).list.length + (if exactH t n k = 0 then 1 else 0) := by
  refine ⟨(plug_wf hw).2.2 _ ok.wf ok.und, fun x => ?_, ?_⟩
  · rw [mem_plug, mem_plug, ok.mem]
    constructor
    · rintro (⟨h1, h2⟩ | h1 | ⟨h1, h2⟩)
      · exact .inr ⟨.inl ⟨h1, h2⟩, path_key hw ho hp x h1⟩
      · exact .inl h1
      · exact .inr ⟨.inr h1, h2⟩
    · rintro (h1 | ⟨h1 | h1, h2⟩)
      · exact .inr (.inl h1)
      · exact .inl h1
      · exact .inr (.inr ⟨h1, h2⟩)
  · rw [list_len, list_len, ok.len]; omega
theorem put_nil {c : List Fr} {n k h b : Nat} (ho : onPath c n k) (hp : VP false n k) (hh : h ≠ 0) : PutOk c .nil (.node b n k h .nil .nil) n k h := by
  refine ⟨⟨hp, trivial, trivial, trivial, trivial⟩, onPath_und ho, fun x => ?_, ?_⟩
  · simp only [BT.list, BT.nodes, List.append_nil, List.filter_cons, List.filter_nil]
    rw [if_pos (by simpa using hh)]
    simp
  · simp only [BT.list, BT.nodes, List.append_nil, List.filter_cons, List.filter_nil]
    rw [if_pos (by simpa using hh)]
    simp [exactH]
theorem put_same {c : List Fr} {n k h h0 b : Nat} {l r : BT} (hw : (plug c (.node b n k h0 l r)).wf) (hh : h ≠ 0) : PutOk c (.node b n k h0 l r) (.node b n k h l r) n k h := by
  obtain ⟨h1, h2, _⟩ := plug_wf hw
  have key : ∀ x, x ∈ l.nodes ++ r.nodes → ¬ (x.1 = n ∧ x.2.1 = k) := fun x hx e => by
    obtain ⟨hv, ul, ur, wl, wr⟩ := h1
    rcases List.mem_append.1 hx with hx | hx
    · have := (und_nodes wl hv ul x hx).2.1; omega
    · have := (und_nodes wr hv ur x hx).2.1; omega
  refine ⟨h1, ?_, fun x => ?_, ?_⟩
  · cases c with
    | nil => trivial
    | cons f c => exact h2
  · simp only [BT.list, BT.nodes, List.filter_cons]
    rw [if_pos (by simpa using hh)]
    have e : ∀ y, y ∈ (l.nodes ++ r.nodes).filter (fun x => decide (x.2.2 ≠ 0)) → ¬ (y.1 = n ∧ y.2.1 = k) := fun y hy => key y (List.mem_filter.1 hy).1
    constructor
    · intro hx
      rcases List.mem_cons.1 hx with hx | hx
      · exact .inl hx
      · refine .inr ⟨?_, e x hx⟩
        split
        · exact List.mem_cons_of_mem _ hx
        · exact hx
    · rintro (hx | ⟨hx, hne⟩)
      · rw [hx]; exact List.mem_cons_self
      · split at hx
        · rcases List.mem_cons.1 hx with hx | hx
          · rw [hx] at hne; exact absurd ⟨rfl, rfl⟩ hne
          · exact List.mem_cons_of_mem _ hx
        · exact List.mem_cons_of_mem _ hx
  · simp only [BT.list, BT.nodes, List.filter_cons, exactH, and_self, if_true]
    rw [if_pos (by simpa using hh)]
    by_cases h0' : h0 = 0
    · simp [h0']
    · simp [h0']
theorem fill_nodes {f : Fr} {t : BT} {x : Nat × Nat × Nat} : x ∈ (f.fill t).nodes ↔ x = (f.n, f.k, f.h) ∨ x ∈ t.nodes ∨ x ∈ f.sib.nodes := by
  unfold Fr.fill
  cases f.d <;> simp [BT.nodes]
  · rw [or_comm (a := x ∈ f.sib.nodes)]
theorem fill_len {f : Fr} {t : BT} : (f.fill t).list.length = (if f.h = 0 then 0 else 1) + t.list.length + f.sib.list.length := by
  unfold Fr.fill BT.list
  cases f.d <;> simp only [BT.nodes, List.filter_cons, List.filter_append, Bool.false_eq_true, if_true, if_false] <;> by_cases h : f.h = 0 <;> simp [h] <;> omega
/-- The fork of a node and a prefix that it does not cover. -/
theorem fork_facts {c : List Fr} {b n' k' h' n k : Nat} {l r : BT} (hw : (plug c (.node b n' k' h' l r)).wf) (ho : onPath c n k) (hp : VP false n k) (hs : ¬ cov false n' k' n k) :
    let ck := comLen false n' k' n k
    let cn := cutN 32 n' ck
    VP false cn ck ∧ ck < k' ∧ ck ≤ k ∧ cov false cn ck n' k' ∧ cov false cn ck n k ∧ (ck = k → cn = n) ∧ (ck < k → bitAt false n' ck ≠ bitAt false n ck) ∧
    (match c with | [] => True | g :: _ => g.k < ck ∧ cov false g.n g.k cn ck ∧ bitAt false cn g.k = g.d.toNat) := by
  intro ck cn
  obtain ⟨h1, h2, _⟩ := plug_wf hw
  have hv : VP false n' k' := h1.1
  have hk' : k' ≤ 32 := hv.2.1
  have hk : k ≤ 32 := hp.2.1
  have l1 : ck ≤ k' := comLen_le _ _ _ _ _
  have l2 : ck ≤ k := comLen_le' _ _ _ _ _
  have cc := com_cov (six := false) hv hp
  have ci := fun j => comLen_iff (six := false) (j := j) (k' := k) hv.1 hp.1 hv.2.1
  have vc : VP false cn ck := vp_cut (six := false) hv.1 (by show ck ≤ 32; omega)
  have hlt : ck < k' := by
    rcases Nat.lt_or_ge ck k' with h | h
    · exact h
    · exfalso
      have e : ck = k' := by omega
      have h3 := ((ci k').1 (by show k' ≤ ck; omega)).2.2
      exact hs ((covT hv).2 ⟨by omega, h3.symm⟩)
  refine ⟨vc, hlt, l2, cc.1, cc.2, fun e => ?_, fun hl e => ?_, ?_⟩
  · have h3 := ((ci ck).1 (Nat.le_refl _)).2.2
    show cutN 32 n' ck = n
    have h4 : cutN 32 n' ck = cutN 32 n ck := (cut_eq_iff 32 n' n ck).2 h3
    rw [h4, e]
    exact hp.2.2
  · have h3 : tp n' ck = tp n ck := ((ci ck).1 (Nat.le_refl _)).2.2
    have t1 := tp_succ n' ck (by omega)
    have t2 := tp_succ n ck (by omega)
    have : ck + 1 ≤ ck := (ci (ck + 1)).2 ⟨by omega, by omega, (show tp n' (ck + 1) = tp n (ck + 1) by omega)⟩
    omega
  · cases c with
    | nil => trivial
    | cons g c =>
      obtain ⟨gv, g1, g2, g3⟩ := ho g List.mem_cons_self
      obtain ⟨u1, u2, u3⟩ : g.k < k' ∧ cov false g.n g.k n' k' ∧ bitAt false n' g.k = g.d.toNat := h2
      have e1 : tp n g.k = tp g.n g.k := ((covT gv).1 g1).2
      have e2 : tp n' g.k = tp g.n g.k := ((covT gv).1 u2).2
      have t1 := tp_succ n' g.k (by omega)
      have t2 := tp_succ n g.k (by omega)
      have hg : g.k + 1 ≤ ck := (ci (g.k + 1)).2 ⟨by omega, by omega, (show tp n' (g.k + 1) = tp n (g.k + 1) by omega)⟩
      have c1 : tp cn g.k = tp n' g.k := cut_head 32 n' g.k ck (by omega) (by omega)
      have c2 : tp cn (g.k + 1) = tp n' (g.k + 1) := cut_head 32 n' (g.k + 1) ck hg (by omega)
      refine ⟨by omega, (covT gv).2 ⟨by omega, by omega⟩, ?_⟩
      rw [tp_bit c2 (by omega)]; exact u3
theorem stop_key {t : BT} {b n' k' h' n k : Nat} {l r : BT} (hw : (BT.node b n' k' h' l r).wf) (hp : VP false n k) (hs : ¬ cov false n' k' n k) : (∀ x ∈ (BT.node b n' k' h' l r).nodes, ¬ (x.1 = n ∧ x.2.1 = k)) ∧ exactH (.node b n' k' h' l r) n k = 0 := by
  have hne : ¬ (n' = n ∧ k' = k) := fun e => hs (by rw [e.1, e.2]; exact cov_refl hp)
  constructor
  · rintro x hx ⟨e1, e2⟩
    have := (wf_cov hw rfl x hx).2
    rw [e1, e2] at this
    exact hs this
  · simp [exactH, hne]
theorem put_fork {c : List Fr} {b n' k' h' n k h fb nb : Nat} {l r : BT} (hw : (plug c (.node b n' k' h' l r)).wf) (ho : onPath c n k) (hp : VP false n k) (hs : ¬ cov false n' k' n k) (hh : h ≠ 0) (d : Bool) (hd : d.toNat = bitAt false n' (comLen false n' k' n k)) :
    (comLen false n' k' n k = k → PutOk c (.node b n' k' h' l r) (Fr.fill ⟨fb, n, k, h, d, .nil⟩ (.node b n' k' h' l r)) n k h) ∧
    (comLen false n' k' n k ≠ k → PutOk c (.node b n' k' h' l r) (Fr.fill ⟨fb, cutN 32 n' (comLen false n' k' n k), comLen false n' k' n k, 0, d, .node nb n k h .nil .nil⟩ (.node b n' k' h' l r)) n k h) := by
  obtain ⟨f1, f2, f3, f4, f5, f6, f7, f8⟩ := fork_facts hw ho hp hs
  obtain ⟨w1, _, _⟩ := plug_wf hw
  obtain ⟨key, ex⟩ := stop_key (t := .nil) w1 hp hs
  have memt : ∀ x, x ∈ (BT.node b n' k' h' l r).list → ¬ (x.1 = n ∧ x.2.1 = k) := fun x hx => key x (List.mem_filter.1 hx).1
  constructor
  · intro e
    have en := f6 e
    rw [e] at hd
    rw [e] at f2 f4 f8
    rw [e] at en
    rw [en] at f4 f8
    refine ⟨fill_wf.2 ⟨hp, ⟨f2, f4, hd.symm⟩, w1, trivial, trivial⟩, ?_, fun x => ?_, ?_⟩
    · cases c with
      | nil => trivial
      | cons g c =>
        show Und g.d g.n g.k (Fr.fill _ _)
        unfold Fr.fill
        cases d <;> exact f8
    · simp only [BT.list, List.mem_filter, fill_nodes, decide_eq_true_eq]
      constructor
      · rintro ⟨h1 | h1 | h1, h2⟩
        · exact .inl h1
        · exact .inr ⟨⟨h1, h2⟩, key x h1⟩
        · cases h1
      · rintro (h1 | ⟨⟨h1, h2⟩, _⟩)
        · subst h1; exact ⟨.inl rfl, hh⟩
        · exact ⟨.inr (.inl h1), h2⟩
    · rw [fill_len, ex]
      simp [hh, BT.list, BT.nodes]
      omega
  · intro e
    have hlt : comLen false n' k' n k < k := by omega
    have hb := f7 hlt
    have hk32 : k ≤ 32 := hp.2.1
    have b1 := bitAt_le false n (comLen false n' k' n k)
    have b2 := bitAt_le false n' (comLen false n' k' n k)
    have hd2 : bitAt false n (comLen false n' k' n k) = (!d).toNat := by
      cases d <;> simp at hd ⊢ <;> omega
    refine ⟨fill_wf.2 ⟨f1, ⟨f2, f4, hd.symm⟩, w1, ⟨hlt, f5, hd2⟩, hp, trivial, trivial, trivial, trivial⟩, ?_, fun x => ?_, ?_⟩
    · cases c with
      | nil => trivial
      | cons g c =>
        show Und g.d g.n g.k (Fr.fill _ _)
        unfold Fr.fill
        cases d <;> exact f8
    · simp only [BT.list, List.mem_filter, fill_nodes, decide_eq_true_eq]
      constructor
      · rintro ⟨h1 | h1 | h1, h2⟩
        · subst h1; exact absurd rfl h2
        · exact .inr ⟨⟨h1, h2⟩, key x h1⟩
        · simp [BT.nodes] at h1; exact .inl h1
      · rintro (h1 | ⟨⟨h1, h2⟩, _⟩)
        · subst h1; exact ⟨.inr (.inr (by simp [BT.nodes])), hh⟩
        · exact ⟨.inr (.inl h1), h2⟩
    · rw [fill_len, ex]
      simp [hh, BT.list, BT.nodes]
end Go.Proofs.YtoecmoicaklbaaaDoor

/- Trees of prefixes: cut, look, lists in order: plain. -/
set_option linter.unusedVariables false
namespace Go.Proofs.YtoecmoicaklbaaaDoor
open Go Go.RowKit Wc

def BT.isNil : BT → Bool
  | .nil => true
  | _ => false
/-- What is left of a node. -/
def BT.only : BT → BT
  | .nil => .nil
  | .node b n k h l r => if h ≠ 0 ∨ (l.isNil = false ∧ r.isNil = false) then .node b n k h l r else if l.isNil = false then l else r
theorem only_node (b n k h : Nat) (l r : BT) : (BT.node b n k h l r).only = if h ≠ 0 ∨ (l.isNil = false ∧ r.isNil = false) then .node b n k h l r else if l.isNil = false then l else r := rfl
theorem nil_nodes {t : BT} (h : t.isNil = true) : t = .nil := by cases t with | nil => rfl | node => cases h
theorem only_list (t : BT) : t.only.list = t.list := by
  cases t with
  | nil => rfl
  | node b n k h l r =>
    rw [only_node]
    split
    · rfl
    · rename_i hx
      have h0 : h = 0 := Classical.byContradiction fun h0 => hx (.inl h0)
      subst h0
      split
      · rename_i hl
        have hr : r.isNil = true := by
          cases hr : r.isNil with
          | true => rfl
          | false => exact absurd (.inr ⟨hl, hr⟩) hx
        rw [nil_nodes hr]
        simp [BT.list, BT.nodes]
      · rename_i hl
        have hl' : l.isNil = true := by simpa using hl
        rw [nil_nodes hl']
        simp [BT.list, BT.nodes]
theorem only_wf {t : BT} (hw : t.wf) : t.only.wf := by
  cases t with
  | nil => exact hw
  | node b n k h l r =>
    rw [only_node]
    split
    · exact hw
    · split
      · exact hw.2.2.2.1
      · exact hw.2.2.2.2
theorem und_trans {d e : Bool} {n k n' k' : Nat} {t : BT} (hp : VP false n k) (hv : VP false n' k') (hw : t.wf) (h1 : k < k') (h2 : cov false n k n' k') (h3 : bitAt false n' k = d.toNat) (hu : Und e n' k' t) : Und d n k t := by
  cases t with
  | nil => trivial
  | node b1 n1 k1 h1' l1 r1 =>
    obtain ⟨u1, u2, u3⟩ := hu
    have hk1 : k1 ≤ 32 := hw.1.2.1
    have hk' : k' ≤ 32 := hv.2.1
    refine ⟨by omega, covTr hp hv h2 u2, ?_⟩
    rw [← h3]
    exact tp_bit (tp_mono ((covT hv).1 u2).2 (by omega) hk') (by omega)
theorem only_und {d : Bool} {n k : Nat} {t : BT} (hp : VP false n k) (hw : t.wf) (hu : Und d n k t) : Und d n k t.only := by
  cases t with
  | nil => exact hu
  | node b n1 k1 h l r =>
    obtain ⟨u1, u2, u3⟩ := hu
    obtain ⟨hv, ul, ur, wl, wr⟩ := hw
    rw [only_node]
    split
    · exact ⟨u1, u2, u3⟩
    · split
      · exact und_trans hp hv wl u1 u2 u3 ul
      · exact und_trans hp hv wr u1 u2 u3 ur
theorem only_head {c : List Fr} {t : BT} (hw : (plug c t).wf) : headUnd c t.only := by
  obtain ⟨h1, h2, _⟩ := plug_wf hw
  cases c with
  | nil => trivial
  | cons f c =>
    obtain ⟨g1, _, _⟩ := plug_wf (c := c) (t := f.fill t) hw
    exact only_und (fill_wf.1 g1).1 h1 h2
/-- The tree after a cut. -/
def cutT (c : List Fr) (t : BT) : BT :=
  match c with
  | [] => t.only
  | f :: c => plug c (f.fill t.only).only
theorem cut_says {c : List Fr} {b n k h : Nat} {l r : BT} (hw : (plug c (.node b n k h l r)).wf) (ho : onPath c n k) (hh : h ≠ 0) :
    (cutT c (.node b n k 0 l r)).wf ∧ (∀ x, x ∈ (cutT c (.node b n k 0 l r)).list ↔ x ∈ (plug c (.node b n k h l r)).list ∧ ¬ (x.1 = n ∧ x.2.1 = k)) ∧
    (cutT c (.node b n k 0 l r)).list.length + 1 = (plug c (.node b n k h l r)).list.length := by
  obtain ⟨w1, u1, w3⟩ := plug_wf hw
  have hp : VP false n k := w1.1
  have w0 : (BT.node b n k 0 l r).wf := w1
  have hu0 : headUnd c (.node b n k 0 l r) := by cases c with | nil => trivial | cons f c => exact u1
  have W0 : (plug c (.node b n k 0 l r)).wf := w3 _ w0 hu0
  have key : ∀ x, x ∈ (BT.node b n k 0 l r).list → ¬ (x.1 = n ∧ x.2.1 = k) := fun x hx e => by
    obtain ⟨hv, ul, ur, wl, wr⟩ := w1
    simp only [BT.list, BT.nodes, List.filter_cons] at hx
    rw [if_neg (by simp)] at hx
    rcases List.mem_append.1 (List.mem_filter.1 hx).1 with hx | hx
    · have := (und_nodes wl hv ul x hx).2.1; omega
    · have := (und_nodes wr hv ur x hx).2.1; omega
  have e0 : (BT.node b n k h l r).list = (n, k, h) :: (BT.node b n k 0 l r).list := by
    simp only [BT.list, BT.nodes, List.filter_cons]
    rw [if_pos (by simpa using hh), if_neg (by simp)]
  have mem0 : ∀ x, x ∈ (plug c (.node b n k 0 l r)).list ↔ x ∈ (plug c (.node b n k h l r)).list ∧ ¬ (x.1 = n ∧ x.2.1 = k) := fun x => by
    rw [mem_plug, mem_plug, e0, List.mem_cons]
    constructor
    · rintro (⟨h1, h2⟩ | h1)
      · exact ⟨.inl ⟨h1, h2⟩, path_key hw ho hp x h1⟩
      · exact ⟨.inr (.inr h1), key x h1⟩
    · rintro ⟨⟨h1, h2⟩ | h1 | h1, hne⟩
      · exact .inl ⟨h1, h2⟩
      · rw [h1] at hne; exact absurd ⟨rfl, rfl⟩ hne
      · exact .inr h1
  have len0 : (plug c (.node b n k 0 l r)).list.length + 1 = (plug c (.node b n k h l r)).list.length := by
    rw [list_len, list_len, e0, List.length_cons]; omega
  have eL : (cutT c (.node b n k 0 l r)).list = (plug c (.node b n k 0 l r)).list ∧ (cutT c (.node b n k 0 l r)).wf := by
    have wo := only_wf w0
    have ho' := only_head W0
    have W1 := (plug_wf W0).2.2 _ wo ho'
    cases c with
    | nil => exact ⟨only_list (.node b n k 0 l r), wo⟩
    | cons f c =>
      have W1' : (plug c (f.fill (BT.node b n k 0 l r).only)).wf := W1
      obtain ⟨a1, a2, a3⟩ := plug_wf W1'
      refine ⟨?_, a3 _ (only_wf a1) (only_head W1')⟩
      show (plug c (f.fill (BT.node b n k 0 l r).only).only).list = (plug c (f.fill (BT.node b n k 0 l r))).list
      have lf : ∀ {t t' : BT}, t.list = t'.list → (f.fill t).list = (f.fill t').list := fun {t t'} e => by
        unfold Fr.fill BT.list at *
        cases f.d <;> simp only [BT.nodes, List.filter_cons, List.filter_append, Bool.false_eq_true, if_true, if_false, e]
      have lp : ∀ {t t' : BT}, t.list = t'.list → (plug c t).list = (plug c t').list := fun {t t'} e => by
        unfold BT.list at *
        rw [plug_nodes, plug_nodes, List.filter_append, List.filter_append, List.filter_append, List.filter_append, e]
      exact lp ((only_list _).trans (lf (only_list _)))
  exact ⟨eL.2, fun x => by rw [eL.1]; exact mem0 x, by rw [eL.1]; exact len0⟩

/-- Lists in order with the same members are the same. -/
theorem sorted_ext : ∀ {a b : List (Nat × Nat × Nat)}, a.Pairwise lt3 → b.Pairwise lt3 → (∀ x, x ∈ a ↔ x ∈ b) → a = b
  | [], [], _, _, _ => rfl
  | [], y :: b, _, _, h => by have := (h y).2 List.mem_cons_self; cases this
  | x :: a, [], _, _, h => by have := (h x).1 List.mem_cons_self; cases this
  | x :: a, y :: b, ha, hb, h => by
    rw [List.pairwise_cons] at ha hb
    have exy : x = y := by
      rcases List.mem_cons.1 ((h x).1 List.mem_cons_self) with e | e
      · exact e
      · rcases List.mem_cons.1 ((h y).2 List.mem_cons_self) with e' | e'
        · exact e'.symm
        · have h1 := hb.1 x e
          have h2 := ha.1 y e'
          unfold lt3 at h1 h2
          omega
    subst exy
    rw [sorted_ext ha.2 hb.2 (fun z => ?_)]
    constructor
    · intro hz
      rcases List.mem_cons.1 ((h z).1 (List.mem_cons_of_mem _ hz)) with e | e
      · subst e
        have := ha.1 z hz
        unfold lt3 at this; omega
      · exact e
    · intro hz
      rcases List.mem_cons.1 ((h z).2 (List.mem_cons_of_mem _ hz)) with e | e
      · subst e
        have := hb.1 z hz
        unfold lt3 at this; omega
      · exact e
theorem list_sorted {t : BT} (hw : t.wf) : t.list.Pairwise lt3 := (wf_sorted hw).sublist List.filter_sublist

/-- Where an address goes: the deepest of those that cover it. -/
def lookC : List Fr → Nat × Nat
  | [] => (0, 0)
  | f :: c => if f.h ≠ 0 then (f.h, f.k) else lookC c
theorem path_dec : ∀ {c : List Fr} {t : BT} {f : Fr}, (plug (f :: c) t).wf → ∀ g ∈ c, g.k < f.k
  | [], _, _, _, g, hg => by cases hg
  | g :: c, t, f, hw, x, hx => by
    have hw' : (plug (g :: c) (f.fill t)).wf := hw
    have h1 := (plug_wf (c := g :: c) (t := f.fill t) hw').2.1
    have hgf : g.k < f.k := by
      have h2 : Und g.d g.n g.k (f.fill t) := h1
      unfold Fr.fill at h2
      cases hd : f.d
      · rw [hd] at h2; exact h2.1
      · rw [hd] at h2; exact h2.1
    rcases List.mem_cons.1 hx with rfl | hx
    · exact hgf
    · have := path_dec hw' x hx
      omega
theorem lookC_says : ∀ {c : List Fr} {t : BT}, (plug c t).wf → ((lookC c = (0, 0) ∧ ∀ f ∈ c, f.h = 0) ∨ ∃ f ∈ c, f.h ≠ 0 ∧ lookC c = (f.h, f.k) ∧ ∀ g ∈ c, g.h ≠ 0 → g.k ≤ f.k)
  | [], _, _ => .inl ⟨rfl, fun f hf => by cases hf⟩
  | f :: c, t, hw => by
    by_cases h : f.h = 0
    · have e : lookC (f :: c) = lookC c := by show (if f.h ≠ 0 then _ else _) = _; rw [if_neg (by simpa using h)]
      rcases lookC_says (c := c) (t := f.fill t) hw with ⟨h1, h2⟩ | ⟨g, hg, h1, h2, h3⟩
      · refine .inl ⟨e.trans h1, fun g hg => ?_⟩
        rcases List.mem_cons.1 hg with rfl | hg
        · exact h
        · exact h2 g hg
      · refine .inr ⟨g, List.mem_cons_of_mem _ hg, h1, e.trans h2, fun x hx hx0 => ?_⟩
        rcases List.mem_cons.1 hx with rfl | hx
        · exact absurd h hx0
        · exact h3 x hx hx0
    · refine .inr ⟨f, List.mem_cons_self, h, if_pos h, fun g hg _ => ?_⟩
      rcases List.mem_cons.1 hg with rfl | hg
      · exact Nat.le_refl _
      · exact Nat.le_of_lt (path_dec hw g hg)
/-- What is told of an address. -/
def Goes (L : List (Nat × Nat × Nat)) (a hop len : Nat) : Prop :=
  (hop = 0 ∧ len = 0 ∧ ∀ x ∈ L, ¬ cutN 32 a x.2.1 = x.1) ∨ ∃ x ∈ L, cutN 32 a x.2.1 = x.1 ∧ hop = x.2.2 ∧ len = x.2.1 ∧ ∀ y ∈ L, cutN 32 a y.2.1 = y.1 → y.2.1 ≤ x.2.1
theorem look_says {c : List Fr} {t : BT} {a : Nat} (hw : (plug c t).wf) (ha : Fits false a) (ho : onPath c a 32) (hs : Stop t a 32) :
    Goes (plug c t).list a (if exactH t a 32 ≠ 0 then exactH t a 32 else (lookC c).1) (if exactH t a 32 ≠ 0 then 32 else (lookC c).2) := by
  have hp : VP false a 32 := ⟨ha, by decide, by show cutN 32 a 32 = a; exact cut_full 32 a⟩
  have ht := (plug_wf hw).1
  have vp : ∀ x ∈ (plug c t).list, x.2.1 ≤ 32 := fun x hx => by
    have hx' := (List.mem_filter.1 hx).1
    cases hT : plug c t with
    | nil => rw [hT] at hx'; cases hx'
    | node b1 n1 k1 h1 l1 r1 =>
      rw [hT] at hx' hw
      exact (wf_cov hw rfl x hx').1.2.1
  have cvr : ∀ x ∈ (plug c t).list, cutN 32 a x.2.1 = x.1 → (∃ f ∈ c, x = (f.n, f.k, f.h)) ∨ x = (a, 32, exactH t a 32) := fun x hx he => by
    have hc : cov false x.1 x.2.1 a 32 := ⟨vp x hx, he⟩
    rcases mem_plug.1 hx with ⟨h1, _⟩ | h1
    · exact .inl (path_sib hw ho x (List.mem_append.2 h1) hc)
    · exact .inr (stop_nodes ht hp hs x (List.mem_filter.1 h1).1 hc)
  have frm : ∀ f ∈ c, f.h ≠ 0 → (f.n, f.k, f.h) ∈ (plug c t).list ∧ cutN 32 a f.k = f.n ∧ f.k < 32 := fun f hf h0 => by
    obtain ⟨_, o2, o3, _⟩ := ho f hf
    refine ⟨?_, o2.2, o3⟩
    rw [mem_plug]
    refine .inl ⟨?_, h0⟩
    have mm : ∀ {c : List Fr}, f ∈ c → (f.n, f.k, f.h) ∈ preN c := fun {c} => by
      induction c with
      | nil => intro h; cases h
      | cons g c ih =>
        intro h
        simp only [preN, List.mem_append, List.mem_cons]
        rcases List.mem_cons.1 h with rfl | h
        · exact .inr (.inl rfl)
        · exact .inl (ih h)
    exact .inl (mm hf)
  by_cases hex : exactH t a 32 = 0
  · rw [if_neg (by simpa using hex), if_neg (by simpa using hex)]
    have non : ∀ x ∈ (plug c t).list, cutN 32 a x.2.1 = x.1 → ∃ f ∈ c, x = (f.n, f.k, f.h) := fun x hx he => by
      rcases cvr x hx he with h | h
      · exact h
      · exfalso
        have := (List.mem_filter.1 hx).2
        rw [h] at this
        simp [hex] at this
    rcases lookC_says hw with ⟨e, h0⟩ | ⟨f, hf, h0, e, hmax⟩
    · rw [e]
      refine .inl ⟨rfl, rfl, fun x hx he => ?_⟩
      obtain ⟨f, hf, rfl⟩ := non x hx he
      have := (List.mem_filter.1 hx).2
      simp [h0 f hf] at this
    · rw [e]
      obtain ⟨m1, m2, _⟩ := frm f hf h0
      refine .inr ⟨_, m1, m2, rfl, rfl, fun y hy he => ?_⟩
      obtain ⟨g, hg, rfl⟩ := non y hy he
      have := (List.mem_filter.1 hy).2
      exact hmax g hg (by simpa using this)
  · rw [if_pos hex, if_pos hex]
    have hm : (a, 32, exactH t a 32) ∈ (plug c t).list := (get_says hw ho hp hs _ hex).2 rfl
    exact .inr ⟨_, hm, cut_full 32 a, rfl, rfl, fun y hy _ => vp y hy⟩
theorem goes_unique {L L' : List (Nat × Nat × Nat)} {a h l h' l' : Nat} (hs : L.Pairwise lt3) (hL : ∀ x, x ∈ L ↔ x ∈ L') (g : Goes L a h l) (g' : Goes L' a h' l') : h = h' ∧ l = l' := by
  rcases g with ⟨rfl, rfl, n⟩ | ⟨x, hx, cx, rfl, rfl, mx⟩
  · rcases g' with ⟨rfl, rfl, _⟩ | ⟨y, hy, cy, rfl, rfl, my⟩
    · exact ⟨rfl, rfl⟩
    · exact absurd cy (n y ((hL y).2 hy))
  · rcases g' with ⟨rfl, rfl, n⟩ | ⟨y, hy, cy, rfl, rfl, my⟩
    · exact absurd cx (n x ((hL x).1 hx))
    · have hy' := (hL y).2 hy
      have e : x.2.1 = y.2.1 := Nat.le_antisymm (my x ((hL x).1 hx) cx) (mx y hy' cy)
      have e2 : x.1 = y.1 := by rw [← cx, ← cy, e]
      have e3 : x = y := by
        apply Classical.byContradiction
        intro hne
        obtain ⟨i, hi, ei⟩ := List.getElem_of_mem hx
        obtain ⟨j, hj, ej⟩ := List.getElem_of_mem hy'
        rcases Nat.lt_trichotomy i j with hij | hij | hij
        · have h : lt3 x y := by rw [← ei, ← ej]; exact List.pairwise_iff_getElem.1 hs i j hi hj hij
          unfold lt3 at h; omega
        · subst hij; exact absurd (ei.symm.trans ej) hne
        · have h : lt3 y x := by rw [← ei, ← ej]; exact List.pairwise_iff_getElem.1 hs j i hj hi hij
          unfold lt3 at h; omega
      rw [e3]
      exact ⟨rfl, rfl⟩
end Go.Proofs.YtoecmoicaklbaaaDoor
