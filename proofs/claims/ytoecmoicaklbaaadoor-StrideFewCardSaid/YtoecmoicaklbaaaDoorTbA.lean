
/- Tables as lists in order, and acts on them: plain. -/
import Derived.Test.YtoecmoicaklbaaaDoorTbl0
import Derived.Test.YtoecmoicaklbaaaDoorActs
set_option linter.unusedVariables false
namespace Go.Proofs.YtoecmoicaklbaaaDoor
open Go Go.RowKit Wc

/-- A list of routes in order, each with a hop. -/
def Srt (L : List (Nat × Nat × Nat)) : Prop := L.Pairwise lt3
def Hops (L : List (Nat × Nat × Nat)) : Prop := ∀ x ∈ L, x.2.2 ≠ 0
def hasL : List (Nat × Nat × Nat) → Nat → Nat → Nat
  | [], _, _ => 0
  | x :: L, n, k => if x.1 = n ∧ x.2.1 = k then x.2.2 else hasL L n k
def putL : List (Nat × Nat × Nat) → Nat → Nat → Nat → List (Nat × Nat × Nat)
  | [], n, k, h => [(n, k, h)]
  | x :: L, n, k, h => if x.1 < n ∨ (x.1 = n ∧ x.2.1 < k) then x :: putL L n k h else if x.1 = n ∧ x.2.1 = k then (n, k, h) :: L else (n, k, h) :: x :: L
def cutL (L : List (Nat × Nat × Nat)) (n k : Nat) : List (Nat × Nat × Nat) := L.filter (fun x => decide (¬ (x.1 = n ∧ x.2.1 = k)))
def goesL : List (Nat × Nat × Nat) → Nat → Nat × Nat
  | [], _ => (0, 0)
  | x :: L, a => if (goesL L a).1 ≠ 0 then goesL L a else if cutN 32 a x.2.1 = x.1 then (x.2.2, x.2.1) else (0, 0)

theorem mem_cutL {L : List (Nat × Nat × Nat)} {n k : Nat} {x : Nat × Nat × Nat} : x ∈ cutL L n k ↔ x ∈ L ∧ ¬ (x.1 = n ∧ x.2.1 = k) := by
  unfold cutL; rw [List.mem_filter, decide_eq_true_eq]
theorem srt_cutL {L : List (Nat × Nat × Nat)} (hs : Srt L) (n k : Nat) : Srt (cutL L n k) := hs.sublist List.filter_sublist
theorem hops_cutL {L : List (Nat × Nat × Nat)} (hs : Hops L) (n k : Nat) : Hops (cutL L n k) := fun x hx => hs x (mem_cutL.1 hx).1
theorem mem_putL : ∀ {L : List (Nat × Nat × Nat)} (hs : Srt L) {n k h : Nat} {x : Nat × Nat × Nat}, x ∈ putL L n k h ↔ x = (n, k, h) ∨ (x ∈ L ∧ ¬ (x.1 = n ∧ x.2.1 = k))
  | [], _, n, k, h, x => by simp [putL]
  | y :: L, hs, n, k, h, x => by
    unfold Srt at hs
    rw [List.pairwise_cons] at hs
    have IH := mem_putL (L := L) hs.2 (n := n) (k := k) (h := h) (x := x)
    unfold putL
    split
    · rename_i hlt
      rw [List.mem_cons, IH, List.mem_cons]
      constructor
      · rintro (rfl | h1 | ⟨h1, h2⟩)
        · exact .inr ⟨.inl rfl, by omega⟩
        · exact .inl h1
        · exact .inr ⟨.inr h1, h2⟩
      · rintro (h1 | ⟨rfl | h1, h2⟩)
        · exact .inr (.inl h1)
        · exact .inl rfl
        · exact .inr (.inr ⟨h1, h2⟩)
    · rename_i hlt
      split
      · rename_i he
        rw [List.mem_cons, List.mem_cons]
        constructor
        · rintro (h1 | h1)
          · exact .inl h1
          · refine .inr ⟨.inr h1, fun e => ?_⟩
            have := hs.1 x h1
            unfold lt3 at this; omega
        · rintro (h1 | ⟨rfl | h1, h2⟩)
          · exact .inl h1
          · exact absurd he h2
          · exact .inr h1
      · rename_i he
        rw [List.mem_cons, List.mem_cons]
        constructor
        · rintro (h1 | rfl | h1)
          · exact .inl h1
          · exact .inr ⟨.inl rfl, he⟩
          · refine .inr ⟨.inr h1, fun e => ?_⟩
            have := hs.1 x h1
            unfold lt3 at this; omega
        · rintro (h1 | ⟨h1, h2⟩)
          · exact .inl h1
          · exact .inr h1
theorem srt_putL : ∀ {L : List (Nat × Nat × Nat)} (hs : Srt L) (n k h : Nat), Srt (putL L n k h)
  | [], _, n, k, h => List.pairwise_singleton _ _
  | y :: L, hs, n, k, h => by
    have hs0 := hs
    unfold Srt at hs
    rw [List.pairwise_cons] at hs
    unfold putL
    split
    · rename_i hlt
      refine List.pairwise_cons.2 ⟨fun x hx => ?_, srt_putL hs.2 n k h⟩
      rcases (mem_putL hs.2).1 hx with rfl | ⟨h1, _⟩
      · unfold lt3; exact hlt
      · exact hs.1 x h1
    · rename_i hlt
      split
      · rename_i he
        refine List.pairwise_cons.2 ⟨fun x hx => ?_, hs.2⟩
        have := hs.1 x hx
        unfold lt3 at this ⊢
        dsimp only; omega
      · rename_i he
        refine List.pairwise_cons.2 ⟨fun x hx => ?_, hs0⟩
        rcases List.mem_cons.1 hx with rfl | hx
        · unfold lt3; dsimp only; omega
        · have := hs.1 x hx
          unfold lt3 at this ⊢
          dsimp only; omega
theorem hops_putL {L : List (Nat × Nat × Nat)} (hs : Srt L) (hh : Hops L) {n k h : Nat} (h0 : h ≠ 0) : Hops (putL L n k h) := fun x hx => by
  rcases (mem_putL hs).1 hx with rfl | ⟨h1, _⟩
  · exact h0
  · exact hh x h1
theorem has_none : ∀ {L : List (Nat × Nat × Nat)} (hh : Hops L) {n k : Nat}, hasL L n k = 0 ↔ ∀ x ∈ L, ¬ (x.1 = n ∧ x.2.1 = k)
  | [], _, n, k => ⟨fun _ x hx => absurd hx List.not_mem_nil, fun _ => rfl⟩
  | y :: L, hh, n, k => by
    have IH := has_none (L := L) (fun x hx => hh x (List.mem_cons_of_mem _ hx)) (n := n) (k := k)
    unfold hasL
    split
    · rename_i he
      exact ⟨fun h => absurd h (hh y List.mem_cons_self), fun h => absurd he (h y List.mem_cons_self)⟩
    · rename_i he
      rw [IH]
      constructor
      · intro h x hx
        rcases List.mem_cons.1 hx with rfl | hx
        · exact he
        · exact h x hx
      · exact fun h x hx => h x (List.mem_cons_of_mem _ hx)
theorem hasL_mem : ∀ {L : List (Nat × Nat × Nat)} (hs : Srt L) {n k h : Nat}, (n, k, h) ∈ L → hasL L n k = h
  | y :: L, hs, n, k, h, hm => by
    unfold Srt at hs
    rw [List.pairwise_cons] at hs
    unfold hasL
    rcases List.mem_cons.1 hm with rfl | hm
    · simp
    · rw [if_neg]
      · exact hasL_mem hs.2 hm
      · intro e
        have := hs.1 _ hm
        unfold lt3 at this; dsimp only at this; omega
theorem mem_hasL : ∀ {L : List (Nat × Nat × Nat)} {n k : Nat}, hasL L n k ≠ 0 → (n, k, hasL L n k) ∈ L
  | [], n, k, h => absurd rfl h
  | y :: L, n, k, h => by
    unfold hasL at h ⊢
    split at h
    · rename_i he
      rw [if_pos he]
      obtain ⟨rfl, rfl⟩ := he
      exact List.mem_cons_self
    · rename_i he
      rw [if_neg he]
      exact List.mem_cons_of_mem _ (mem_hasL h)
theorem has_hasL {L : List (Nat × Nat × Nat)} (hs : Srt L) (n k h' : Nat) (h0 : h' ≠ 0) : (n, k, h') ∈ L ↔ hasL L n k = h' :=
  ⟨fun hm => hasL_mem hs hm, fun e => by rw [← e]; exact mem_hasL (by rw [e]; exact h0)⟩
theorem len_putL : ∀ {L : List (Nat × Nat × Nat)} (hs : Srt L) (hh : Hops L) (n k h : Nat), (putL L n k h).length = L.length + (if hasL L n k = 0 then 1 else 0)
  | [], _, _, n, k, h => rfl
  | y :: L, hs, hh, n, k, h => by
    have hs0 := hs
    unfold Srt at hs
    rw [List.pairwise_cons] at hs
    have hh' : Hops L := fun x hx => hh x (List.mem_cons_of_mem _ hx)
    unfold putL
    split
    · rename_i hlt
      rw [List.length_cons, len_putL hs.2 hh' n k h, List.length_cons]
      have e : hasL (y :: L) n k = hasL L n k := by
        rw [hasL, if_neg (by omega)]
      rw [e]; omega
    · rename_i hlt
      split
      · rename_i he
        have e : hasL (y :: L) n k = y.2.2 := by rw [hasL, if_pos he]
        rw [e, if_neg (hh y List.mem_cons_self)]
        rfl
      · rename_i he
        have e : hasL (y :: L) n k = 0 := (has_none hh).2 (fun x hx e => by
          rcases List.mem_cons.1 hx with rfl | hx
          · exact he e
          · have := hs.1 x hx
            unfold lt3 at this; omega)
        rw [e, if_pos rfl]
        rfl
theorem hasL_put {L : List (Nat × Nat × Nat)} (hs : Srt L) (hh : Hops L) {n k h : Nat} (h0 : h ≠ 0) (m l : Nat) : hasL (putL L n k h) m l = if m = n ∧ l = k then h else hasL L m l := by
  have S := srt_putL hs n k h
  have H := hops_putL hs hh (n := n) (k := k) h0
  split
  · rename_i e
    obtain ⟨rfl, rfl⟩ := e
    exact hasL_mem S ((mem_putL hs).2 (.inl rfl))
  · rename_i e
    by_cases hz : hasL L m l = 0
    · rw [hz, has_none H]
      intro x hx ex
      rcases (mem_putL hs).1 hx with rfl | ⟨h1, _⟩
      · exact e ⟨ex.1.symm, ex.2.symm⟩
      · exact (has_none hh).1 hz x h1 ex
    · exact hasL_mem S ((mem_putL hs).2 (.inr ⟨mem_hasL hz, e⟩))
theorem hasL_cut {L : List (Nat × Nat × Nat)} (hs : Srt L) (hh : Hops L) (n k m l : Nat) : hasL (cutL L n k) m l = if m = n ∧ l = k then 0 else hasL L m l := by
  have S := srt_cutL hs n k
  have H := hops_cutL hh n k
  split
  · rename_i e
    obtain ⟨rfl, rfl⟩ := e
    exact (has_none H).2 (fun x hx => (mem_cutL.1 hx).2)
  · rename_i e
    by_cases hz : hasL L m l = 0
    · rw [hz, has_none H]
      exact fun x hx => (has_none hh).1 hz x (mem_cutL.1 hx).1
    · exact hasL_mem S (mem_cutL.2 ⟨mem_hasL hz, e⟩)
/-- Tables that tell the same are the same. -/
theorem tab_ext {L M : List (Nat × Nat × Nat)} (hs : Srt L) (hh : Hops L) (ms : Srt M) (mh : Hops M) (h : ∀ n k, hasL L n k = hasL M n k) : L = M := by
  refine sorted_ext hs ms (fun x => ?_)
  obtain ⟨n, k, g⟩ := x
  constructor
  · intro hx
    have h0 := hh _ hx
    exact (has_hasL ms n k g h0).2 ((h n k).symm.trans ((has_hasL hs n k g h0).1 hx))
  · intro hx
    have h0 := mh _ hx
    exact (has_hasL hs n k g h0).2 ((h n k).trans ((has_hasL ms n k g h0).1 hx))
theorem cutL_none {L : List (Nat × Nat × Nat)} (hh : Hops L) {n k : Nat} (h : hasL L n k = 0) : cutL L n k = L := by
  refine List.filter_eq_self.2 (fun x hx => ?_)
  rw [decide_eq_true_eq]
  exact (has_none hh).1 h x hx

theorem cut_cut {a k l : Nat} (h : k ≤ l) (hl : l ≤ 32) : cutN 32 (cutN 32 a l) k = cutN 32 a k := by
  unfold cutN
  obtain ⟨d, rfl⟩ : ∃ d, l = k + d := ⟨l - k, by omega⟩
  have e : 32 - k = (32 - (k + d)) + d := by omega
  rw [e, Nat.pow_add, ← Nat.div_div_eq_div_mul, ← Nat.div_div_eq_div_mul, Nat.mul_div_cancel _ (Nat.two_pow_pos _)]
theorem goesL_says : ∀ {L : List (Nat × Nat × Nat)} (hs : Srt L) (hh : Hops L) (hv : ∀ x ∈ L, VP false x.1 x.2.1) (a : Nat), Goes L a (goesL L a).1 (goesL L a).2 ∧ ((goesL L a).1 = 0 → ∀ x ∈ L, ¬ cutN 32 a x.2.1 = x.1)
  | [], _, _, _, a => ⟨.inl ⟨rfl, rfl, fun x hx => absurd hx List.not_mem_nil⟩, fun _ x hx => absurd hx List.not_mem_nil⟩
  | y :: L, hs, hh, hv, a => by
    have hs0 := hs
    unfold Srt at hs
    rw [List.pairwise_cons] at hs
    obtain ⟨g1, g2⟩ := goesL_says (L := L) hs.2 (fun x hx => hh x (List.mem_cons_of_mem _ hx)) (fun x hx => hv x (List.mem_cons_of_mem _ hx)) a
    unfold goesL
    by_cases h0 : (goesL L a).1 ≠ 0
    · rw [if_pos h0]
      refine ⟨?_, fun h => absurd h h0⟩
      rcases g1 with ⟨h1, _⟩ | ⟨x, hx, c, e1, e2, mx⟩
      · exact absurd h1 h0
      · refine .inr ⟨x, List.mem_cons_of_mem _ hx, c, e1, e2, fun z hz cz => ?_⟩
        rcases List.mem_cons.1 hz with rfl | hz
        · have hlt := hs.1 x hx
          have v1 := hv x (List.mem_cons_of_mem _ hx)
          have v2 := hv z List.mem_cons_self
          rcases Nat.lt_or_ge x.2.1 z.2.1 with hk | hk
          · exfalso
            have := cut_cut (a := a) (Nat.le_of_lt hk) (show z.2.1 ≤ 32 from v2.2.1)
            rw [cz, c] at this
            have h3 := cutN_le 32 z.1 x.2.1
            rw [this] at h3
            unfold lt3 at hlt; omega
          · exact hk
        · exact mx z hz cz
    · rw [if_neg h0]
      have h0' : (goesL L a).1 = 0 := by omega
      have non := g2 h0'
      by_cases hc : cutN 32 a y.2.1 = y.1
      · rw [if_pos hc]
        refine ⟨.inr ⟨y, List.mem_cons_self, hc, rfl, rfl, fun z hz cz => ?_⟩, fun h => absurd h (hh y List.mem_cons_self)⟩
        rcases List.mem_cons.1 hz with rfl | hz
        · exact Nat.le_refl _
        · exact absurd cz (non z hz)
      · rw [if_neg hc]
        have all : ∀ x ∈ y :: L, ¬ cutN 32 a x.2.1 = x.1 := fun x hx => by
          rcases List.mem_cons.1 hx with rfl | hx
          · exact hc
          · exact non x hx
        exact ⟨.inl ⟨rfl, rfl, all⟩, fun _ => all⟩
theorem goes_eq {L : List (Nat × Nat × Nat)} (hs : Srt L) (hh : Hops L) (hv : ∀ x ∈ L, VP false x.1 x.2.1) {a h l : Nat} (g : Goes L a h l) : h = (goesL L a).1 ∧ l = (goesL L a).2 :=
  goes_unique hs (fun _ => Iff.rfl) g (goesL_says hs hh hv a).1

/-- What an act on a table comes to. -/
structure AnsD where
  code : Nat
  hop : Nat
  len : Nat
def hadA (h wide : Nat) : AnsD := if h = 0 then ⟨7, 0, 0⟩ else ⟨0, h, wide⟩
def tstep (L : List (Nat × Nat × Nat)) (x : ActD) : List (Nat × Nat × Nat) × AnsD :=
  if x.kind = 3 then (L, ⟨0, (goesL L x.a).1, (goesL L x.a).2⟩)
  else if x.kind = 2 then (cutL L x.n x.k, hadA (hasL L x.n x.k) 0)
  else if x.kind = 4 then (L, hadA (hasL L x.n x.k) x.k)
  else if L.length = 60 ∧ hasL L x.n x.k = 0 then (L, ⟨9, 0, 0⟩)
  else (putL L x.n x.k x.hop, ⟨0, hasL L x.n x.k, 0⟩)
def trun : List (Nat × Nat × Nat) → List ActD → List AnsD
  | _, [] => []
  | L, x :: l => (tstep L x).2 :: trun (tstep L x).1 l
def tend : List (Nat × Nat × Nat) → List ActD → List (Nat × Nat × Nat)
  | L, [] => L
  | L, x :: l => tend (tstep L x).1 l
/-- An act that may be done to a table. -/
structure ActD.fit (x : ActD) : Prop where
  vp : VP false x.n x.k
  fa : Fits false x.a
  kd : 1 ≤ x.kind ∧ x.kind ≤ 4
  hop : x.kind = 1 → 1 ≤ x.hop
  top : x.hop ≤ 999
/-- A table that may be. -/
structure TabOk (L : List (Nat × Nat × Nat)) : Prop where
  srt : Srt L
  hops : Hops L
  vp : ∀ x ∈ L, VP false x.1 x.2.1
  top : ∀ x ∈ L, x.2.2 ≤ 999
  len : L.length ≤ 60
theorem TabOk.nil : TabOk [] := ⟨List.Pairwise.nil, fun _ h => absurd h List.not_mem_nil, fun _ h => absurd h List.not_mem_nil, fun _ h => absurd h List.not_mem_nil, Nat.zero_le _⟩
theorem TabOk.step {L : List (Nat × Nat × Nat)} (t : TabOk L) {x : ActD} (hx : x.fit) : TabOk (tstep L x).1 := by
  unfold tstep
  split
  · exact t
  · split
    · exact ⟨srt_cutL t.srt _ _, hops_cutL t.hops _ _, fun y hy => t.vp y (mem_cutL.1 hy).1, fun y hy => t.top y (mem_cutL.1 hy).1, Nat.le_trans (List.length_filter_le _ _) t.len⟩
    · split
      · exact t
      · rename_i h3 h2 h4
        have hk : x.kind = 1 := by have := hx.kd; omega
        have h0 : x.hop ≠ 0 := by have := hx.hop hk; omega
        split
        · exact t
        · rename_i hf
          refine ⟨srt_putL t.srt _ _ _, hops_putL t.srt t.hops h0, fun y hy => ?_, fun y hy => ?_, ?_⟩
          · rcases (mem_putL t.srt).1 hy with rfl | ⟨h1, _⟩
            · exact hx.vp
            · exact t.vp y h1
          · rcases (mem_putL t.srt).1 hy with rfl | ⟨h1, _⟩
            · exact hx.top
            · exact t.top y h1
          · rw [len_putL t.srt t.hops]
            have := t.len
            split
            · rename_i h0; omega
            · omega
theorem trun_len : ∀ (L : List (Nat × Nat × Nat)) (l : List ActD), (trun L l).length = l.length
  | _, [] => rfl
  | L, x :: l => by show (trun _ l).length + 1 = _; rw [trun_len]; rfl
theorem trun_app : ∀ (L : List (Nat × Nat × Nat)) (a b : List ActD), trun L (a ++ b) = trun L a ++ trun (tend L a) b
  | _, [], _ => rfl
  | L, x :: a, b => by show _ :: trun _ (a ++ b) = _; rw [trun_app]; rfl
theorem tend_app : ∀ (L : List (Nat × Nat × Nat)) (a b : List ActD), tend L (a ++ b) = tend (tend L a) b
  | _, [], _ => rfl
  | L, x :: a, b => by show tend _ (a ++ b) = _; rw [tend_app]; rfl
theorem tend_ok : ∀ {L : List (Nat × Nat × Nat)} (t : TabOk L) {l : List ActD}, (∀ x ∈ l, x.fit) → TabOk (tend L l)
  | L, t, [], _ => t
  | L, t, x :: l, h => tend_ok (t.step (h x List.mem_cons_self)) (fun y hy => h y (List.mem_cons_of_mem _ hy))
theorem trun_at {L : List (Nat × Nat × Nat)} {l : List ActD} {i : Nat} {x : ActD} (h : l[i]? = some x) :
    (trun L l)[i]? = some (tstep (tend L (l.take i)) x).2 ∧ tend L (l.take (i + 1)) = (tstep (tend L (l.take i)) x).1 := by
  obtain ⟨hi, rfl⟩ := List.getElem?_eq_some_iff.1 h
  have e : l = l.take i ++ l[i] :: l.drop (i + 1) := by rw [← List.drop_eq_getElem_cons hi, List.take_append_drop]
  have hl : (l.take i).length = i := by rw [List.length_take]; omega
  constructor
  · have e2 : trun L l = trun L (l.take i) ++ trun (tend L (l.take i)) (l[i] :: l.drop (i + 1)) := by rw [← trun_app, ← e]
    rw [e2, List.getElem?_append_right (by rw [trun_len, hl]; exact Nat.le_refl _), trun_len, hl, Nat.sub_self]
    rfl
  · rw [List.take_succ_eq_append_getElem hi, tend_app]
    rfl
def ansCells (x : AnsD) : List Value := [.int .i64 x.code, .int .i64 x.hop, .int .i64 x.len]
theorem ansCells_one (x : AnsD) : ∀ u ∈ ansCells x, u.oneCell' = true := by
  intro u hu
  simp [ansCells] at hu
  rcases hu with rfl | rfl | rfl <;> rfl
end Go.Proofs.YtoecmoicaklbaaaDoor
