
/- Offers: plain laws of what is live and what is best. -/
import Derived.Test.YtllemhknmleklaaOf3
import Derived.Test.YtllemhknmleklaaMp2
set_option linter.unusedVariables false
set_option linter.unusedSimpArgs false
namespace Go.Proofs.Ytllemhknmleklaa
open Go.RowKit Go.Sort Wc Wk Go.WideShapes

/-- An offer as a value. -/
def ofVal (o : OfD) : Value := .agg #[.bool false, .int .u64 (hiOf false o.n), .int .u64 (loOf o.n), .int .i64 o.k, .int .i64 o.src, .int .i64 o.peer, .int .i64 o.met, .int .i64 o.hop]
/-- A map of offers, by a key. -/
def MapM (K : OfD → Lit) (f : Lit → Option Value) (L : List OfD) : Prop :=
  (∀ o ∈ L, f (K o) = some (ofVal o)) ∧ ∀ kl v, WideAt.IsKeyLit kl → f kl = some v → ∃ o ∈ L, kl = K o ∧ v = ofVal o
def mapDel (K : OfD → Lit) (L : List OfD) (o : OfD) : List OfD := L.filter (fun p => !(K p).sameKey (K o))
def mapPut (K : OfD → Lit) (L : List OfD) (o : OfD) : List OfD := mapDel K L o ++ [o]
theorem mem_mapDel {K : OfD → Lit} {L : List OfD} {o p : OfD} : p ∈ mapDel K L o ↔ p ∈ L ∧ (K p).sameKey (K o) = false := by
  unfold mapDel; rw [List.mem_filter]; simp
theorem mem_mapPut {K : OfD → Lit} {L : List OfD} {o p : OfD} : p ∈ mapPut K L o ↔ (p ∈ L ∧ (K p).sameKey (K o) = false) ∨ p = o := by
  unfold mapPut; rw [List.mem_append, mem_mapDel]; simp
theorem MapM.none (K : OfD → Lit) : MapM K (fun _ => none) [] := ⟨fun o ho => by simp at ho, fun kl v _ h => by cases h⟩
theorem MapM.put {K : OfD → Lit} {f : Lit → Option Value} {L : List OfD} (hK : ∀ o, WideAt.IsKeyLit (K o)) (h : MapM K f L) (o : OfD) : MapM K (mput f (K o) (ofVal o)) (mapPut K L o) := by
  refine ⟨fun p hp => ?_, fun kl v hkl hf => ?_⟩
  · unfold mput
    rcases mem_mapPut.1 hp with ⟨h1, h2⟩ | rfl
    · rw [if_neg (by rw [h2]; simp)]
      exact h.1 p h1
    · rw [if_pos (WideAt.sameKey_self (hK _))]
  · unfold mput at hf
    split at hf
    · rename_i hs
      cases hf
      exact ⟨o, mem_mapPut.2 (.inr rfl), WideAt.sameKey_eq hs, rfl⟩
    · rename_i hs
      obtain ⟨p, hp, rfl, rfl⟩ := h.2 kl v hkl hf
      exact ⟨p, mem_mapPut.2 (.inl ⟨hp, by simpa using hs⟩), rfl, rfl⟩
theorem MapM.del {K : OfD → Lit} {f : Lit → Option Value} {L : List OfD} (hK : ∀ o, WideAt.IsKeyLit (K o)) (h : MapM K f L) (o : OfD) : MapM K (mdel f (K o)) (mapDel K L o) := by
  refine ⟨fun p hp => ?_, fun kl v hkl hf => ?_⟩
  · unfold mdel
    obtain ⟨h1, h2⟩ := mem_mapDel.1 hp
    rw [if_neg (by rw [h2]; simp)]
    exact h.1 p h1
  · unfold mdel at hf
    split at hf
    · cases hf
    · rename_i hs
      obtain ⟨p, hp, rfl, rfl⟩ := h.2 kl v hkl hf
      exact ⟨p, mem_mapDel.2 ⟨hp, by simpa using hs⟩, rfl, rfl⟩

def SameK (a b : OfD) : Prop := a.n = b.n ∧ a.k = b.k ∧ a.src = b.src ∧ a.peer = b.peer
def SameP (a b : OfD) : Prop := a.n = b.n ∧ a.k = b.k
instance (a b : OfD) : Decidable (SameK a b) := inferInstanceAs (Decidable (_ ∧ _))
instance (a b : OfD) : Decidable (SameP a b) := inferInstanceAs (Decidable (_ ∧ _))
theorem kl_same {a b : OfD} (ha : a.ok) (hb : b.ok) : a.kl.sameKey b.kl = true ↔ SameK a b := (WideAt.sameKey_iff (show WideAt.IsKeyLit b.kl from trivial)).trans (OfD.ok.kl_inj ha hb)
theorem pl_same {a b : OfD} (ha : a.ok) (hb : b.ok) : a.pl.sameKey b.pl = true ↔ SameP a b := (WideAt.sameKey_iff (show WideAt.IsKeyLit b.pl from trivial)).trans (OfD.ok.pl_inj ha hb)
theorem kl_other {a b : OfD} (ha : a.ok) (hb : b.ok) : a.kl.sameKey b.kl = false ↔ ¬ SameK a b := by rw [← kl_same ha hb]; simp
theorem pl_other {a b : OfD} (ha : a.ok) (hb : b.ok) : a.pl.sameKey b.pl = false ↔ ¬ SameP a b := by rw [← pl_same ha hb]; simp

/-- What comes in. -/
def lstep (L : List OfD) (o : OfD) : List OfD := if o.met = 999 then mapDel OfD.kl (mapPut OfD.kl L o) o else mapPut OfD.kl L o
def liveL (l : List OfD) : List OfD := l.foldl lstep []
theorem liveL_snoc (l : List OfD) (o : OfD) : liveL (l ++ [o]) = lstep (liveL l) o := by simp [liveL]
theorem mem_lstep {L : List OfD} {o p : OfD} : p ∈ lstep L o ↔ (p ∈ L ∧ p.kl.sameKey o.kl = false) ∨ (p = o ∧ o.met ≠ 999) := by
  unfold lstep
  split
  · rename_i hm
    rw [mem_mapDel, mem_mapPut]
    constructor
    · rintro ⟨h | rfl, h2⟩
      · exact .inl h
      · rw [WideAt.sameKey_self (show WideAt.IsKeyLit p.kl from trivial)] at h2; cases h2
    · rintro (h | ⟨_, h⟩)
      · exact ⟨.inl h, h.2⟩
      · exact absurd hm h
  · rename_i hm
    rw [mem_mapPut]
    constructor
    · rintro (h | rfl)
      · exact .inl h
      · exact .inr ⟨rfl, hm⟩
    · rintro (h | ⟨rfl, _⟩)
      · exact .inl h
      · exact .inr rfl
/-- It is the last word of its key. -/
def LastIn (l : List OfD) (p : OfD) : Prop := p.met ≠ 999 ∧ ∃ a b, l = a ++ p :: b ∧ ∀ q ∈ b, ¬ SameK q p
theorem lastIn_nil (p : OfD) : ¬ LastIn [] p := by rintro ⟨_, a, b, h, _⟩; simp at h
theorem lastIn_snoc {l : List OfD} {o p : OfD} : LastIn (l ++ [o]) p ↔ (LastIn l p ∧ ¬ SameK o p) ∨ (p = o ∧ o.met ≠ 999) := by
  constructor
  · rintro ⟨hm, a, b, h, hq⟩
    rcases List.eq_nil_or_concat b with rfl | ⟨b', o', rfl⟩
    · obtain ⟨_, h2⟩ := List.append_inj' h rfl
      simp at h2
      subst h2
      exact .inr ⟨rfl, hm⟩
    · rw [List.concat_eq_append, ← List.cons_append, ← List.append_assoc] at h
      obtain ⟨rfl, h2⟩ := List.append_inj' h rfl
      simp at h2
      subst h2
      exact .inl ⟨⟨hm, a, b', rfl, fun q hq' => hq q (by rw [List.concat_eq_append]; exact List.mem_append_left _ hq')⟩, hq o (by rw [List.concat_eq_append]; simp)⟩
  · rintro (⟨⟨hm, a, b, rfl, hq⟩, hk⟩ | ⟨rfl, hm⟩)
    · refine ⟨hm, a, b ++ [o], by simp, fun q hq' => ?_⟩
      rcases List.mem_append.1 hq' with h | h
      · exact hq q h
      · simp at h; subst h; exact hk
    · exact ⟨hm, l, [], rfl, fun q hq => by simp at hq⟩
theorem snoc_ind {α : Type} {C : List α → Prop} (h0 : C []) (h1 : ∀ l x, C l → C (l ++ [x])) : ∀ l, C l := by
  intro l
  have : ∀ r : List α, C r.reverse := by
    intro r
    induction r with
    | nil => exact h0
    | cons x r ih => rw [List.reverse_cons]; exact h1 _ _ ih
  have := this l.reverse
  rwa [List.reverse_reverse] at this
theorem SameK.symm {a b : OfD} (h : SameK a b) : SameK b a := ⟨h.1.symm, h.2.1.symm, h.2.2.1.symm, h.2.2.2.symm⟩
theorem SameP.symm {a b : OfD} (h : SameP a b) : SameP b a := ⟨h.1.symm, h.2.symm⟩
theorem SameP.trans {a b c : OfD} (h : SameP a b) (g : SameP b c) : SameP a c := ⟨h.1.trans g.1, h.2.trans g.2⟩
theorem liveL_sub : ∀ l : List OfD, ∀ p ∈ liveL l, p ∈ l := by
  refine snoc_ind (fun p hp => by simp [liveL] at hp) fun l x ih p hp => ?_
  rw [liveL_snoc] at hp
  rcases mem_lstep.1 hp with ⟨h, _⟩ | ⟨rfl, _⟩
  · exact List.mem_append_left _ (ih p h)
  · simp
theorem mem_liveL : ∀ (l : List OfD), (∀ o ∈ l, o.ok) → ∀ p, p ∈ liveL l ↔ LastIn l p := by
  refine snoc_ind (fun _ p => ?_) fun l x ih hok p => ?_
  · simp [liveL, lastIn_nil]
  · have hl : ∀ o ∈ l, o.ok := fun o ho => hok o (List.mem_append_left _ ho)
    have hx : x.ok := hok x (by simp)
    rw [liveL_snoc, mem_lstep, lastIn_snoc, ← ih hl]
    constructor
    · rintro (⟨h1, h2⟩ | h)
      · exact .inl ⟨h1, fun h => (kl_other (hl _ (liveL_sub _ _ h1)) hx).1 h2 h.symm⟩
      · exact .inr h
    · rintro (⟨h1, h2⟩ | h)
      · exact .inl ⟨h1, (kl_other (hl _ (liveL_sub _ _ h1)) hx).2 fun h => h2 h.symm⟩
      · exact .inr h
theorem liveL_ok {l : List OfD} (h : ∀ o ∈ l, o.ok) : ∀ o ∈ liveL l, o.ok := fun o ho => h o (liveL_sub l o ho)
theorem liveL_dist : ∀ (l : List OfD), (∀ o ∈ l, o.ok) → (liveL l).Pairwise (fun a b => ¬ SameK a b) := by
  refine snoc_ind (fun _ => .nil) fun l x ih hok => ?_
  have hl : ∀ o ∈ l, o.ok := fun o ho => hok o (List.mem_append_left _ ho)
  have hx : x.ok := hok x (by simp)
  have hput : (mapPut OfD.kl (liveL l) x).Pairwise (fun a b => ¬ SameK a b) := by
    unfold mapPut
    rw [List.pairwise_append]
    refine ⟨(ih hl).filter _, by simp, fun a ha b hb => ?_⟩
    simp at hb
    subst hb
    obtain ⟨h1, h2⟩ := mem_mapDel.1 ha
    exact (kl_other (liveL_ok hl _ h1) hx).1 h2
  rw [liveL_snoc]
  unfold lstep
  split
  · exact hput.filter _
  · exact hput

/-- a is better than b. -/
def Btr (a b : OfD) : Prop := a.src < b.src ∨ a.src = b.src ∧ (a.met < b.met ∨ a.met = b.met ∧ a.peer < b.peer)
theorem btr_iff (a b : OfD) : (betterI a b < 0) ↔ Btr a b := by
  unfold betterI Btr Lib.compareInt
  simp only [orL]
  (repeat' split) <;> simp_all <;> omega
theorem Btr.irrefl (a : OfD) : ¬ Btr a a := by unfold Btr; omega
theorem Btr.trans {a b c : OfD} (h : Btr a b) (g : Btr b c) : Btr a c := by unfold Btr at *; omega
def BestOf (L : List OfD) (o : OfD) : Prop := o ∈ L ∧ ∀ p ∈ L, SameP p o → ¬ Btr p o
def Asc (ys : List OfD) : Prop := ys.Pairwise (fun a b => a.n < b.n ∨ a.n = b.n ∧ a.k < b.k)
/-- ys are the best ones of those that are live. -/
def BestR (L ys : List OfD) : Prop := Asc ys ∧ (∀ o, o ∈ ys ↔ BestOf L o) ∧ ∀ p ∈ L, ∃ o ∈ ys, SameP o p
theorem pair_eq {α : Type} {R : α → α → Prop} {L : List α} (h : L.Pairwise (fun a b => ¬ R a b)) (hs : ∀ {a b}, R a b → R b a) {a b : α} (ha : a ∈ L) (hb : b ∈ L) (hab : R a b) : a = b := by
  obtain ⟨i, hi, rfl⟩ := List.getElem_of_mem ha
  obtain ⟨j, hj, rfl⟩ := List.getElem_of_mem hb
  rw [List.pairwise_iff_getElem] at h
  rcases Nat.lt_trichotomy i j with c | c | c
  · exact absurd hab (h i j hi hj c)
  · subst c; rfl
  · exact absurd (hs hab) (h j i hj hi c)

structure BestI (L : List OfD) (left : Lit → Bool) (M : List OfD) : Prop where
  has : ∀ o ∈ M, o ∈ L ∧ left o.kl = false ∧ ∀ p ∈ L, left p.kl = false → SameP p o → ¬ Btr p o
  all : ∀ p ∈ L, left p.kl = false → ∃ o ∈ M, SameP o p
  one : M.Pairwise (fun a b => ¬ SameP a b)
theorem BestI.start {L : List OfD} {f : Lit → Option Value} {left : Lit → Bool} (hm : MapM OfD.kl f L) (h : ∀ kl, WideAt.IsKeyLit kl → left kl = (f kl).isSome) : BestI L left [] := by
  refine ⟨fun o ho => by simp at ho, fun p hp hl => ?_, .nil⟩
  rw [h p.kl (show WideAt.IsKeyLit p.kl from trivial), hm.1 p hp] at hl
  cases hl
theorem left_step {L : List OfD} (hL : ∀ o ∈ L, o.ok) (hd : L.Pairwise (fun a b => ¬ SameK a b)) {left : Lit → Bool} {o p : OfD} (ho : o ∈ L) (hp : p ∈ L) (h : (left p.kl && !p.kl.sameKey o.kl) = false) : left p.kl = false ∨ p = o := by
  by_cases h1 : left p.kl = true
  · rw [h1] at h
    simp at h
    exact .inr (pair_eq hd SameK.symm hp ho ((kl_same (hL p hp) (hL o ho)).1 h))
  · exact .inl (by simpa using h1)
theorem BestI.put {L M : List OfD} {left : Lit → Bool} (hL : ∀ o ∈ L, o.ok) (hd : L.Pairwise (fun a b => ¬ SameK a b)) (h : BestI L left M) {o : OfD} (ho : o ∈ L) (hb : ∀ b ∈ M, SameP b o → Btr o b) :
    BestI L (fun z => left z && !z.sameKey o.kl) (mapPut OfD.pl M o) := by
  have hM : ∀ x ∈ M, x.ok := fun x hx => hL x (h.has x hx).1
  refine ⟨fun x hx => ?_, fun p hp hl => ?_, ?_⟩
  · rcases mem_mapPut.1 hx with ⟨h1, h2⟩ | rfl
    · obtain ⟨a, b, c⟩ := h.has x h1
      refine ⟨a, by simp [b], fun p hp hl hs => ?_⟩
      rcases left_step hL hd ho hp hl with e | rfl
      · exact c p hp e hs
      · exact absurd hs.symm ((pl_other (hM x h1) (hL p hp)).1 h2)
    · refine ⟨ho, by simp [WideAt.sameKey_self (show WideAt.IsKeyLit x.kl from trivial)], fun p hp hl hs => ?_⟩
      rcases left_step hL hd ho hp hl with e | rfl
      · obtain ⟨m, hm, hs2⟩ := h.all p hp e
        exact fun hb2 => (h.has m hm).2.2 p hp e hs2.symm (hb2.trans (hb m hm (hs2.trans hs)))
      · exact Btr.irrefl _
  · rcases left_step hL hd ho hp hl with e | rfl
    · obtain ⟨m, hm, hs2⟩ := h.all p hp e
      by_cases hs : SameP m o
      · exact ⟨o, mem_mapPut.2 (.inr rfl), hs.symm.trans hs2⟩
      · exact ⟨m, mem_mapPut.2 (.inl ⟨hm, (pl_other (hM m hm) (hL o ho)).2 hs⟩), hs2⟩
    · exact ⟨p, mem_mapPut.2 (.inr rfl), rfl, rfl⟩
  · unfold mapPut
    rw [List.pairwise_append]
    refine ⟨h.one.filter _, by simp, fun a ha b hb => ?_⟩
    simp at hb
    subst hb
    obtain ⟨h1, h2⟩ := mem_mapDel.1 ha
    exact (pl_other (hM a h1) (hL b ho)).1 h2
theorem BestI.skip {L M : List OfD} {left : Lit → Bool} (hL : ∀ o ∈ L, o.ok) (hd : L.Pairwise (fun a b => ¬ SameK a b)) (h : BestI L left M) {o b : OfD} (ho : o ∈ L) (hb : b ∈ M) (hs : SameP b o) (hn : ¬ Btr o b) :
    BestI L (fun z => left z && !z.sameKey o.kl) M := by
  refine ⟨fun x hx => ?_, fun p hp hl => ?_, h.one⟩
  · obtain ⟨a1, a2, c⟩ := h.has x hx
    refine ⟨a1, by simp [a2], fun p hp hl hs2 => ?_⟩
    rcases left_step hL hd ho hp hl with e | rfl
    · exact c p hp e hs2
    · rw [← pair_eq h.one SameP.symm hb hx (hs.trans hs2)]
      exact hn
  · rcases left_step hL hd ho hp hl with e | rfl
    · exact h.all p hp e
    · exact ⟨b, hb, hs⟩
theorem BestI.done {L M : List OfD} {left : Lit → Bool} (hd : L.Pairwise (fun a b => ¬ SameK a b)) (h : BestI L left M) (hl : ∀ kl, left kl = false) (o : OfD) : o ∈ M ↔ BestOf L o := by
  constructor
  · intro ho
    obtain ⟨a, _, c⟩ := h.has o ho
    exact ⟨a, fun p hp hs => c p hp (hl _) hs⟩
  · rintro ⟨ho, hb⟩
    obtain ⟨m, hm, hs⟩ := h.all o ho (hl _)
    obtain ⟨a, _, c⟩ := h.has m hm
    have n1 := hb m a hs
    have n2 := c o ho (hl _) hs.symm
    have : m = o := pair_eq hd SameK.symm a ho (by
      obtain ⟨s1, s2⟩ := hs
      unfold Btr at n1 n2
      exact ⟨s1, s2, by omega, by omega⟩)
    rw [← this]; exact hm

structure ColI (M : List OfD) (left : Lit → Bool) (xs : List OfD) : Prop where
  has : ∀ o ∈ xs, o ∈ M ∧ left o.pl = false
  all : ∀ p ∈ M, left p.pl = true ∨ p ∈ xs
  one : xs.Pairwise (fun a b => ¬ SameP a b)
theorem ColI.start {M : List OfD} {f : Lit → Option Value} {left : Lit → Bool} (hm : MapM OfD.pl f M) (h : ∀ kl, WideAt.IsKeyLit kl → left kl = (f kl).isSome) : ColI M left [] := by
  refine ⟨fun o ho => by simp at ho, fun p hp => .inl ?_, .nil⟩
  rw [h p.pl (show WideAt.IsKeyLit p.pl from trivial), hm.1 p hp]; rfl
theorem ColI.step {M : List OfD} {left : Lit → Bool} {xs : List OfD} (hM : ∀ o ∈ M, o.ok) (hd : M.Pairwise (fun a b => ¬ SameP a b)) (h : ColI M left xs) {o : OfD} (ho : o ∈ M) (hl : left o.pl = true) : ColI M (fun z => left z && !z.sameKey o.pl) (xs ++ [o]) := by
  refine ⟨fun x hx => ?_, fun p hp => ?_, ?_⟩
  · rcases List.mem_append.1 hx with hx | hx
    · obtain ⟨a, b⟩ := h.has x hx
      exact ⟨a, by simp [b]⟩
    · simp at hx
      subst hx
      exact ⟨ho, by simp [WideAt.sameKey_self (show WideAt.IsKeyLit x.pl from trivial)]⟩
  · rcases h.all p hp with a | a
    · by_cases hs : SameP p o
      · rw [pair_eq hd SameP.symm hp ho hs]
        exact .inr (by simp)
      · exact .inl (by simp [a, (pl_other (hM p hp) (hM o ho)).2 hs])
    · exact .inr (List.mem_append_left _ a)
  · rw [List.pairwise_append]
    refine ⟨h.one, by simp, fun a ha b hb hs => ?_⟩
    simp at hb
    subst hb
    have e := pair_eq hd SameP.symm (h.has a ha).1 ho hs
    have := (h.has a ha).2
    rw [e, hl] at this
    cases this
theorem ColI.done {M : List OfD} {left : Lit → Bool} {xs ys : List OfD} (h : ColI M left xs) (hl : ∀ kl, left kl = false) (hp : ys.Perm xs) (hs : ys.Pairwise (fun a b => ¬ (b.n < a.n ∨ b.n = a.n ∧ b.k < a.k))) : Asc ys ∧ ∀ o, o ∈ ys ↔ o ∈ M := by
  refine ⟨?_, fun o => ?_⟩
  · have h4 : ys.Pairwise (fun a b => ¬ SameP a b) := (hp.pairwise_iff (fun {a b} (h : ¬ SameP a b) => fun g => h g.symm)).2 h.one
    refine (List.pairwise_and_iff.2 ⟨hs, h4⟩).imp fun {a b} h => ?_
    obtain ⟨h1, h2⟩ := h
    unfold SameP at h2
    omega
  · rw [hp.mem_iff]
    constructor
    · intro ho; exact (h.has o ho).1
    · intro ho
      rcases h.all o ho with a | a
      · rw [hl] at a; cases a
      · exact a
/-- Two lists in order that hold the same are the same. -/
theorem asc_same : ∀ (xs ys : List OfD), Asc xs → Asc ys → (∀ x, x ∈ xs ↔ x ∈ ys) → xs = ys
  | [], ys, _, _, h => by
    cases ys with
    | nil => rfl
    | cons y ys => exact absurd ((h y).2 (by simp)) (by simp)
  | x :: xs, [], _, _, h => absurd ((h x).1 (by simp)) (by simp)
  | x :: xs, y :: ys, h1, h2, h => by
    obtain ⟨a1, a2⟩ := List.pairwise_cons.1 h1
    obtain ⟨b1, b2⟩ := List.pairwise_cons.1 h2
    have e : x = y := by
      rcases List.mem_cons.1 ((h x).1 (by simp)) with e | e
      · exact e
      · rcases List.mem_cons.1 ((h y).2 (by simp)) with f | f
        · exact f.symm
        · have := b1 x e
          have := a1 y f
          omega
    subst e
    rw [asc_same xs ys a2 b2 fun z => ?_]
    constructor
    · intro hz
      rcases List.mem_cons.1 ((h z).1 (List.mem_cons_of_mem _ hz)) with e | e
      · have := a1 z hz; rw [e] at this; omega
      · exact e
    · intro hz
      rcases List.mem_cons.1 ((h z).2 (List.mem_cons_of_mem _ hz)) with e | e
      · have := b1 z hz; rw [e] at this; omega
      · exact e
theorem BestR.same {L M xs ys : List OfD} (h : BestR L xs) (g : BestR M ys) (he : ∀ o, o ∈ L ↔ o ∈ M) : xs = ys := by
  refine asc_same _ _ h.1 g.1 fun o => ?_
  rw [h.2.1, g.2.1]
  unfold BestOf
  rw [he]
  constructor
  · rintro ⟨a, b⟩; exact ⟨a, fun p hp => b p ((he p).2 hp)⟩
  · rintro ⟨a, b⟩; exact ⟨a, fun p hp => b p ((he p).1 hp)⟩
end Go.Proofs.Ytllemhknmleklaa
