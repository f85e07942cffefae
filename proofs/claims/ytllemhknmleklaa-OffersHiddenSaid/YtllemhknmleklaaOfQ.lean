
/- Offers: what the laws say of what is best, in plain words. -/
import Derived.Test.YtllemhknmleklaaOfP
set_option linter.unusedVariables false
set_option linter.unusedSimpArgs false
namespace Go.Proofs.Ytllemhknmleklaa
open Go.RowKit Go.Sort Wc Wk Go.WideShapes

theorem lastIn_append {l : List OfD} {p : OfD} : ∀ m : List OfD, LastIn (l ++ m) p ↔ (LastIn l p ∧ ∀ q ∈ m, ¬ SameK q p) ∨ LastIn m p := by
  refine snoc_ind ?_ fun m x ih => ?_
  · rw [List.append_nil]
    constructor
    · intro h; exact .inl ⟨h, by simp⟩
    · rintro (⟨h, _⟩ | h)
      · exact h
      · exact absurd h (lastIn_nil p)
  · rw [← List.append_assoc, lastIn_snoc, ih, lastIn_snoc]
    constructor
    · rintro (⟨⟨h1, h2⟩ | h, h3⟩ | h)
      · refine .inl ⟨h1, fun q hq => ?_⟩
        rcases List.mem_append.1 hq with hq | hq
        · exact h2 q hq
        · simp at hq; subst hq; exact h3
      · exact .inr (.inl ⟨h, h3⟩)
      · exact .inr (.inr h)
    · rintro (⟨h1, h2⟩ | ⟨h1, h2⟩ | h)
      · exact .inl ⟨.inl ⟨h1, fun q hq => h2 q (List.mem_append_left _ hq)⟩, h2 x (by simp)⟩
      · exact .inl ⟨.inr h1, h2⟩
      · exact .inr h
theorem LastIn.mem {l : List OfD} {p : OfD} (h : LastIn l p) : p ∈ l := by
  obtain ⟨_, a, b, rfl, _⟩ := h
  simp
def spB (s p : Nat) (o : OfD) : Bool := decide (o.src = s) && decide (o.peer = p)
theorem lastIn_filter (s p : Nat) (o : OfD) : ∀ l : List OfD, LastIn (l.filter (fun x => !spB s p x)) o ↔ LastIn l o ∧ spB s p o = false := by
  refine snoc_ind ?_ fun l x ih => ?_
  · simp [lastIn_nil]
  · rw [List.filter_append]
    cases hx : spB s p x with
    | true =>
      rw [List.filter_cons_of_neg (by simp [hx]), List.filter_nil, List.append_nil, ih, lastIn_snoc]
      constructor
      · rintro ⟨h1, h2⟩
        refine ⟨.inl ⟨h1, fun hk => ?_⟩, h2⟩
        unfold spB at hx h2
        rw [hk.2.2.1, hk.2.2.2] at hx
        rw [hx] at h2; cases h2
      · rintro ⟨⟨h1, _⟩ | ⟨rfl, _⟩, h2⟩
        · exact ⟨h1, h2⟩
        · rw [hx] at h2; cases h2
    | false =>
      rw [List.filter_cons_of_pos (by simp [hx]), List.filter_nil, lastIn_snoc, ih, lastIn_snoc]
      constructor
      · rintro (⟨⟨h1, h2⟩, h3⟩ | ⟨rfl, h⟩)
        · exact ⟨.inl ⟨h1, h3⟩, h2⟩
        · exact ⟨.inr ⟨rfl, h⟩, hx⟩
      · rintro ⟨⟨h1, h3⟩ | h, h2⟩
        · exact .inl ⟨⟨h1, h2⟩, h3⟩
        · exact .inr h
def OfD.away (o : OfD) : OfD := ⟨o.n, o.k, o.src, o.peer, 999, o.hop⟩
/-- OffersAway in plain words. -/
theorem away_law (os : List OfD) (hok : ∀ o ∈ os, o.ok) (s p : Nat) (o : OfD) :
    o ∈ liveL (os ++ (os.filter (spB s p)).map OfD.away) ↔ o ∈ liveL (os.filter (fun x => !spB s p x)) := by
  have h1 : ∀ x ∈ (os.filter (spB s p)).map OfD.away, x.met = 999 ∧ spB s p x = true ∧ ∃ y ∈ os, spB s p y = true ∧ SameK x y := by
    intro x hx
    obtain ⟨y, hy, rfl⟩ := List.mem_map.1 hx
    obtain ⟨a, b⟩ := List.mem_filter.1 hy
    exact ⟨rfl, b, y, a, b, rfl, rfl, rfl, rfl⟩
  have hok2 : ∀ x ∈ os ++ (os.filter (spB s p)).map OfD.away, x.ok := by
    intro x hx
    rcases List.mem_append.1 hx with hx | hx
    · exact hok x hx
    · obtain ⟨y, hy, rfl⟩ := List.mem_map.1 hx
      obtain ⟨a1, a2, a3, a4, a5, a6, a7⟩ := hok y (List.mem_filter.1 hy).1
      exact ⟨a1, a2, a3, a4, Nat.le_refl _, a6, a7⟩
  rw [mem_liveL _ hok2, mem_liveL _ (fun x hx => hok x (List.mem_filter.1 hx).1), lastIn_filter, lastIn_append]
  constructor
  · rintro (⟨a, b⟩ | h)
    · refine ⟨a, ?_⟩
      cases hs : spB s p o with
      | false => rfl
      | true => exact absurd ⟨rfl, rfl, rfl, rfl⟩ (b o.away (List.mem_map.2 ⟨o, List.mem_filter.2 ⟨a.mem, hs⟩, rfl⟩))
    · exact absurd (h1 o h.mem).1 h.1
  · rintro ⟨a, b⟩
    refine .inl ⟨a, fun q hq hk => ?_⟩
    have := (h1 q hq).2.1
    unfold spB at this b
    rw [hk.2.2.1, hk.2.2.2, b] at this
    cases this
theorem Asc.lastIn {ys : List OfD} (h : Asc ys) (hm : ∀ o ∈ ys, o.met ≠ 999) (o : OfD) : LastIn ys o ↔ o ∈ ys := by
  refine ⟨LastIn.mem, fun ho => ⟨hm o ho, ?_⟩⟩
  obtain ⟨a, b, rfl⟩ := List.append_of_mem ho
  refine ⟨a, b, rfl, fun q hq hk => ?_⟩
  have := (List.pairwise_cons.1 (List.pairwise_append.1 h).2.1).1 q hq
  obtain ⟨h1, h2, _⟩ := hk
  omega
theorem Asc.eqP {ys : List OfD} (h : Asc ys) {a b : OfD} (ha : a ∈ ys) (hb : b ∈ ys) (hs : SameP a b) : a = b :=
  pair_eq (R := SameP) (h.imp fun {x y} hxy hs => by obtain ⟨h1, h2⟩ := hs; omega) SameP.symm ha hb hs
theorem BestR.met {l ys : List OfD} (hok : ∀ o ∈ l, o.ok) (h : BestR (liveL l) ys) : ∀ o ∈ ys, o ∈ l ∧ o.met ≠ 999 := by
  intro o ho
  have := ((h.2.1 o).1 ho).1
  exact ⟨liveL_sub _ _ this, ((mem_liveL l hok o).1 this).1⟩
/-- The best of the best are the best. -/
theorem again_law {l ys zs : List OfD} (hok : ∀ o ∈ l, o.ok) (h : BestR (liveL l) ys) (g : BestR (liveL ys) zs) : ys = zs := by
  have hm := h.met hok
  have hy : ∀ o ∈ ys, o.ok := fun o ho => hok o (hm o ho).1
  have hl : ∀ o, o ∈ liveL ys ↔ o ∈ ys := fun o => (mem_liveL ys hy o).trans (h.1.lastIn (fun o ho => (hm o ho).2) o)
  refine asc_same _ _ h.1 g.1 fun o => ?_
  rw [g.2.1]
  constructor
  · intro ho
    refine ⟨(hl o).2 ho, fun p hp hs => ?_⟩
    rw [h.1.eqP ((hl p).1 hp) ho hs]
    exact Btr.irrefl _
  · rintro ⟨a, _⟩
    exact (hl o).1 a
theorem twice_law {l : List OfD} {x : OfD} (hok : ∀ o ∈ l ++ [x], o.ok) (o : OfD) : o ∈ liveL (l ++ [x] ++ [x]) ↔ o ∈ liveL (l ++ [x]) := by
  rw [mem_liveL _ hok, mem_liveL _ (fun o ho => by
    rcases List.mem_append.1 ho with h | h
    · exact hok o h
    · simp at h; subst h; exact hok o (by simp)), lastIn_snoc, lastIn_snoc]
  constructor
  · rintro (⟨h | h, _⟩ | h)
    · exact .inl h
    · exact .inr h
    · exact .inr h
  · rintro (h | h)
    · exact .inl ⟨.inl h, h.2⟩
    · exact .inr h
theorem apart_law {a b xs ys zs : List OfD} (hoa : ∀ o ∈ a, o.ok) (hob : ∀ o ∈ b, o.ok) (hab : ∀ x ∈ a, ∀ y ∈ b, x.n < y.n) (hx : BestR (liveL a) xs) (hy : BestR (liveL b) ys) (hz : BestR (liveL (b ++ a)) zs) : zs = xs ++ ys := by
  have hok : ∀ o ∈ b ++ a, o.ok := fun o ho => (List.mem_append.1 ho).elim (hob o) (hoa o)
  have hl : ∀ o, o ∈ liveL (b ++ a) ↔ o ∈ liveL b ∨ o ∈ liveL a := by
    intro o
    rw [mem_liveL _ hok, mem_liveL _ hoa, mem_liveL _ hob, lastIn_append]
    constructor
    · rintro (⟨h, _⟩ | h)
      · exact .inl h
      · exact .inr h
    · rintro (h | h)
      · refine .inl ⟨h, fun q hq hk => ?_⟩
        have := hab q hq o h.mem
        have := hk.1
        omega
      · exact .inr h
  have hxa : ∀ o ∈ xs, o ∈ a := fun o ho => (hx.met hoa o ho).1
  have hyb : ∀ o ∈ ys, o ∈ b := fun o ho => (hy.met hob o ho).1
  refine asc_same _ _ hz.1 ?_ fun o => ?_
  · unfold Asc
    rw [List.pairwise_append]
    exact ⟨hx.1, hy.1, fun x h1 y h2 => .inl (hab x (hxa x h1) y (hyb y h2))⟩
  · rw [hz.2.1, List.mem_append, hx.2.1, hy.2.1]
    unfold BestOf
    constructor
    · rintro ⟨h1, h2⟩
      rcases (hl o).1 h1 with h | h
      · exact .inr ⟨h, fun p hp => h2 p ((hl p).2 (.inl hp))⟩
      · exact .inl ⟨h, fun p hp => h2 p ((hl p).2 (.inr hp))⟩
    · rintro (⟨h1, h2⟩ | ⟨h1, h2⟩)
      · refine ⟨(hl o).2 (.inr h1), fun p hp hs => ?_⟩
        rcases (hl p).1 hp with h | h
        · have := hab o (liveL_sub _ _ h1) p (liveL_sub _ _ h)
          have := hs.1
          omega
        · exact h2 p h hs
      · refine ⟨(hl o).2 (.inl h1), fun p hp hs => ?_⟩
        rcases (hl p).1 hp with h | h
        · exact h2 p h hs
        · have := hab p (liveL_sub _ _ h) o (liveL_sub _ _ h1)
          have := hs.1
          omega
theorem nearer_law {l ys : List OfD} {o : OfD} (hok : ∀ x ∈ l ++ [o], x.ok) (h1 : o.src = 1) (h2 : o.peer = 0) (h3 : o.met = 0) (h : BestR (liveL (l ++ [o])) ys) : o ∈ ys ∧ ∀ x ∈ ys, SameP x o → x = o := by
  have ho : o ∈ ys := by
    rw [h.2.1]
    refine ⟨(mem_liveL _ hok o).2 (lastIn_snoc.2 (.inr ⟨rfl, by omega⟩)), fun p hp _ => ?_⟩
    obtain ⟨_, a, _⟩ := hok p (liveL_sub _ _ hp)
    unfold Btr
    omega
  exact ⟨ho, fun x hx hs => h.1.eqP hx ho hs⟩
/-- The one far offer. -/
def ofFar : OfD := ⟨0, 0, 4, 0, 0, 3⟩
theorem far_ok : ofFar.ok := by
  refine ⟨⟨by unfold Fits wd; decide, by decide, by decide⟩, by decide, by decide, by decide, by decide, by decide, by decide⟩
theorem one_law {o : OfD} {ys : List OfD} (ho : o.ok) (hm : o.met ≠ 999) (h : BestR (liveL [o]) ys) : ys = [o] := by
  refine asc_same _ _ h.1 (by simp [Asc]) fun x => ?_
  rw [h.2.1]
  have hl : ∀ x, x ∈ liveL [o] ↔ x = o := by
    intro x
    have : liveL [o] = lstep [] o := rfl
    rw [this, mem_lstep]
    constructor
    · rintro (⟨h, _⟩ | h)
      · simp at h
      · exact h.1
    · intro h; exact .inr ⟨h, hm⟩
  simp only [List.mem_singleton]
  constructor
  · intro h; exact (hl x).1 h.1
  · rintro rfl
    exact ⟨(hl x).2 rfl, fun p hp _ => by rw [(hl p).1 hp]; exact Btr.irrefl _⟩
end Go.Proofs.Ytllemhknmleklaa
