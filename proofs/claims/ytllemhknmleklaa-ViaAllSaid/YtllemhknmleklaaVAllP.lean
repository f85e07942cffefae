
/- All ports of vias: plain. -/
import Derived.Test.YtllemhknmleklaaViaPlain
set_option linter.unusedVariables false
namespace Go.Proofs.Ytllemhknmleklaa
open Go.RowKit Go.Sort Wc Wk

def res (l : List ViaD) (h : Nat) : Option Nat := if (portW l 10 [] h).2.2 = 0 then some (portW l 10 [] h).1 else none
theorem res_at {l : List ViaD} {h p : Nat} (hr : res l h = some p) : ∃ v, viaAt l h = some v := by
  cases hv : viaAt l h with
  | some v => exact ⟨v, rfl⟩
  | none =>
    unfold res at hr
    rw [portW_none hv] at hr
    simp at hr
def AllI (l : List ViaD) (left : Lit → Bool) (xs : List ViaD) : Prop :=
  (∀ x ∈ xs, left (.int .i64 x.hop) = false ∧ res l x.hop = some x.port ∧ x.next = 0) ∧ (∀ h p : Nat, res l h = some p → left (.int .i64 h) = true ∨ (⟨h, p, 0⟩ : ViaD) ∈ xs) ∧ xs.Pairwise (fun a b => a.hop ≠ b.hop)
def AllR (l : List ViaD) (xs : List ViaD) : Prop :=
  (∀ x ∈ xs, res l x.hop = some x.port ∧ x.next = 0) ∧ (∀ h p : Nat, res l h = some p → (⟨h, p, 0⟩ : ViaD) ∈ xs) ∧ xs.Pairwise (fun a b => a.hop < b.hop)

theorem AllI.start {l : List ViaD} {left : Lit → Bool} (h : ∀ kl, WideAt.IsKeyLit kl → left kl = (viaF l kl).isSome) : AllI l left [] := by
  refine ⟨fun x hx => by simp at hx, fun h2 p hr => .inl ?_, .nil⟩
  obtain ⟨v, hv⟩ := res_at hr
  rw [h (.int .i64 (h2 : Nat)) trivial]
  show ((viaAt l h2).map viaVal).isSome = true
  rw [hv]; rfl
theorem sameKey_int (a b : Nat) : (Lit.int .i64 (a : Int)).sameKey (.int .i64 b) = decide (a = b) := by
  by_cases h : a = b
  · subst h
    rw [WideAt.sameKey_self (show WideAt.IsKeyLit (Lit.int .i64 (a : Int)) from trivial)]; simp
  · rw [decide_eq_false h]
    cases hs : (Lit.int .i64 (a : Int)).sameKey (.int .i64 b) with
    | false => rfl
    | true =>
      have := WideAt.sameKey_eq hs
      simp at this
      omega
theorem AllI.yes {l : List ViaD} {left : Lit → Bool} {xs : List ViaD} (h : AllI l left xs) {x p : Nat} (hl : left (.int .i64 x) = true) (hr : res l x = some p) :
    AllI l (fun z => left z && !z.sameKey (.int .i64 x)) (xs ++ [⟨x, p, 0⟩]) := by
  obtain ⟨h1, h2, h3⟩ := h
  refine ⟨fun y hy => ?_, fun y q hq => ?_, ?_⟩
  · rcases List.mem_append.1 hy with hy | hy
    · obtain ⟨a, b, c⟩ := h1 y hy
      exact ⟨by simp [a], b, c⟩
    · simp at hy
      subst hy
      exact ⟨by simp [sameKey_int], hr, rfl⟩
  · by_cases he : y = x
    · subst he
      rw [hr] at hq
      cases hq
      exact .inr (by simp)
    · rcases h2 y q hq with a | a
      · exact .inl (by simp [a, sameKey_int, he])
      · exact .inr (List.mem_append_left _ a)
  · rw [List.pairwise_append]
    refine ⟨h3, by simp, fun a ha b hb => ?_⟩
    simp at hb
    subst hb
    intro e
    have := (h1 a ha).1
    rw [e, hl] at this
    cases this
theorem AllI.no {l : List ViaD} {left : Lit → Bool} {xs : List ViaD} (h : AllI l left xs) {x : Nat} (hr : res l x = none) : AllI l (fun z => left z && !z.sameKey (.int .i64 x)) xs := by
  obtain ⟨h1, h2, h3⟩ := h
  refine ⟨fun y hy => ?_, fun y q hq => ?_, h3⟩
  · obtain ⟨a, b, c⟩ := h1 y hy
    exact ⟨by simp [a], b, c⟩
  · have he : y ≠ x := by rintro rfl; rw [hr] at hq; cases hq
    rcases h2 y q hq with a | a
    · exact .inl (by simp [a, sameKey_int, he])
    · exact .inr a
theorem AllI.done {l : List ViaD} {left : Lit → Bool} {xs ys : List ViaD} (h : AllI l left xs) (hl : ∀ kl, left kl = false) (hp : ys.Perm xs) (hs : ys.Pairwise (fun a b => a.hop ≤ b.hop)) : AllR l ys := by
  obtain ⟨h1, h2, h3⟩ := h
  refine ⟨fun x hx => (h1 x (hp.mem_iff.1 hx)).2, fun a p hr => ?_, ?_⟩
  · rcases h2 a p hr with b | b
    · rw [hl] at b; cases b
    · exact hp.mem_iff.2 b
  · have h4 : ys.Pairwise (fun a b => a.hop ≠ b.hop) := (hp.pairwise_iff (fun {a b} (h : a.hop ≠ b.hop) => Ne.symm h)).2 h3
    exact (List.pairwise_and_iff.2 ⟨hs, h4⟩).imp (fun h => Nat.lt_of_le_of_ne h.1 h.2)

theorem asc_ext : ∀ (xs ys : List ViaD), xs.Pairwise (fun a b => a.hop < b.hop) → ys.Pairwise (fun a b => a.hop < b.hop) → (∀ x, x ∈ xs ↔ x ∈ ys) → xs = ys
  | [], ys, _, _, h => by
    cases ys with
    | nil => rfl
    | cons y ys => exact absurd ((h y).2 (by simp)) (by simp)
  | x :: xs, [], _, _, h => absurd ((h x).1 (by simp)) (by simp)
  | x :: xs, y :: ys, h1, h2, h => by
    obtain ⟨a1, a2⟩ := List.pairwise_cons.1 h1
    obtain ⟨b1, b2⟩ := List.pairwise_cons.1 h2
    have e : x = y := by
      rcases List.mem_cons.1 ((h x).1 (by simp)) with e | e
      · exact e
      · rcases List.mem_cons.1 ((h y).2 (by simp)) with f | f
        · exact f.symm
        · have := b1 x e
          have := a1 y f
          omega
    subst e
    rw [asc_ext xs ys a2 b2 fun z => ?_]
    constructor
    · intro hz
      rcases List.mem_cons.1 ((h z).1 (List.mem_cons_of_mem _ hz)) with e | e
      · have := a1 z hz; rw [e] at this; omega
      · exact e
    · intro hz
      rcases List.mem_cons.1 ((h z).2 (List.mem_cons_of_mem _ hz)) with e | e
      · have := b1 z hz; rw [e] at this; omega
      · exact e

def resV (l : List ViaD) (v : ViaD) : Option ViaD := (res l v.hop).map (fun p => ⟨v.hop, p, 0⟩)
theorem allR_eq {l ys : List ViaD} (h : AllR l ys) (hd : l.Pairwise (fun a b => a.hop < b.hop)) : ys = l.filterMap (resV l) := by
  obtain ⟨h1, h2, h3⟩ := h
  refine asc_ext _ _ h3 ?_ fun x => ?_
  · rw [List.pairwise_filterMap]
    refine hd.imp ?_
    intro a b hab x hx y hy
    unfold resV at hx hy
    rw [Option.map_eq_some_iff] at hx hy
    obtain ⟨p, _, rfl⟩ := hx
    obtain ⟨q, _, rfl⟩ := hy
    exact hab
  · rw [List.mem_filterMap]
    constructor
    · intro hx
      obtain ⟨a, b⟩ := h1 x hx
      obtain ⟨v, hv⟩ := res_at a
      obtain ⟨c, d⟩ := viaAt_mem hv
      have e : v.hop = x.hop := by omega
      refine ⟨v, c, ?_⟩
      unfold resV
      rw [e, a]
      obtain ⟨x1, x2, x3⟩ := x
      simp at b
      subst b
      rfl
    · rintro ⟨v, hv, e⟩
      unfold resV at e
      rw [Option.map_eq_some_iff] at e
      obtain ⟨p, hp, rfl⟩ := e
      exact h2 _ _ hp
/-- How many of the first i there are. -/
def cntV (l : List ViaD) (i : Nat) : Nat := ((l.take i).filterMap (resV l)).length
theorem cntV_le (l : List ViaD) (i : Nat) : cntV l i ≤ i := by
  unfold cntV
  refine Nat.le_trans (List.length_filterMap_le _ _) ?_
  rw [List.length_take]; omega
theorem cntV_no {l : List ViaD} {i : Nat} {v : ViaD} (hv : l[i]? = some v) (hr : res l v.hop = none) : cntV l (i + 1) = cntV l i := by
  unfold cntV
  rw [List.take_add_one, hv, List.filterMap_append]
  simp [resV, hr]
theorem cntV_yes {l : List ViaD} {i p : Nat} {v : ViaD} (hv : l[i]? = some v) (hr : res l v.hop = some p) : cntV l (i + 1) = cntV l i + 1 ∧ (l.filterMap (resV l))[cntV l i]? = some ⟨v.hop, p, 0⟩ := by
  constructor
  · unfold cntV
    rw [List.take_add_one, hv, List.filterMap_append]
    simp [resV, hr]
  · have hF : resV l v = some ⟨v.hop, p, 0⟩ := by simp [resV, hr]
    unfold cntV
    generalize resV l = F at *
    have e : l = l.take (i + 1) ++ l.drop (i + 1) := (List.take_append_drop _ _).symm
    have e2 : l.filterMap F = ((l.take i).filterMap F ++ [⟨v.hop, p, 0⟩]) ++ (l.drop (i + 1)).filterMap F := by
      conv => lhs; rw [e]
      rw [List.filterMap_append, List.take_add_one, hv, List.filterMap_append]
      congr 2
      simp [hF]
    rw [e2]
    rw [List.append_assoc, List.getElem?_append_right (Nat.le_refl _)]
    simp
end Go.Proofs.Ytllemhknmleklaa
