
/- A pair of tables: plain laws of what its readers are told, and of its writer. -/
import Derived.Test.YtllemhknmleklaaPrX
set_option linter.unusedVariables false
namespace Go.Proofs.Ytllemhknmleklaa
open Go Go.RowKit Wc

/-- How far the writer is: d acts are wholly done. -/
structure PInv (acts : List ActD) (d : Nat) (s : PSt) : Prop where
  wt : s.wt = acts.drop d
  le : d ≤ acts.length
  wa : s.wa < 4
  fr : s.fr < 2
  w0 : s.wt = [] → s.wa = 0
  Af : s.A s.fr = if s.wa ≤ 1 then d else d + 1
  Ab : s.A (1 - s.fr) = if s.wa = 1 then d + 1 else d
  T : ∀ i, i < 2 → s.T i = tend [] (acts.take (s.A i))
theorem drop_cons {α : Type} {l : List α} {d : Nat} {x : α} {r : List α} (h : l.drop d = x :: r) : l[d]? = some x ∧ r = l.drop (d + 1) ∧ d < l.length := by
  have h1 : l[d]? = some x := by
    have := congrArg (fun y => y[0]?) h
    simpa using this
  have h2 : d < l.length := (List.getElem?_eq_some_iff.1 h1).1
  refine ⟨h1, ?_, h2⟩
  have := congrArg List.tail h
  simpa using this.symm
theorem tend_one (L : List (Nat × Nat × Nat)) (x : ActD) : tend L [x] = (tstep L x).1 := rfl
theorem PInv.A_le {acts : List ActD} {d : Nat} {s : PSt} (h : PInv acts d s) : s.A s.fr ≤ acts.length := by
  rw [h.Af]
  have := h.le
  by_cases e : s.wa ≤ 1
  · rw [if_pos e]; exact this
  · rw [if_neg e]
    have h0 : s.wt ≠ [] := fun g => e (by rw [h.w0 g]; decide)
    rw [h.wt] at h0
    have : ¬ acts.length ≤ d := fun g => h0 (List.drop_of_length_le g)
    omega
theorem PInv.w {acts : List ActD} {d : Nat} {s : PSt} (h : PInv acts d s) : ∃ d', PInv acts d' (wstep s) ∧ s.A s.fr ≤ (wstep s).A (wstep s).fr := by
  unfold wstep
  split
  · exact ⟨d, h, Nat.le_refl _⟩
  · rename_i x l hw
    have hd := h.wt
    rw [hw] at hd
    obtain ⟨g1, g2, g3⟩ := drop_cons hd.symm
    have hfr := h.fr
    have hAf := h.Af
    have hAb := h.Ab
    have hne : s.fr ≠ 1 - s.fr := by omega
    have htk : acts.take (d + 1) = acts.take d ++ [x] := by rw [List.take_add_one, g1]; rfl
    have hT : ∀ i, i < 2 → s.A (1 - s.fr) = d → up s.T (1 - s.fr) (tstep (s.T (1 - s.fr)) x).1 i = tend [] (acts.take (up s.A (1 - s.fr) (s.A (1 - s.fr) + 1) i)) := fun i hi e => by
      by_cases q : i = 1 - s.fr
      · rw [q, up_same, up_same, e, htk, tend_app, h.T _ (by omega), e]
        rfl
      · rw [up_other _ _ q, up_other _ _ q]
        exact h.T i hi
    by_cases w0 : s.wa = 0
    · rw [if_pos w0]
      rw [if_pos (by omega)] at hAf
      rw [if_neg (by omega)] at hAb
      refine ⟨d, ⟨by show s.wt = _; rw [hw]; exact hd, h.le, (by show 1 < 4; decide), hfr, (fun g => absurd (show s.wt = [] from g) (by rw [hw]; simp)), ?_, ?_, fun i hi => hT i hi hAb⟩, ?_⟩
      · show up s.A (1 - s.fr) _ s.fr = _
        rw [up_other _ _ hne, hAf]; rfl
      · show up s.A (1 - s.fr) _ (1 - s.fr) = _
        rw [up_same, hAb]; rfl
      · show _ ≤ up s.A (1 - s.fr) _ s.fr
        rw [up_other _ _ hne]; exact Nat.le_refl _
    · rw [if_neg w0]
      by_cases w1 : s.wa = 1
      · rw [if_pos w1]
        rw [if_pos (by omega)] at hAf
        rw [if_pos w1] at hAb
        refine ⟨d, ⟨by show s.wt = _; rw [hw]; exact hd, h.le, (by show 2 < 4; decide), (by show 1 - s.fr < 2; omega), (fun g => absurd (show s.wt = [] from g) (by rw [hw]; simp)), ?_, ?_, h.T⟩, ?_⟩
        · show s.A (1 - s.fr) = _
          rw [hAb]; rfl
        · show s.A (1 - (1 - s.fr)) = _
          rw [show 1 - (1 - s.fr) = s.fr by omega, hAf]; rfl
        · show s.A s.fr ≤ s.A (1 - s.fr)
          omega
      · rw [if_neg w1]
        rw [if_neg (by have := h.wa; omega)] at hAf
        rw [if_neg w1] at hAb
        by_cases w2 : s.wa = 2
        · rw [if_pos w2]
          split
          · exact ⟨d, ⟨h.wt, h.le, h.wa, h.fr, h.w0, h.Af, h.Ab, h.T⟩, Nat.le_refl _⟩
          · exact ⟨d, ⟨by show s.wt = _; rw [hw]; exact hd, h.le, (by show 3 < 4; decide), hfr, (fun g => absurd (show s.wt = [] from g) (by rw [hw]; simp)), by show s.A s.fr = _; rw [hAf]; rfl, by show s.A (1 - s.fr) = _; rw [hAb]; rfl, h.T⟩, Nat.le_refl _⟩
        · rw [if_neg w2]
          split
          · exact ⟨d, ⟨h.wt, h.le, h.wa, h.fr, h.w0, h.Af, h.Ab, h.T⟩, Nat.le_refl _⟩
          · refine ⟨d + 1, ⟨g2, g3, (by show 0 < 4; decide), hfr, (fun _ => rfl), ?_, ?_, fun i hi => hT i hi hAb⟩, ?_⟩
            · show up s.A (1 - s.fr) _ s.fr = _
              rw [up_other _ _ hne, hAf]; rfl
            · show up s.A (1 - s.fr) _ (1 - s.fr) = _
              rw [up_same, hAb]; rfl
            · show _ ≤ up s.A (1 - s.fr) _ s.fr
              rw [up_other _ _ hne]; exact Nat.le_refl _
theorem rstep_keeps (s : PSt) (n : Nat) : (rstep s n).T = s.T ∧ (rstep s n).A = s.A ∧ (rstep s n).fr = s.fr ∧ (rstep s n).wt = s.wt ∧ (rstep s n).wa = s.wa ∧ (rstep s n).us = s.us ∧ (rstep s n).ww = s.ww := by
  unfold rstep
  split
  · exact ⟨rfl, rfl, rfl, rfl, rfl, rfl, rfl⟩
  · split
    · exact ⟨rfl, rfl, rfl, rfl, rfl, rfl, rfl⟩
    · split
      · exact ⟨rfl, rfl, rfl, rfl, rfl, rfl, rfl⟩
      · split
        · exact ⟨rfl, rfl, rfl, rfl, rfl, rfl, rfl⟩
        · exact ⟨rfl, rfl, rfl, rfl, rfl, rfl, rfl⟩
theorem PInv.r {acts : List ActD} {d : Nat} {s : PSt} (h : PInv acts d s) (n : Nat) : PInv acts d (rstep s n) := by
  obtain ⟨e1, e2, e3, e4, e5, _, _⟩ := rstep_keeps s n
  exact ⟨by rw [e4]; exact h.wt, h.le, by rw [e5]; exact h.wa, by rw [e3]; exact h.fr, by rw [e4, e5]; exact h.w0, by rw [e2, e3, e5]; exact h.Af, by rw [e2, e3, e5]; exact h.Ab, by rw [e1, e2]; exact h.T⟩
/-- What the readers are told: true of a table that was, and never of fewer acts than before. -/
structure SInv (acts : List ActD) (L : Nat → List Nat) (s : PSt) : Prop where
  rd : ∀ n, (s.R n).at_ < 4 ∧ ((s.R n).todo = [] → (s.R n).at_ = 0) ∧ ∃ j, (s.R n).todo = (L n).drop j ∧ j ≤ (L n).length ∧ (s.se.filter (fun x => x.rd == n)).length = j + (if (s.R n).at_ = 3 then 1 else 0)
  se : ∀ k x, s.se[k]? = some x → x.acts ≤ acts.length ∧ x.rd < 4 ∧ ∃ a, (L x.rd)[((s.se.take k).filter (fun y => y.rd == x.rd)).length]? = some a ∧ (x.hop, x.len) = goesL (tend [] (acts.take x.acts)) a
  up : ∀ x ∈ s.se, x.acts ≤ s.A s.fr
  srt : ∀ k x y, s.se[k]? = some x → s.se[k + 1]? = some y → x.acts ≤ y.acts
theorem SInv.w {acts : List ActD} {L : Nat → List Nat} {d : Nat} {s : PSt} (hp : PInv acts d s) (h : SInv acts L s) : SInv acts L (wstep s) := by
  obtain ⟨e1, e2⟩ := wstep_R s
  obtain ⟨_, _, hA⟩ := hp.w
  exact ⟨by rw [e1, e2]; exact h.rd, by rw [e2]; exact h.se, fun x hx => Nat.le_trans (h.up x (by rw [← e2]; exact hx)) hA, by rw [e2]; exact h.srt⟩
theorem SInv.r {acts : List ActD} {L : Nat → List Nat} {d : Nat} {s : PSt} (hp : PInv acts d s) (h : SInv acts L s) {n : Nat} (hn : n < 4) : SInv acts L (rstep s n) := by
  obtain ⟨k1, k2, k3, _, _, _, _⟩ := rstep_keeps s n
  cases ht : (s.R n).todo with
  | nil => rw [rstep_idle ht]; exact h
  | cons a l =>
    obtain ⟨q1, q2, j, q3, q4, q5⟩ := h.rd n
    rw [ht] at q3
    obtain ⟨g1, g2, g3⟩ := drop_cons q3.symm
    have hkeep : ∀ (r : RdS) (s' : PSt), s'.R = Go.Proofs.Ytllemhknmleklaa.up s.R n r → s'.se = s.se → s'.A s'.fr = s.A s.fr → r.at_ < 4 → (r.todo = [] → r.at_ = 0) → (∃ j, r.todo = (L n).drop j ∧ j ≤ (L n).length ∧ (s.se.filter (fun x => x.rd == n)).length = j + (if r.at_ = 3 then 1 else 0)) → SInv acts L s' := fun r s' f1 f2 f3 f4 f5 f6 =>
      ⟨fun m => by
        rw [f1, f2]
        by_cases e : m = n
        · subst e; rw [up_same]; exact ⟨f4, f5, f6⟩
        · rw [up_other _ _ e]; exact h.rd m, by rw [f2]; exact h.se, by rw [f2, f3]; exact h.up, by rw [f2]; exact h.srt⟩
    unfold rstep
    rw [ht]
    dsimp only
    by_cases h0 : (s.R n).at_ = 0
    · rw [if_pos h0]
      exact hkeep ⟨a :: l, 1, s.us⟩ _ rfl rfl rfl (by show 1 < 4; decide) (fun g => by cases g) ⟨j, q3, q4, by rw [q5, if_neg (by omega)]; rfl⟩
    · rw [if_neg h0]
      by_cases h1 : (s.R n).at_ = 1
      · rw [if_pos h1]
        exact hkeep ⟨a :: l, 2, (s.R n).cnt⟩ _ rfl rfl rfl (by show 2 < 4; decide) (fun g => by cases g) ⟨j, q3, q4, by rw [q5, if_neg (by omega)]; rfl⟩
      · rw [if_neg h1]
        by_cases h2 : (s.R n).at_ = 2
        · rw [if_pos h2]
          rw [if_neg (by omega)] at q5
          refine ⟨fun m => ?_, ?_, ?_, ?_⟩
          · have key : ∀ r : RdS, r = Go.Proofs.Ytllemhknmleklaa.up s.R n ⟨a :: l, 3, (s.R n).cnt⟩ m → r.at_ < 4 ∧ (r.todo = [] → r.at_ = 0) ∧ ∃ j, r.todo = (L m).drop j ∧ j ≤ (L m).length ∧ ((s.se ++ [(⟨n, (goesL (s.T s.fr) a).1, (goesL (s.T s.fr) a).2, s.A s.fr⟩ : SeenD)]).filter (fun x => x.rd == m)).length = j + (if r.at_ = 3 then 1 else 0) := fun r hr => by
              by_cases e : m = n
              · subst e
                rw [up_same] at hr
                subst hr
                exact ⟨(by show 3 < 4; decide), (fun g => (by cases g)), j, q3, q4, by rw [List.filter_append, List.length_append, q5]; simp⟩
              · rw [up_other _ _ e] at hr
                subst hr
                obtain ⟨p1, p2, j', p3, p4, p5⟩ := h.rd m
                refine ⟨p1, p2, j', p3, p4, ?_⟩
                rw [List.filter_append, List.length_append, p5]
                have : (n == m) = false := by rw [beq_eq_false_iff_ne]; exact fun g => e g.symm
                simp [this]
            exact key _ rfl
          · intro k x hx
            dsimp only at hx ⊢
            by_cases hk : k < s.se.length
            · rw [List.getElem?_append_left hk] at hx
              rw [List.take_append_of_le_length (by omega)]
              exact h.se k x hx
            · rw [List.getElem?_append_right (by omega)] at hx
              have hk2 : k = s.se.length := by
                have := (List.getElem?_eq_some_iff.1 hx).1
                simp at this
                omega
              subst hk2
              rw [Nat.sub_self] at hx
              obtain rfl : _ = x := by simpa using hx
              refine ⟨hp.A_le, hn, a, ?_, ?_⟩
              · dsimp only
                rw [List.take_append_of_le_length (Nat.le_refl _), List.take_length, q5]
                exact g1
              · dsimp only
                rw [← hp.T _ hp.fr]
          · intro x hx
            rcases List.mem_append.1 hx with hx | hx
            · exact h.up x hx
            · simp at hx
              rw [hx]
              exact Nat.le_refl _
          · intro k x y hx hy
            dsimp only at hx hy
            by_cases hk : k + 1 < s.se.length
            · rw [List.getElem?_append_left (by omega)] at hx
              rw [List.getElem?_append_left hk] at hy
              exact h.srt k x y hx hy
            · have hk1 : k < s.se.length := by
                have := (List.getElem?_eq_some_iff.1 hy).1
                simp at this
                omega
              rw [List.getElem?_append_left hk1] at hx
              rw [List.getElem?_append_right (by omega), show k + 1 - s.se.length = 0 by omega] at hy
              obtain rfl : _ = y := by simpa using hy
              exact h.up x (List.mem_of_getElem? hx)
        · rw [if_neg h2]
          rw [if_pos (by omega)] at q5
          exact hkeep ⟨l, 0, (s.R n).cnt⟩ _ rfl rfl rfl (by show 0 < 4; decide) (fun _ => rfl) ⟨j + 1, g2, g3, by rw [q5]; rfl⟩
theorem inv_step {acts : List ActD} {L : Nat → List Nat} {s : PSt} (h : (∃ d, PInv acts d s) ∧ SInv acts L s) {n : Nat} (hn : n ≤ 4) : (∃ d, PInv acts d (pstep s n)) ∧ SInv acts L (pstep s n) := by
  obtain ⟨⟨d, hp⟩, hs⟩ := h
  unfold pstep
  split
  · obtain ⟨d', h1, _⟩ := hp.w
    exact ⟨⟨d', h1⟩, hs.w hp⟩
  · exact ⟨⟨d, hp.r n⟩, hs.r hp (by omega)⟩
theorem inv_run {acts : List ActD} {L : Nat → List Nat} : ∀ (l : List Nat) {s : PSt}, ((∃ d, PInv acts d s) ∧ SInv acts L s) → (∀ n ∈ l, n ≤ 4) → (∃ d, PInv acts d (prun s l)) ∧ SInv acts L (prun s l)
  | [], _, h, _ => h
  | n :: l, s, h, hl => inv_run l (s := pstep s n) (inv_step h (hl n List.mem_cons_self)) (fun m hm => hl m (List.mem_cons_of_mem _ hm))
theorem pask_lenZ : ∀ (l : List AskD) (s : PSt) (K : Nat), (∀ n, (s.R n).todo.length ≤ K) → s.wt.length ≤ K → (∀ n, ((l.foldl pask s).R n).todo.length ≤ K + l.length) ∧ (l.foldl pask s).wt.length ≤ K + l.length
  | [], s, K, h1, h2 => ⟨h1, h2⟩
  | a :: l, s, K, h1, h2 => by
    have := pask_lenZ l (pask s a) (K + 1) (fun n => ?_) ?_
    · rw [List.foldl_cons, List.length_cons]
      exact ⟨fun n => by have := this.1 n; omega, by have := this.2; omega⟩
    · unfold pask
      split
      · by_cases e : n = a.n
        · subst e
          show (up s.R a.n _ a.n).todo.length ≤ _
          rw [up_same]
          have := h1 a.n
          simp only [List.length_append, List.length_cons, List.length_nil]
          omega
        · show (up s.R a.n _ n).todo.length ≤ _
          rw [up_other _ _ e]
          have := h1 n
          omega
      · have := h1 n
        show (s.R n).todo.length ≤ _
        omega
    · unfold pask
      split
      · show s.wt.length ≤ _
        omega
      · show (s.wt ++ [_]).length ≤ _
        simp only [List.length_append, List.length_cons, List.length_nil]
        omega
theorem pasks_lenZ (l : List AskD) : (∀ n, ((pasks l).R n).todo.length ≤ l.length) ∧ (pasks l).wt.length ≤ l.length := by
  have := pask_lenZ l ⟨fun _ => [], fun _ => 0, 0, fun _ => 0, 0, fun _ => ⟨[], 0, 0⟩, [], 0, 0, []⟩ 0 (fun n => Nat.le_refl _) (Nat.le_refl _)
  rw [Nat.zero_add] at this
  exact this
def wacts (al : List AskD) : List ActD := (pasks al).wt
def looksL (al : List AskD) (n : Nat) : List Nat := ((pasks al).R n).todo
theorem wacts_snoc (al : List AskD) (x : AskD) : wacts (al ++ [x]) = if x.rd = true then wacts al else wacts al ++ [x.act] := by
  unfold wacts
  rw [pasks_snoc]
  unfold pask
  split <;> rfl
theorem looksL_snoc (al : List AskD) (x : AskD) (n : Nat) : looksL (al ++ [x]) n = if x.rd = true ∧ n = x.n then looksL al n ++ [x.ad] else looksL al n := by
  unfold looksL
  rw [pasks_snoc]
  unfold pask
  by_cases h : x.rd = true
  · rw [if_pos h]
    by_cases e : n = x.n
    · rw [if_pos ⟨h, e⟩, e]
      show (RdS.todo (Go.Proofs.Ytllemhknmleklaa.up _ _ _ _)) = _
      rw [up_same]
    · rw [if_neg (fun g => e g.2)]
      show (RdS.todo (Go.Proofs.Ytllemhknmleklaa.up _ _ _ _)) = _
      rw [up_other _ _ e]
  · rw [if_neg h, if_neg (fun g => h g.1)]
theorem pasks_A (l : List AskD) : (∀ i, (pasks l).A i = 0) ∧ (∀ i, (pasks l).C i = 0) ∧ (pasks l).ww = 0 ∧ (pasks l).se = [] := by
  suffices g : ∀ (l : List AskD) (s : PSt), (∀ i, s.A i = 0) → (∀ i, s.C i = 0) → s.ww = 0 → s.se = [] → (∀ i, (l.foldl pask s).A i = 0) ∧ (∀ i, (l.foldl pask s).C i = 0) ∧ (l.foldl pask s).ww = 0 ∧ (l.foldl pask s).se = [] from g l _ (fun _ => rfl) (fun _ => rfl) rfl rfl
  intro l
  induction l with
  | nil => intro s h1 h2 h3 h4; exact ⟨h1, h2, h3, h4⟩
  | cons a l ih =>
    intro s h1 h2 h3 h4
    refine ih (pask s a) ?_ ?_ ?_ ?_
    · intro i; unfold pask; split <;> exact h1 i
    · intro i; unfold pask; split <;> exact h2 i
    · unfold pask; split <;> exact h3
    · unfold pask; split <;> exact h4
theorem inv_zero {al : List AskD} (h : ∀ a ∈ al, a.ok) : (∃ d, PInv (wacts al) d (pasks al)) ∧ SInv (wacts al) (looksL al) (pasks al) := by
  obtain ⟨h1, h2, h3, h4, h5, h6⟩ := pasks_ok h
  obtain ⟨a1, a2, a3, a4⟩ := pasks_A al
  refine ⟨⟨0, rfl, Nat.zero_le _, by omega, by omega, fun _ => h5, by rw [a1, h5]; rfl, by rw [a1, h5]; rfl, fun i _ => by rw [h2, a1]; rfl⟩, ⟨fun n => ⟨by rw [h4]; decide, fun _ => h4 n, 0, rfl, Nat.zero_le _, by rw [a4, h4]; rfl⟩, fun k x hx => (by rw [a4] at hx; simp at hx), fun x hx => (by rw [a4] at hx; cases hx), fun k x y hx => (by rw [a4] at hx; simp at hx)⟩⟩
theorem pair_inv {al : List AskD} (h : ∀ a ∈ al, a.ok) {pl : List Nat} (hp : ∀ n ∈ pl, n ≤ 4) : (∃ d, PInv (wacts al) d (prun (pasks al) pl)) ∧ SInv (wacts al) (looksL al) (prun (pasks al) pl) := inv_run pl (inv_zero h) hp
/-- PairTrue's plain law. -/
theorem true_law {al : List AskD} (h : ∀ a ∈ al, a.ok) {pl : List Nat} (hp : ∀ n ∈ pl, n ≤ 4) {k : Nat} {x : SeenD} (hx : (prun (pasks al) pl).se[k]? = some x) :
    x.acts ≤ (wacts al).length ∧ x.rd < 4 ∧ ∃ a, (looksL al x.rd)[(((prun (pasks al) pl).se.take k).filter (fun y => y.rd == x.rd)).length]? = some a ∧ x.hop = (goesL (tend [] ((wacts al).take x.acts)) a).1 := by
  obtain ⟨h1, h2, a, h3, h4⟩ := (pair_inv h hp).2.se k x hx
  exact ⟨h1, h2, a, h3, by rw [← h4]⟩
theorem left_law {al : List AskD} (h : ∀ a ∈ al, a.ok) {pl : List Nat} (hp : ∀ n ∈ pl, n ≤ 4) : (prun (pasks al) pl).wt.length ≤ (wacts al).length := by
  obtain ⟨d, hd⟩ := (pair_inv h hp).1
  rw [hd.wt, List.length_drop]
  omega
theorem forward_law {al : List AskD} (h : ∀ a ∈ al, a.ok) {pl : List Nat} (hp : ∀ n ∈ pl, n ≤ 4) {k : Nat} {x y : SeenD} (hx : (prun (pasks al) pl).se[k]? = some x) (hy : (prun (pasks al) pl).se[k + 1]? = some y) : x.acts ≤ y.acts := (pair_inv h hp).2.srt k x y hx hy

/-- Reader 1 has one task more, at the end. -/
def addT (s : PSt) : PSt := { s with R := up s.R 1 ⟨(s.R 1).todo ++ [0], (s.R 1).at_, (s.R 1).cnt⟩ }
def askT : AskD := ⟨true, 1, 0, actZ⟩
theorem askT_ok : askT.ok := .inl ⟨rfl, by decide, by unfold Fits wd; decide, rfl⟩
theorem pasks_more (al : List AskD) : pasks (al ++ [askT]) = addT (pasks al) := by rw [pasks_snoc]; rfl
theorem addT_w (s : PSt) : wstep (addT s) = addT (wstep s) := by
  obtain ⟨T, A, fr, C, us, R, wt, wa, ww, se⟩ := s
  unfold wstep addT
  cases wt with
  | nil => rfl
  | cons x l =>
    dsimp only
    split
    · rfl
    · split
      · rfl
      · split
        · split <;> rfl
        · split <;> rfl
theorem up_swap {α : Type} (f : Nat → α) {i j : Nat} (u v : α) (h : i ≠ j) : up (up f i u) j v = up (up f j v) i u := by
  funext k
  by_cases e : k = i
  · subst e
    rw [up_other _ _ h, up_same, up_same]
  · by_cases g : k = j
    · subst g
      rw [up_same, up_other _ _ e, up_same]
    · rw [up_other _ _ g, up_other _ _ e, up_other _ _ e, up_other _ _ g]
theorem up_up {α : Type} (f : Nat → α) (i : Nat) (u v : α) : up (up f i u) i v = up f i v := by
  funext k
  by_cases e : k = i
  · subst e; rw [up_same, up_same]
  · rw [up_other _ _ e, up_other _ _ e, up_other _ _ e]
/-- A reader's step, the reader held apart. -/
def rbody (s : PSt) (n : Nat) (r : RdS) : PSt :=
  match r.todo with
  | [] => s
  | a :: l =>
    if r.at_ = 0 then { s with R := up s.R n ⟨a :: l, 1, s.us⟩ }
    else if r.at_ = 1 then { s with C := up s.C r.cnt (s.C r.cnt + 1), R := up s.R n ⟨a :: l, 2, r.cnt⟩ }
    else if r.at_ = 2 then { s with R := up s.R n ⟨a :: l, 3, r.cnt⟩, se := s.se ++ [⟨n, (goesL (s.T s.fr) a).1, (goesL (s.T s.fr) a).2, s.A s.fr⟩] }
    else { s with C := up s.C r.cnt (s.C r.cnt - 1), R := up s.R n ⟨l, 0, r.cnt⟩ }
theorem rstep_body (s : PSt) (n : Nat) : rstep s n = rbody s n (s.R n) := rfl
theorem addT_R1 (s : PSt) : (addT s).R 1 = ⟨(s.R 1).todo ++ [0], (s.R 1).at_, (s.R 1).cnt⟩ := by show up s.R 1 _ 1 = _; exact up_same _ _ _
theorem addT_R {s : PSt} {n : Nat} (h : n ≠ 1) : (addT s).R n = s.R n := up_other _ _ h
theorem addT_r {s : PSt} {n : Nat} (h : n ≠ 1 ∨ (s.R 1).todo ≠ []) : rstep (addT s) n = addT (rstep s n) := by
  rw [rstep_body, rstep_body]
  by_cases e : n = 1
  · subst e
    have h1 : (s.R 1).todo ≠ [] := by rcases h with h | h; (· exact absurd rfl h); (· exact h)
    rw [addT_R1]
    generalize s.R 1 = r at *
    obtain ⟨todo, at_, cnt⟩ := r
    cases todo with
    | nil => exact absurd rfl h1
    | cons a l =>
      unfold rbody addT
      dsimp only [List.cons_append]
      by_cases c0 : at_ = 0
      · rw [if_pos c0, if_pos c0]; simp only [up_up, up_same]; rfl
      · rw [if_neg c0, if_neg c0]
        by_cases c1 : at_ = 1
        · rw [if_pos c1, if_pos c1]; simp only [up_up, up_same]; rfl
        · rw [if_neg c1, if_neg c1]
          by_cases c2 : at_ = 2
          · rw [if_pos c2, if_pos c2]; simp only [up_up, up_same]; rfl
          · rw [if_neg c2, if_neg c2]; simp only [up_up, up_same]
  · have en : 1 ≠ n := fun g => e g.symm
    rw [addT_R e]
    generalize s.R n = r at *
    obtain ⟨todo, at_, cnt⟩ := r
    cases todo with
    | nil => rfl
    | cons a l =>
      unfold rbody addT
      dsimp only
      by_cases c0 : at_ = 0
      · rw [if_pos c0, if_pos c0]; simp only [up_other _ _ en]; rw [up_swap _ _ _ en]
      · rw [if_neg c0, if_neg c0]
        by_cases c1 : at_ = 1
        · rw [if_pos c1, if_pos c1]; simp only [up_other _ _ en]; rw [up_swap _ _ _ en]
        · rw [if_neg c1, if_neg c1]
          by_cases c2 : at_ = 2
          · rw [if_pos c2, if_pos c2]; simp only [up_other _ _ en]; rw [up_swap _ _ _ en]
          · rw [if_neg c2, if_neg c2]; simp only [up_other _ _ en]; rw [up_swap _ _ _ en]
theorem addT_step {s : PSt} {n : Nat} (h : n ≠ 1 ∨ (s.R 1).todo ≠ []) : pstep (addT s) n = addT (pstep s n) := by
  unfold pstep
  split
  · exact addT_w s
  · exact addT_r h
/-- What reader 1 has yet to do, in steps. -/
def remR (s : PSt) : Nat := 4 * (s.R 1).todo.length - (s.R 1).at_
theorem rem_zero {s : PSt} (h1 : (s.R 1).at_ < 4) (h2 : (s.R 1).todo = [] → (s.R 1).at_ = 0) : remR s = 0 ↔ (s.R 1).todo = [] := by
  unfold remR
  constructor
  · intro h
    cases e : (s.R 1).todo with
    | nil => rfl
    | cons a l => rw [e, List.length_cons] at h; omega
  · intro h; rw [h]; simp
theorem rem_step {s : PSt} (h1 : (s.R 1).at_ < 4) (h2 : (s.R 1).todo = [] → (s.R 1).at_ = 0) (n : Nat) : remR (pstep s n) = if n = 1 ∧ (s.R 1).todo ≠ [] then remR s - 1 else remR s := by
  unfold pstep
  by_cases e4 : n = 4
  · rw [if_pos e4, if_neg (by omega)]
    unfold remR
    rw [(wstep_R s).1]
  · rw [if_neg e4]
    by_cases e1 : n = 1
    · subst e1
      by_cases ht : (s.R 1).todo = []
      · rw [rstep_idle ht, if_neg (fun g => g.2 ht)]
      · rw [if_pos ⟨rfl, ht⟩]
        unfold rstep remR
        cases hh : (s.R 1).todo with
        | nil => exact absurd hh ht
        | cons a l =>
          dsimp only
          split
          · simp only [up_same, List.length_cons]; omega
          · split
            · simp only [up_same, List.length_cons]; omega
            · split
              · simp only [up_same, List.length_cons]; omega
              · simp only [up_same, List.length_cons]; omega
    · rw [if_neg (fun g => e1 g.1)]
      unfold remR
      rw [rstep_R (fun g => e1 g.symm)]
/-- One pick of PairForward's second loop. -/
theorem more_step {al : List AskD} (h : ∀ a ∈ al, a.ok) {pl : List Nat} (hp : ∀ n ∈ pl, n ≤ 4) {i n : Nat} (hi : pl[i]? = some n) :
    ((n = 1 ∧ remR (prun (pasks al) (pl.take i)) = 0) → prun (pasks al) (pl.take (i + 1)) = prun (pasks al) (pl.take i)) ∧
    (¬ (n = 1 ∧ remR (prun (pasks al) (pl.take i)) = 0) → (∀ q, prun (pasks (al ++ [askT])) q = addT (prun (pasks al) (pl.take i)) → prun (pasks (al ++ [askT])) (q ++ [n]) = addT (prun (pasks al) (pl.take (i + 1)))) ∧
      remR (prun (pasks al) (pl.take (i + 1))) = if n = 1 then remR (prun (pasks al) (pl.take i)) - 1 else remR (prun (pasks al) (pl.take i))) := by
  have e : prun (pasks al) (pl.take (i + 1)) = pstep (prun (pasks al) (pl.take i)) n := by rw [List.take_add_one, hi]; exact prun_snoc _ _ _
  obtain ⟨q1, q2, _⟩ := (pair_inv h (pl := pl.take i) (fun m hm => hp m (List.mem_of_mem_take hm))).2.rd 1
  rw [e]
  generalize prun (pasks al) (pl.take i) = s at *
  have hz := rem_zero q1 q2
  have hs := rem_step q1 q2 n
  refine ⟨fun ⟨g1, g2⟩ => ?_, fun g => ⟨fun q hq => ?_, ?_⟩⟩
  · subst g1
    have := hz.1 g2
    unfold pstep
    rw [if_neg (by decide), rstep_idle this]
  · rw [prun_snoc, hq]
    refine addT_step ?_
    by_cases e1 : n = 1
    · exact .inr (fun g' => g ⟨e1, hz.2 g'⟩)
    · exact .inl e1
  · rw [hs]
    by_cases e1 : n = 1
    · rw [if_pos e1, if_pos ⟨e1, fun g' => g ⟨e1, hz.2 g'⟩⟩]
    · rw [if_neg e1, if_neg (fun g' => e1 g'.1)]
/-- Reader 1 alone goes on until it has nothing to do; the last it is told is of all that is at the front. -/
theorem run_one : ∀ (j : Nat) (s : PSt), (s.R 1).at_ < 4 → (4 * (s.R 1).todo.length ≤ j + (s.R 1).at_) → (2 ≤ (s.R 1).todo.length ∨ ((s.R 1).todo.length = 1 ∧ (s.R 1).at_ ≤ 2) ∨ ∃ x, s.se.getLast? = some x ∧ x.acts = s.A s.fr) →
    ∃ x, (prun s (List.replicate j 1)).se.getLast? = some x ∧ x.acts = s.A s.fr := by
  intro j
  induction j with
  | zero =>
    intro s h1 h2 h3
    rcases h3 with h | ⟨h, h'⟩ | h
    · omega
    · omega
    · exact h
  | succ j ih =>
    intro s h1 h2 h3
    rw [List.replicate_succ]
    show ∃ x, (prun (pstep s 1) (List.replicate j 1)).se.getLast? = some x ∧ _
    have e : pstep s 1 = rstep s 1 := by unfold pstep; rw [if_neg (by decide)]
    rw [e]
    obtain ⟨k1, k2, k3, _, _, _, _⟩ := rstep_keeps s 1
    have hA : s.A s.fr = (rstep s 1).A (rstep s 1).fr := by rw [k2, k3]
    rw [hA]
    cases ht : (s.R 1).todo with
    | nil =>
      rw [ht] at h3
      rcases h3 with h | ⟨h, h'⟩ | h
      · simp at h
      · simp at h
      · rw [rstep_idle ht]
        exact ih s h1 (by rw [ht]; simp) (.inr (.inr h))
    | cons a l =>
      rw [ht, List.length_cons] at h2 h3
      unfold rstep
      rw [ht]
      dsimp only
      by_cases c0 : (s.R 1).at_ = 0
      · rw [if_pos c0]
        refine ih _ (by dsimp only; rw [up_same]; show 1 < 4; decide) (by dsimp only; rw [up_same]; simp; omega) ?_
        dsimp only
        rw [up_same]
        rcases h3 with h | ⟨h, h'⟩ | h
        · exact .inl (by simp; omega)
        · exact .inr (.inl ⟨by simp at h ⊢; omega, by show 1 ≤ 2; decide⟩)
        · exact .inr (.inr h)
      · rw [if_neg c0]
        by_cases c1 : (s.R 1).at_ = 1
        · rw [if_pos c1]
          refine ih _ (by dsimp only; rw [up_same]; show 2 < 4; decide) (by dsimp only; rw [up_same]; simp; omega) ?_
          dsimp only
          rw [up_same]
          rcases h3 with h | ⟨h, h'⟩ | h
          · exact .inl (by simp; omega)
          · exact .inr (.inl ⟨by simp at h ⊢; omega, by show 2 ≤ 2; decide⟩)
          · exact .inr (.inr h)
        · rw [if_neg c1]
          by_cases c2 : (s.R 1).at_ = 2
          · rw [if_pos c2]
            refine ih _ (by dsimp only; rw [up_same]; show 3 < 4; decide) (by dsimp only; rw [up_same]; simp; omega) ?_
            exact .inr (.inr ⟨_, List.getLast?_concat, rfl⟩)
          · rw [if_neg c2]
            refine ih _ (by dsimp only; rw [up_same]; show 0 < 4; decide) (by dsimp only; rw [up_same]; simp; omega) ?_
            dsimp only
            rw [up_same]
            rcases h3 with h | ⟨h, h'⟩ | h
            · by_cases hl : l.length = 1
              · exact .inr (.inl ⟨hl, by show 0 ≤ 2; decide⟩)
              · exact .inl (by show 2 ≤ l.length; omega)
            · omega
            · exact .inr (.inr h)
/-- PairForward's end: a reader that begins when all is wholly done is told of all. -/
theorem more_law {al : List AskD} (h : ∀ a ∈ al, a.ok) (hl : al.length ≤ 40) {pl : List Nat} (hp : ∀ n ∈ pl, n ≤ 4) (h0 : (prun (pasks al) pl).wt.length = 0) {q : List Nat} (hq : prun (pasks (al ++ [askT])) q = addT (prun (pasks al) pl)) :
    ∃ x, (prun (pasks (al ++ [askT])) (q ++ List.replicate 168 1)).se.getLast? = some x ∧ x.acts = (wacts al).length := by
  rw [prun_app, hq]
  obtain ⟨⟨d, hd⟩, hs⟩ := pair_inv h hp
  have hlen : (looksL al 1).length ≤ al.length := (pasks_lenZ al).1 1
  generalize prun (pasks al) pl = s at *
  obtain ⟨q1, q2, j, q3, q4, q5⟩ := hs.rd 1
  have hw : s.wt = [] := List.eq_nil_of_length_eq_zero h0
  have hwa := hd.w0 hw
  have hAf := hd.Af
  rw [hwa, if_pos (by decide)] at hAf
  have hdl : d = (wacts al).length := by
    have := hd.wt
    rw [hw] at this
    have := congrArg List.length this
    rw [List.length_drop, List.length_nil] at this
    have := hd.le
    omega
  have hA : (addT s).A (addT s).fr = (wacts al).length := by show s.A s.fr = _; rw [hAf, hdl]
  have hR : (addT s).R 1 = ⟨(s.R 1).todo ++ [0], (s.R 1).at_, (s.R 1).cnt⟩ := by show up s.R 1 _ 1 = _; exact up_same _ _ _
  have hz : (s.R 1).todo.length ≤ 40 := by rw [q3, List.length_drop]; omega
  rw [← hA]
  refine run_one 168 (addT s) (by rw [hR]; exact q1) (by rw [hR]; simp; omega) ?_
  rw [hR]
  cases ht : (s.R 1).todo with
  | nil => exact .inr (.inl ⟨rfl, by show (s.R 1).at_ ≤ 2; rw [q2 ht]; decide⟩)
  | cons a l => exact .inl (by simp)
end Go.Proofs.Ytllemhknmleklaa
