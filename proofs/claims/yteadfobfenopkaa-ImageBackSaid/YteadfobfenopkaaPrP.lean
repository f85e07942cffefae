
/- A pair of tables, of which one is looked at: plain. -/
import Derived.Test.YteadfobfenopkaaTbA
import Derived.Test.YteadfobfenopkaaQRow
set_option linter.unusedVariables false
namespace Go.Proofs.Yteadfobfenopkaa
open Go Go.RowKit Wc

structure RdS where
  todo : List Nat
  at_ : Nat
  cnt : Nat
structure SeenD where
  rd : Nat
  hop : Nat
  len : Nat
  acts : Nat
structure PSt where
  T : Nat → List (Nat × Nat × Nat)
  A : Nat → Nat
  fr : Nat
  C : Nat → Int
  us : Nat
  R : Nat → RdS
  wt : List ActD
  wa : Nat
  ww : Nat
  se : List SeenD
def up {α : Type} (f : Nat → α) (i : Nat) (v : α) : Nat → α := fun j => if j = i then v else f j
theorem up_same {α : Type} (f : Nat → α) (i : Nat) (v : α) : up f i v i = v := if_pos rfl
theorem up_other {α : Type} (f : Nat → α) {i j : Nat} (v : α) (h : j ≠ i) : up f i v j = f j := if_neg h
def PSt.act (s : PSt) (x : ActD) : PSt := { s with T := up s.T (1 - s.fr) (tstep (s.T (1 - s.fr)) x).1, A := up s.A (1 - s.fr) (s.A (1 - s.fr) + 1) }
def wstep (s : PSt) : PSt :=
  match s.wt with
  | [] => s
  | x :: l =>
    if s.wa = 0 then { s.act x with wa := 1 }
    else if s.wa = 1 then { s with fr := 1 - s.fr, wa := 2 }
    else if s.wa = 2 then (if 0 < s.C (1 - s.us) then { s with ww := s.ww + 1 } else { s with us := 1 - s.us, wa := 3 })
    else (if 0 < s.C (1 - s.us) then { s with ww := s.ww + 1 } else { s.act x with wt := l, wa := 0 })
def rstep (s : PSt) (n : Nat) : PSt :=
  match (s.R n).todo with
  | [] => s
  | a :: l =>
    if (s.R n).at_ = 0 then { s with R := up s.R n ⟨a :: l, 1, s.us⟩ }
    else if (s.R n).at_ = 1 then { s with C := up s.C (s.R n).cnt (s.C (s.R n).cnt + 1), R := up s.R n ⟨a :: l, 2, (s.R n).cnt⟩ }
    else if (s.R n).at_ = 2 then { s with R := up s.R n ⟨a :: l, 3, (s.R n).cnt⟩, se := s.se ++ [⟨n, (goesL (s.T s.fr) a).1, (goesL (s.T s.fr) a).2, s.A s.fr⟩] }
    else { s with C := up s.C (s.R n).cnt (s.C (s.R n).cnt - 1), R := up s.R n ⟨l, 0, (s.R n).cnt⟩ }
def pstep (s : PSt) (n : Nat) : PSt := if n = 4 then wstep s else rstep s n
def prun (s : PSt) (l : List Nat) : PSt := l.foldl pstep s
theorem prun_snoc (s : PSt) (l : List Nat) (n : Nat) : prun s (l ++ [n]) = pstep (prun s l) n := by unfold prun; rw [List.foldl_append]; rfl
theorem prun_app (s : PSt) (a b : List Nat) : prun s (a ++ b) = prun (prun s a) b := by unfold prun; rw [List.foldl_append]
structure AskD where
  rd : Bool
  n : Nat
  ad : Nat
  act : ActD
def AskD.ok (a : AskD) : Prop := (a.rd = true ∧ a.n < 4 ∧ Fits false a.ad ∧ a.act = actZ) ∨ (a.rd = false ∧ a.n = 0 ∧ a.ad = 0 ∧ a.act.ok)
def pask (s : PSt) (a : AskD) : PSt := if a.rd then { s with R := up s.R a.n ⟨(s.R a.n).todo ++ [a.ad], (s.R a.n).at_, (s.R a.n).cnt⟩ } else { s with wt := s.wt ++ [a.act] }
def pasks (l : List AskD) : PSt := l.foldl pask ⟨fun _ => [], fun _ => 0, 0, fun _ => 0, 0, fun _ => ⟨[], 0, 0⟩, [], 0, 0, []⟩
theorem pasks_snoc (l : List AskD) (a : AskD) : pasks (l ++ [a]) = pask (pasks l) a := by unfold pasks; rw [List.foldl_append]; rfl

theorem okA_fit {x : ActD} (h : x.ok) : x.fit := by
  obtain ⟨hv, ht, ha, hk⟩ := h
  refine ⟨hv, by rw [ha]; unfold Fits wd; simp, by omega, fun h1 => ?_, ht⟩
  rcases hk with ⟨_, h⟩ | h
  · exact h
  · omega
/-- What holds of each state; K bounds what is counted. -/
structure PSt.ok (s : PSt) (K : Nat) : Prop where
  fr : s.fr < 2
  us : s.us < 2
  at_ : ∀ n, (s.R n).at_ < 4
  cnt : ∀ n, (s.R n).cnt < 2
  wa : s.wa < 4
  A : ∀ i, s.A i ≤ K
  C : ∀ i, -(K : Int) ≤ s.C i ∧ s.C i ≤ K
  ww : s.ww ≤ K
  se : s.se.length ≤ K
  T : ∀ i, TabOk (s.T i)
  wt : ∀ x ∈ s.wt, x.ok
  rt : ∀ n, ∀ a ∈ (s.R n).todo, Fits false a
theorem PSt.ok.act {s : PSt} {K : Nat} (h : s.ok K) {x : ActD} (hx : x.ok) : (s.act x).ok (K + 1) := by
  refine ⟨h.fr, h.us, h.at_, h.cnt, h.wa, fun i => ?_, fun i => ?_, Nat.le_succ_of_le h.ww, Nat.le_succ_of_le h.se, fun i => ?_, h.wt, h.rt⟩
  · show up s.A (1 - s.fr) (s.A (1 - s.fr) + 1) i ≤ K + 1
    unfold up
    split
    · have := h.A (1 - s.fr); omega
    · have := h.A i; omega
  · have := h.C i
    show -((K + 1 : Nat) : Int) ≤ s.C i ∧ s.C i ≤ ((K + 1 : Nat) : Int)
    omega
  · show TabOk (up s.T (1 - s.fr) (tstep (s.T (1 - s.fr)) x).1 i)
    unfold up
    split
    · exact (h.T _).step (okA_fit hx)
    · exact h.T i
theorem PSt.ok.mono {s : PSt} {K : Nat} (h : s.ok K) : s.ok (K + 1) :=
  ⟨h.fr, h.us, h.at_, h.cnt, h.wa, fun i => Nat.le_succ_of_le (h.A i), fun i => (by have := h.C i; omega), Nat.le_succ_of_le h.ww, Nat.le_succ_of_le h.se, h.T, h.wt, h.rt⟩
theorem PSt.ok.w {s : PSt} {K : Nat} (h : s.ok K) : (wstep s).ok (K + 1) := by
  unfold wstep
  split
  · exact h.mono
  · rename_i x l hw
    have hx : x.ok := h.wt x (by rw [hw]; simp)
    have m := h.mono
    have a := h.act hx
    split
    · exact ⟨a.fr, a.us, a.at_, a.cnt, by show 1 < 4; decide, a.A, a.C, a.ww, a.se, a.T, a.wt, a.rt⟩
    · split
      · exact ⟨by show 1 - s.fr < 2; omega, m.us, m.at_, m.cnt, by show 2 < 4; decide, m.A, m.C, m.ww, m.se, m.T, m.wt, m.rt⟩
      · split
        · split
          · exact ⟨m.fr, m.us, m.at_, m.cnt, m.wa, m.A, m.C, by show s.ww + 1 ≤ K + 1; have := h.ww; omega, m.se, m.T, m.wt, m.rt⟩
          · exact ⟨m.fr, by show 1 - s.us < 2; omega, m.at_, m.cnt, by show 3 < 4; decide, m.A, m.C, m.ww, m.se, m.T, m.wt, m.rt⟩
        · split
          · exact ⟨m.fr, m.us, m.at_, m.cnt, m.wa, m.A, m.C, by show s.ww + 1 ≤ K + 1; have := h.ww; omega, m.se, m.T, m.wt, m.rt⟩
          · exact ⟨a.fr, a.us, a.at_, a.cnt, by show 0 < 4; decide, a.A, a.C, a.ww, a.se, a.T, fun y hy => h.wt y (by rw [hw]; exact List.mem_cons_of_mem _ hy), a.rt⟩
theorem PSt.ok.r {s : PSt} {K : Nat} (h : s.ok K) (n : Nat) : (rstep s n).ok (K + 1) := by
  unfold rstep
  split
  · exact h.mono
  · rename_i a l hw
    have m := h.mono
    have hC : ∀ d : Int, -1 ≤ d → d ≤ 1 → ∀ i, -((K + 1 : Nat) : Int) ≤ up s.C (s.R n).cnt (s.C (s.R n).cnt + d) i ∧ up s.C (s.R n).cnt (s.C (s.R n).cnt + d) i ≤ ((K + 1 : Nat) : Int) := fun d h1 h2 i => by
      unfold up
      split
      · have := h.C (s.R n).cnt; omega
      · have := h.C i; omega
    have hR : ∀ r : RdS, r.at_ < 4 → r.cnt < 2 → (∀ x ∈ r.todo, Fits false x) → (∀ i, (up s.R n r i).at_ < 4) ∧ (∀ i, (up s.R n r i).cnt < 2) ∧ ∀ i, ∀ x ∈ (up s.R n r i).todo, Fits false x := fun r h1 h2 h3 => by
      refine ⟨fun i => ?_, fun i => ?_, fun i => ?_⟩ <;> unfold up <;> split
      · exact h1
      · exact h.at_ i
      · exact h2
      · exact h.cnt i
      · exact h3
      · exact h.rt i
    have hf : ∀ x ∈ a :: l, Fits false x := by rw [← hw]; exact h.rt n
    split
    · obtain ⟨r1, r2, r3⟩ := hR ⟨a :: l, 1, s.us⟩ (by show 1 < 4; decide) h.us hf
      exact ⟨m.fr, m.us, r1, r2, m.wa, m.A, m.C, m.ww, m.se, m.T, m.wt, r3⟩
    · split
      · obtain ⟨r1, r2, r3⟩ := hR ⟨a :: l, 2, (s.R n).cnt⟩ (by show 2 < 4; decide) (h.cnt n) hf
        exact ⟨m.fr, m.us, r1, r2, m.wa, m.A, hC 1 (by decide) (by decide), m.ww, m.se, m.T, m.wt, r3⟩
      · split
        · obtain ⟨r1, r2, r3⟩ := hR ⟨a :: l, 3, (s.R n).cnt⟩ (by show 3 < 4; decide) (h.cnt n) hf
          exact ⟨m.fr, m.us, r1, r2, m.wa, m.A, m.C, m.ww, by have := h.se; simp; omega, m.T, m.wt, r3⟩
        · obtain ⟨r1, r2, r3⟩ := hR ⟨l, 0, (s.R n).cnt⟩ (by show 0 < 4; decide) (h.cnt n) (fun x hx => hf x (List.mem_cons_of_mem _ hx))
          exact ⟨m.fr, m.us, r1, r2, m.wa, m.A, hC (-1) (by decide) (by decide), m.ww, m.se, m.T, m.wt, r3⟩
theorem PSt.ok.step {s : PSt} {K : Nat} (h : s.ok K) (n : Nat) : (pstep s n).ok (K + 1) := by
  unfold pstep
  split
  · exact h.w
  · exact h.r n
theorem PSt.ok.run {s : PSt} {K : Nat} (h : s.ok K) : ∀ l : List Nat, (prun s l).ok (K + l.length)
  | [] => h
  | n :: l => by
    have := (h.step n).run l
    rw [show K + 1 + l.length = K + (l.length + 1) by omega] at this
    exact this
theorem pasks_ok {l : List AskD} (h : ∀ a ∈ l, a.ok) : (pasks l).ok 0 ∧ (∀ i, (pasks l).T i = []) ∧ (pasks l).fr = 0 ∧ (∀ n, ((pasks l).R n).at_ = 0) ∧ (pasks l).wa = 0 ∧ (pasks l).us = 0 := by
  suffices g : ∀ (l : List AskD) (s : PSt), s.ok 0 → (∀ i, s.T i = []) → s.fr = 0 → (∀ n, (s.R n).at_ = 0) → s.wa = 0 → s.us = 0 → (∀ a ∈ l, a.ok) →
      (l.foldl pask s).ok 0 ∧ (∀ i, (l.foldl pask s).T i = []) ∧ (l.foldl pask s).fr = 0 ∧ (∀ n, ((l.foldl pask s).R n).at_ = 0) ∧ (l.foldl pask s).wa = 0 ∧ (l.foldl pask s).us = 0 by
    exact g l _ ⟨by show 0 < 2; decide, by show 0 < 2; decide, fun _ => (by show 0 < 4; decide), fun _ => (by show 0 < 2; decide), by show 0 < 4; decide, fun _ => Nat.le_refl _, fun _ => (by show -((0 : Nat) : Int) ≤ 0 ∧ (0 : Int) ≤ ((0 : Nat) : Int); decide), Nat.le_refl _, Nat.le_refl _, fun _ => TabOk.nil, fun x hx => (List.not_mem_nil hx).elim, fun n x hx => (List.not_mem_nil hx).elim⟩ (fun _ => rfl) rfl (fun _ => rfl) rfl rfl h
  intro l
  induction l with
  | nil => intro s h1 h2 h3 h4 h5 h6 _; exact ⟨h1, h2, h3, h4, h5, h6⟩
  | cons a l ih =>
    intro s h1 h2 h3 h4 h5 h6 hl
    have ha := hl a (by simp)
    refine ih (pask s a) ?_ ?_ ?_ ?_ ?_ ?_ (fun b hb => hl b (by simp [hb]))
    · unfold pask
      rcases ha with ⟨e, hn, hf, _⟩ | ⟨e, _, _, hok⟩
      · rw [if_pos e]
        refine ⟨h1.fr, h1.us, fun i => ?_, fun i => ?_, h1.wa, h1.A, h1.C, h1.ww, h1.se, h1.T, h1.wt, fun i => ?_⟩ <;> show _ <;> dsimp only <;> unfold up <;> split
        · exact h1.at_ _
        · exact h1.at_ i
        · exact h1.cnt _
        · exact h1.cnt i
        · intro x hx
          rcases List.mem_append.1 hx with hx | hx
          · exact h1.rt _ x hx
          · simp at hx; subst hx; exact hf
        · exact h1.rt i
      · rw [if_neg (by rw [e]; decide)]
        refine ⟨h1.fr, h1.us, h1.at_, h1.cnt, h1.wa, h1.A, h1.C, h1.ww, h1.se, h1.T, fun x hx => ?_, h1.rt⟩
        rcases List.mem_append.1 hx with hx | hx
        · exact h1.wt x hx
        · simp at hx; subst hx; exact hok
    · intro i; unfold pask; split <;> exact h2 i
    · unfold pask; split <;> exact h3
    · intro n
      unfold pask
      split
      · show (up s.R a.n _ n).at_ = 0
        unfold up
        split
        · exact h4 _
        · exact h4 n
      · exact h4 n
    · unfold pask; split <;> exact h5
    · unfold pask; split <;> exact h6
end Go.Proofs.Yteadfobfenopkaa
