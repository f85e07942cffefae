
/- A pair of tables: plain laws of the writer's end. -/
import Derived.Test.YtllemhknmleklaaPrZ
set_option linter.unusedVariables false
namespace Go.Proofs.Ytllemhknmleklaa
open Go Go.RowKit Wc

def bitR (r : RdS) (i : Nat) : Int := if (r.at_ = 2 ∨ r.at_ = 3) ∧ r.cnt = i then 1 else 0
/-- The counts count the readers that have taken note and are not through. -/
def CInv (s : PSt) : Prop := ∀ i, s.C i = bitR (s.R 0) i + bitR (s.R 1) i + bitR (s.R 2) i + bitR (s.R 3) i
theorem CInv.w {s : PSt} (h : CInv s) : CInv (wstep s) := by
  have e : (wstep s).C = s.C := by
    unfold wstep
    split
    · rfl
    · split
      · rfl
      · split
        · rfl
        · split
          · split <;> rfl
          · split <;> rfl
  intro i
  rw [e, (wstep_R s).1]
  exact h i
theorem cinv_up {s : PSt} (h : CInv s) {n : Nat} (hn : n < 4) (r : RdS) (C' : Nat → Int) (hC : ∀ i, C' i = s.C i - bitR (s.R n) i + bitR r i) (s' : PSt) (e1 : s'.R = up s.R n r) (e2 : s'.C = C') : CInv s' := by
  intro i
  rw [e1, e2, hC i, h i]
  match n, hn with
  | 0, _ => rw [up_same, up_other _ _ (by decide), up_other _ _ (by decide), up_other _ _ (by decide)]; omega
  | 1, _ => rw [up_same, up_other _ _ (by decide), up_other _ _ (by decide), up_other _ _ (by decide)]; omega
  | 2, _ => rw [up_same, up_other _ _ (by decide), up_other _ _ (by decide), up_other _ _ (by decide)]; omega
  | 3, _ => rw [up_same, up_other _ _ (by decide), up_other _ _ (by decide), up_other _ _ (by decide)]; omega
theorem CInv.r {s : PSt} (h : CInv s) {n : Nat} (hn : n < 4) (ha : (s.R n).at_ < 4) : CInv (rstep s n) := by
  unfold rstep
  split
  · exact h
  · rename_i a l ht
    by_cases h0 : (s.R n).at_ = 0
    · rw [if_pos h0]
      refine cinv_up h hn ⟨a :: l, 1, s.us⟩ s.C (fun i => ?_) _ rfl rfl
      unfold bitR
      rw [if_neg (by omega), if_neg (by show ¬ ((1 = 2 ∨ 1 = 3) ∧ _); omega)]
      omega
    · rw [if_neg h0]
      by_cases h1 : (s.R n).at_ = 1
      · rw [if_pos h1]
        refine cinv_up h hn ⟨a :: l, 2, (s.R n).cnt⟩ (up s.C (s.R n).cnt (s.C (s.R n).cnt + 1)) (fun i => ?_) _ rfl rfl
        unfold bitR
        rw [if_neg (by omega)]
        by_cases e : i = (s.R n).cnt
        · rw [e, up_same, if_pos ⟨.inl rfl, rfl⟩]; omega
        · rw [up_other _ _ e, if_neg (fun g => e g.2.symm)]; omega
      · rw [if_neg h1]
        by_cases h2 : (s.R n).at_ = 2
        · rw [if_pos h2]
          refine cinv_up h hn ⟨a :: l, 3, (s.R n).cnt⟩ s.C (fun i => ?_) _ rfl rfl
          unfold bitR
          by_cases e : (s.R n).cnt = i
          · rw [if_pos ⟨.inl h2, e⟩, if_pos ⟨.inr rfl, e⟩]; omega
          · rw [if_neg (fun g => e g.2), if_neg (fun g => e g.2)]; omega
        · rw [if_neg h2]
          refine cinv_up h hn ⟨l, 0, (s.R n).cnt⟩ (up s.C (s.R n).cnt (s.C (s.R n).cnt - 1)) (fun i => ?_) _ rfl rfl
          unfold bitR
          rw [if_neg (c := (0 = 2 ∨ 0 = 3) ∧ _) (by omega)]
          by_cases e : i = (s.R n).cnt
          · rw [e, up_same, if_pos ⟨.inr (by omega), rfl⟩]; omega
          · rw [up_other _ _ e, if_neg (fun g => e g.2.symm)]; omega
theorem cinv_run {acts : List ActD} {L : Nat → List Nat} : ∀ (l : List Nat) {s : PSt}, ((∃ d, PInv acts d s) ∧ SInv acts L s) → CInv s → (∀ n ∈ l, n ≤ 4) → CInv (prun s l)
  | [], _, _, h, _ => h
  | n :: l, s, hi, h, hl => by
    refine cinv_run l (s := pstep s n) (inv_step hi (hl n List.mem_cons_self)) ?_ (fun m hm => hl m (List.mem_cons_of_mem _ hm))
    unfold pstep
    split
    · exact h.w
    · exact h.r (by have := hl n List.mem_cons_self; omega) (hi.2.rd n).1
theorem cinv_zero {al : List AskD} (h : ∀ a ∈ al, a.ok) : CInv (pasks al) := by
  intro i
  have h4 := (pasks_ok h).2.2.2.1
  have e : ∀ n, bitR ((pasks al).R n) i = 0 := fun n => by unfold bitR; rw [if_neg (by rw [h4 n]; omega)]
  rw [(pasks_A al).2.1, e, e, e, e]
  rfl
theorem wt_run {L : Nat → Nat} : ∀ (l : List Nat) {s : PSt} {c : Nat → Nat}, Wt s L c → (∀ n ∈ l, n ≤ 4) → Wt (prun s l) L (fun n => c n + l.count n)
  | [], _, _, h, _ => fun n hn => h n hn
  | m :: l, s, c, h, hl => by
    have hm := hl m List.mem_cons_self
    have hl' : ∀ n ∈ l, n ≤ 4 := fun n hn => hl n (List.mem_cons_of_mem _ hn)
    by_cases e : m = 4
    · subst e
      have e2 : pstep s 4 = wstep s := by unfold pstep; rw [if_pos rfl]
      have := wt_run l (s := pstep s 4) (c := c) (by rw [e2]; exact h.w) hl'
      intro n hn
      have h2 := this n hn
      have e5 : (4 :: l).count n = l.count n := List.count_cons_of_ne (by omega)
      dsimp only at h2 ⊢
      rw [e5]
      exact h2
    · have e2 : pstep s m = rstep s m := by unfold pstep; rw [if_neg e]
      have := wt_run l (s := pstep s m) (c := up c m (c m + 1)) (by rw [e2]; exact (h.r (by omega)).1) hl'
      intro n hn
      have h2 := this n hn
      by_cases e3 : n = m
      · subst e3
        dsimp only at h2 ⊢
        rw [up_same] at h2
        rw [List.count_cons_self, show c n + (l.count n + 1) = c n + 1 + l.count n by omega]
        exact h2
      · dsimp only at h2 ⊢
        rw [up_other _ _ e3] at h2
        rw [List.count_cons_of_ne (fun g => e3 g.symm)]
        exact h2
theorem ww_step (s : PSt) (n : Nat) : (pstep s n).ww ≤ s.ww + 1 := by
  unfold pstep
  split
  · unfold wstep
    split
    · exact Nat.le_succ _
    · split
      · exact Nat.le_succ _
      · split
        · exact Nat.le_succ _
        · split
          · split
            · exact Nat.le_refl _
            · exact Nat.le_succ _
          · split
            · exact Nat.le_refl _
            · exact Nat.le_succ _
  · rw [(rstep_keeps s n).2.2.2.2.2.2]
    exact Nat.le_succ _
theorem ww_run : ∀ (l : List Nat) (s : PSt), (prun s l).ww ≤ s.ww + l.length
  | [], s => Nat.le_refl _
  | n :: l, s => by
    have := ww_run l (pstep s n)
    have h := ww_step s n
    rw [List.length_cons]
    show (prun (pstep s n) l).ww ≤ _
    omega
theorem ww_readers : ∀ (l : List Nat) (s : PSt), (∀ n ∈ l, n < 4) → (prun s l).ww = s.ww
  | [], s, _ => rfl
  | n :: l, s, hl => by
    have hn := hl n List.mem_cons_self
    show (prun (pstep s n) l).ww = _
    rw [ww_readers l _ (fun m hm => hl m (List.mem_cons_of_mem _ hm))]
    unfold pstep
    rw [if_neg (by omega)]
    exact (rstep_keeps s n).2.2.2.2.2.2
/-- The writer alone: it does not wait, and its steps end. -/
theorem alone_run : ∀ (j : Nat) (s : PSt), (∀ i, s.C i = 0) → s.wa < 4 → (s.wt = [] → s.wa = 0) → 4 * s.wt.length ≤ j + s.wa →
    (prun s (List.replicate j 4)).wt = [] ∧ (prun s (List.replicate j 4)).ww = s.ww ∧ (prun s (List.replicate j 4)).R = s.R ∧ (prun s (List.replicate j 4)).se = s.se := by
  intro j
  induction j with
  | zero =>
    intro s h1 h2 h3 h4
    refine ⟨?_, rfl, rfl, rfl⟩
    show s.wt = []
    cases e : s.wt with
    | nil => rfl
    | cons x l => rw [e, List.length_cons] at h4; omega
  | succ j ih =>
    intro s h1 h2 h3 h4
    rw [List.replicate_succ]
    show (prun (pstep s 4) (List.replicate j 4)).wt = [] ∧ (prun (pstep s 4) (List.replicate j 4)).ww = s.ww ∧ (prun (pstep s 4) (List.replicate j 4)).R = s.R ∧ (prun (pstep s 4) (List.replicate j 4)).se = s.se
    have e : pstep s 4 = wstep s := by unfold pstep; rw [if_pos rfl]
    rw [e]
    have hR := wstep_R s
    suffices g : (∀ i, (wstep s).C i = 0) ∧ (wstep s).wa < 4 ∧ ((wstep s).wt = [] → (wstep s).wa = 0) ∧ 4 * (wstep s).wt.length ≤ j + (wstep s).wa ∧ (wstep s).ww = s.ww by
      obtain ⟨g1, g2, g3, g4, g5⟩ := g
      obtain ⟨r1, r2, r3, r4⟩ := ih (wstep s) g1 g2 g3 g4
      exact ⟨r1, r2.trans g5, r3.trans hR.1, r4.trans hR.2⟩
    clear e hR ih
    obtain ⟨T, A, fr, C, us, R, wt, wa, ww, se⟩ := s
    dsimp only at h1 h2 h3 h4
    cases wt with
    | nil => exact ⟨h1, h2, h3, by show 4 * 0 ≤ _; omega, rfl⟩
    | cons x l =>
      rw [List.length_cons] at h4
      unfold wstep
      dsimp only
      by_cases w0 : wa = 0
      · rw [if_pos w0]
        exact ⟨h1, by show 1 < 4; decide, (fun g => absurd (show x :: l = [] from g) (by simp)), by show 4 * (l.length + 1) ≤ j + 1; omega, rfl⟩
      · rw [if_neg w0]
        by_cases w1 : wa = 1
        · rw [if_pos w1]
          exact ⟨h1, by show 2 < 4; decide, (fun g => absurd (show x :: l = [] from g) (by simp)), by show 4 * (l.length + 1) ≤ j + 2; omega, rfl⟩
        · rw [if_neg w1]
          by_cases w2 : wa = 2
          · rw [if_pos w2, if_neg (by rw [h1]; decide)]
            exact ⟨h1, by show 3 < 4; decide, (fun g => absurd (show x :: l = [] from g) (by simp)), by show 4 * (l.length + 1) ≤ j + 3; omega, rfl⟩
          · rw [if_neg w2, if_neg (by rw [h1]; decide)]
            exact ⟨h1, by show 0 < 4; decide, fun _ => rfl, by show 4 * l.length ≤ j + 0; omega, rfl⟩
/-- PairEnds' plain law. -/
theorem ends_law {al : List AskD} (h : ∀ a ∈ al, a.ok) {pl m : List Nat} (hp : ∀ n ∈ pl, n ≤ 4) (hm : ∀ n ∈ m, n < 4) (hc : ∀ n, n < 4 → 4 * looksN al n ≤ m.count n) :
    (prun (pasks al) (pl ++ m ++ List.replicate (4 * (wacts al).length) 4)).wt.length = 0 ∧ (prun (pasks al) (pl ++ m ++ List.replicate (4 * (wacts al).length) 4)).ww ≤ pl.length := by
  have hpm : ∀ n ∈ pl ++ m, n ≤ 4 := fun n hn => by
    rcases List.mem_append.1 hn with g | g
    · exact hp n g
    · have := hm n g; omega
  obtain ⟨⟨d, hd⟩, hs⟩ := pair_inv h hpm
  have hC := cinv_run (pl ++ m) (inv_zero h) (cinv_zero h) hpm
  have hW := wt_run (pl ++ m) (wait_zero h) hpm
  have hww : (prun (pasks al) (pl ++ m)).ww ≤ pl.length := by
    rw [prun_app, ww_readers m _ hm]
    have := ww_run pl (pasks al)
    rw [(pasks_A al).2.2.1] at this
    omega
  rw [prun_app _ (pl ++ m)]
  generalize prun (pasks al) (pl ++ m) = s at *
  have hdone : ∀ n, n < 4 → (s.R n).at_ = 0 := fun n hn => by
    obtain ⟨g1, g2⟩ := hW n hn
    have := hc n hn
    have hcnt : (pl ++ m).count n = pl.count n + m.count n := List.count_append ..
    refine (hs.rd n).2.1 (List.eq_nil_of_length_eq_zero ?_)
    rw [g1]
    dsimp only
    rw [hcnt]
    omega
  have hC0 : ∀ i, s.C i = 0 := fun i => by
    have e : ∀ n, n < 4 → bitR (s.R n) i = 0 := fun n hn => by unfold bitR; rw [if_neg (by rw [hdone n hn]; omega)]
    rw [hC i, e 0 (by decide), e 1 (by decide), e 2 (by decide), e 3 (by decide)]
    rfl
  obtain ⟨r1, r2, _, _⟩ := alone_run (4 * (wacts al).length) s hC0 hd.wa hd.w0 (by rw [hd.wt, List.length_drop]; omega)
  exact ⟨by rw [r1]; rfl, by rw [r2]; exact hww⟩
theorem wacts_writers {bl : List AskD} (hw : ∀ x ∈ bl, x.rd = false) : wacts bl = bl.map (fun x => x.act) ∧ ∀ n, looksL bl n = [] := by
  have g : ∀ (l : List AskD) (s : PSt), (∀ x ∈ l, x.rd = false) → (l.foldl pask s).wt = s.wt ++ l.map (fun x => x.act) ∧ ∀ n, ((l.foldl pask s).R n).todo = (s.R n).todo := by
    intro l
    induction l with
    | nil => intro s _; exact ⟨(List.append_nil _).symm, fun _ => rfl⟩
    | cons a l ih =>
      intro s hl
      obtain ⟨h1, h2⟩ := ih (pask s a) (fun x hx => hl x (List.mem_cons_of_mem _ hx))
      have e : pask s a = { s with wt := s.wt ++ [a.act] } := by unfold pask; rw [if_neg (by rw [hl a List.mem_cons_self]; decide)]
      rw [e] at h1 h2
      refine ⟨?_, ?_⟩
      · show (l.foldl pask (pask s a)).wt = _
        rw [e, h1]; simp
      · intro n
        show ((l.foldl pask (pask s a)).R n).todo = _
        rw [e, h2 n]
  obtain ⟨h1, h2⟩ := g bl _ hw
  exact ⟨by unfold wacts pasks; rw [h1]; rfl, fun n => by unfold looksL pasks; rw [h2 n]⟩
theorem pstep_body {s : PSt} {n : Nat} (h : n ≠ 4) : pstep s n = rbody s n (s.R n) := by unfold pstep; rw [if_neg h]; rfl
/-- PairAlone's plain law. -/
theorem alone_law {bl : List AskD} (h : ∀ a ∈ bl, a.ok) (hw : ∀ x ∈ bl, x.rd = false) {a : Nat} (ha : Fits false a) :
    (prun (pasks (bl ++ [⟨true, 2, a, actZ⟩])) (List.replicate (4 * bl.length) 4 ++ [2, 2, 2, 2])).wt.length = 0 ∧
    (prun (pasks (bl ++ [⟨true, 2, a, actZ⟩])) (List.replicate (4 * bl.length) 4 ++ [2, 2, 2, 2])).ww = 0 ∧
    ∃ ln, (prun (pasks (bl ++ [⟨true, 2, a, actZ⟩])) (List.replicate (4 * bl.length) 4 ++ [2, 2, 2, 2])).se = [⟨2, (goesL (tend [] (bl.map (fun x => x.act))) a).1, ln, bl.length⟩] := by
  have hok : ∀ x ∈ bl ++ [⟨true, 2, a, actZ⟩], AskD.ok x := fun x hx => by
    rcases List.mem_append.1 hx with hx | hx
    · exact h x hx
    · simp at hx; subst hx; exact .inl ⟨rfl, (by show 2 < 4; decide), ha, rfl⟩
  have hp4 : ∀ n ∈ List.replicate (4 * bl.length) 4, n ≤ 4 := fun n hn => by rw [(List.mem_replicate.1 hn).2]; exact Nat.le_refl _
  obtain ⟨⟨d, hd⟩, hs⟩ := pair_inv hok hp4
  obtain ⟨k1, k2⟩ := wacts_writers hw
  have ew : wacts (bl ++ [⟨true, 2, a, actZ⟩]) = bl.map (fun x => x.act) := by rw [wacts_snoc, if_pos rfl, k1]
  have el : looksL (bl ++ [⟨true, 2, a, actZ⟩]) 2 = [a] := by rw [looksL_snoc, if_pos ⟨rfl, rfl⟩, k2]; rfl
  obtain ⟨_, _, _, h4, h5, h6⟩ := pasks_ok hok
  obtain ⟨_, a2, a3, a4⟩ := pasks_A (bl ++ [⟨true, 2, a, actZ⟩])
  obtain ⟨r1, r2, r3, r4⟩ := alone_run (4 * bl.length) (pasks (bl ++ [⟨true, 2, a, actZ⟩])) a2 (by omega) (fun _ => h5) (by
    have : (pasks (bl ++ [⟨true, 2, a, actZ⟩])).wt = bl.map (fun x => x.act) := ew
    rw [this, List.length_map]; omega)
  rw [prun_app]
  have hR2 : ((pasks (bl ++ [⟨true, 2, a, actZ⟩])).R 2).todo = [a] := el
  have hat := h4 2
  rw [ew] at hd
  rw [a3] at r2
  rw [a4] at r4
  generalize pasks (bl ++ [⟨true, 2, a, actZ⟩]) = s0 at *
  generalize prun s0 (List.replicate (4 * bl.length) 4) = s at *
  have hwa := hd.w0 r1
  have hAf := hd.Af
  rw [hwa, if_pos (by decide)] at hAf
  have hdl : d = bl.length := by
    have := hd.wt
    rw [r1] at this
    have := congrArg List.length this
    rw [List.length_drop, List.length_nil, List.length_map] at this
    have := hd.le
    rw [List.length_map] at this
    omega
  have hT := hd.T _ hd.fr
  rw [hAf, hdl, List.take_of_length_le (by rw [List.length_map]; exact Nat.le_refl _)] at hT
  rw [← r3] at hR2 hat
  have s1 : pstep s 2 = { s with R := up s.R 2 ⟨[a], 1, s.us⟩ } := by
    unfold pstep rstep
    rw [if_neg (by decide), hR2]
    dsimp only
    rw [if_pos hat]
  have s2 : pstep { s with R := up s.R 2 ⟨[a], 1, s.us⟩ } 2 = { s with R := up s.R 2 ⟨[a], 2, s.us⟩, C := up s.C s.us (s.C s.us + 1) } := by
    rw [pstep_body (by decide), show PSt.R _ 2 = (⟨[a], 1, s.us⟩ : RdS) from up_same s.R 2 _]
    unfold rbody
    dsimp only
    rw [if_neg (by decide), if_pos rfl, up_up]
  have s3 : pstep { s with R := up s.R 2 ⟨[a], 2, s.us⟩, C := up s.C s.us (s.C s.us + 1) } 2 = { s with R := up s.R 2 ⟨[a], 3, s.us⟩, C := up s.C s.us (s.C s.us + 1), se := s.se ++ [⟨2, (goesL (s.T s.fr) a).1, (goesL (s.T s.fr) a).2, s.A s.fr⟩] } := by
    rw [pstep_body (by decide), show PSt.R _ 2 = (⟨[a], 2, s.us⟩ : RdS) from up_same s.R 2 _]
    unfold rbody
    dsimp only
    rw [if_neg (by decide), if_neg (by decide), if_pos rfl, up_up]
  have run4 : prun s [2, 2, 2, 2] = pstep { s with R := up s.R 2 ⟨[a], 3, s.us⟩, C := up s.C s.us (s.C s.us + 1), se := s.se ++ [⟨2, (goesL (s.T s.fr) a).1, (goesL (s.T s.fr) a).2, s.A s.fr⟩] } 2 := by
    show pstep (pstep (pstep (pstep s 2) 2) 2) 2 = _
    rw [s1, s2, s3]
  have s4 : ∀ t : PSt, (t.R 2).todo = [a] → (t.R 2).at_ = 3 → (pstep t 2).wt = t.wt ∧ (pstep t 2).ww = t.ww ∧ (pstep t 2).se = t.se := fun t e1 e2 => by
    unfold pstep rstep
    rw [if_neg (by decide), e1]
    dsimp only
    rw [if_neg (by omega), if_neg (by omega), if_neg (by omega)]
    exact ⟨rfl, rfl, rfl⟩
  rw [run4]
  obtain ⟨q1, q2, q3⟩ := s4 { s with R := up s.R 2 ⟨[a], 3, s.us⟩, C := up s.C s.us (s.C s.us + 1), se := s.se ++ [⟨2, (goesL (s.T s.fr) a).1, (goesL (s.T s.fr) a).2, s.A s.fr⟩] } (by dsimp only; rw [up_same]) (by dsimp only; rw [up_same])
  rw [q1, q2, q3]
  refine ⟨by rw [r1]; rfl, r2, (goesL (s.T s.fr) a).2, ?_⟩
  dsimp only
  rw [r4, hT, hAf, hdl]
  rfl
end Go.Proofs.Ytllemhknmleklaa
