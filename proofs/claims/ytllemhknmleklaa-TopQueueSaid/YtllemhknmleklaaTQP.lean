
/- TopQueue: plain laws. -/
import Derived.Test.YtllemhknmleklaaPrV
import Derived.Test.YtllemhknmleklaaQLastP
set_option linter.unusedVariables false
namespace Go.Proofs.Ytllemhknmleklaa
open Go Go.RowKit Wc

theorem qstep_size (q : List ActD) (j : JobD) : (qstep q j).2.acts.length + (qstep q j).1.length ≤ q.length + 1 := by
  rcases qstep_cases q j with ⟨_, i, y, hy, hs, hno, e⟩ | ⟨_, hno, h⟩ | ⟨_, h0, e⟩ | ⟨_, h0, e⟩
  · rw [e]; simp
  · rcases h with ⟨_, e⟩ | ⟨_, e⟩ <;> rw [e] <;> simp
  · rw [e]; simp
  · rw [e]; simp; omega
theorem pulls_len : ∀ (l : List JobD) (q : List ActD), (pulls q l).length ≤ q.length + l.length
  | [], q => Nat.zero_le _
  | j :: l, q => by
    have h1 := qstep_size q j
    have h2 := pulls_len l (qstep q j).1
    have e : pulls q (j :: l) = (qstep q j).2.acts ++ pulls (qstep q j).1 l := rfl
    rw [e, List.length_append, List.length_cons]
    omega
/-- The writer's acts, and one look of a reader behind them. -/
theorem alone_at {r : Nat} (hr : r < 4) {bl : List AskD} (h : ∀ a ∈ bl, a.ok) (hw : ∀ x ∈ bl, x.rd = false) {a : Nat} (ha : Fits false a) :
    (prun (pasks (bl ++ [⟨true, r, a, actZ⟩])) (List.replicate (4 * bl.length) 4 ++ [r, r, r, r])).wt.length = 0 ∧
    (prun (pasks (bl ++ [⟨true, r, a, actZ⟩])) (List.replicate (4 * bl.length) 4 ++ [r, r, r, r])).ww = 0 ∧
    (prun (pasks (bl ++ [⟨true, r, a, actZ⟩])) (List.replicate (4 * bl.length) 4 ++ [r, r, r, r])).se = [⟨r, (goesL (tend [] (bl.map (fun x => x.act))) a).1, (goesL (tend [] (bl.map (fun x => x.act))) a).2, bl.length⟩] := by
  have hok : ∀ x ∈ bl ++ [⟨true, r, a, actZ⟩], AskD.ok x := fun x hx => by
    rcases List.mem_append.1 hx with hx | hx
    · exact h x hx
    · simp at hx; subst hx; exact .inl ⟨rfl, (by show r < 4; exact hr), ha, rfl⟩
  have hp4 : ∀ n ∈ List.replicate (4 * bl.length) 4, n ≤ 4 := fun n hn => by rw [(List.mem_replicate.1 hn).2]; exact Nat.le_refl _
  obtain ⟨⟨d, hd⟩, hs⟩ := pair_inv hok hp4
  obtain ⟨k1, k2⟩ := wacts_writers hw
  have ew : wacts (bl ++ [⟨true, r, a, actZ⟩]) = bl.map (fun x => x.act) := by rw [wacts_snoc, if_pos rfl, k1]
  have el : looksL (bl ++ [⟨true, r, a, actZ⟩]) r = [a] := by rw [looksL_snoc, if_pos ⟨rfl, rfl⟩, k2]; rfl
  obtain ⟨_, _, _, h4, h5, h6⟩ := pasks_ok hok
  obtain ⟨_, a2, a3, a4⟩ := pasks_A (bl ++ [⟨true, r, a, actZ⟩])
  obtain ⟨r1, r2, r3, r4⟩ := alone_run (4 * bl.length) (pasks (bl ++ [⟨true, r, a, actZ⟩])) a2 (by omega) (fun _ => h5) (by
    have : (pasks (bl ++ [⟨true, r, a, actZ⟩])).wt = bl.map (fun x => x.act) := ew
    rw [this, List.length_map]; omega)
  rw [prun_app]
  have hR2 : ((pasks (bl ++ [⟨true, r, a, actZ⟩])).R r).todo = [a] := el
  have hat := h4 r
  rw [ew] at hd
  rw [a3] at r2
  rw [a4] at r4
  generalize pasks (bl ++ [⟨true, r, a, actZ⟩]) = s0 at *
  generalize prun s0 (List.replicate (4 * bl.length) 4) = s at *
  have hwa := hd.w0 r1
  have hAf := hd.Af
  rw [hwa, if_pos (by decide)] at hAf
  have hdl : d = bl.length := by
    have := hd.wt
    rw [r1] at this
    have := congrArg List.length this
    rw [List.length_drop, List.length_nil, List.length_map] at this
    have := hd.le
    rw [List.length_map] at this
    omega
  have hT := hd.T _ hd.fr
  rw [hAf, hdl, List.take_of_length_le (by rw [List.length_map]; exact Nat.le_refl _)] at hT
  rw [← r3] at hR2 hat
  have s1 : pstep s r = { s with R := up s.R r ⟨[a], 1, s.us⟩ } := by
    unfold pstep rstep
    rw [if_neg (by omega), hR2]
    dsimp only
    rw [if_pos hat]
  have s2 : pstep { s with R := up s.R r ⟨[a], 1, s.us⟩ } r = { s with R := up s.R r ⟨[a], 2, s.us⟩, C := up s.C s.us (s.C s.us + 1) } := by
    rw [pstep_body (by omega), show PSt.R _ r = (⟨[a], 1, s.us⟩ : RdS) from up_same s.R r _]
    unfold rbody
    dsimp only
    rw [if_neg (by decide), if_pos rfl, up_up]
  have s3 : pstep { s with R := up s.R r ⟨[a], 2, s.us⟩, C := up s.C s.us (s.C s.us + 1) } r = { s with R := up s.R r ⟨[a], 3, s.us⟩, C := up s.C s.us (s.C s.us + 1), se := s.se ++ [⟨r, (goesL (s.T s.fr) a).1, (goesL (s.T s.fr) a).2, s.A s.fr⟩] } := by
    rw [pstep_body (by omega), show PSt.R _ r = (⟨[a], 2, s.us⟩ : RdS) from up_same s.R r _]
    unfold rbody
    dsimp only
    rw [if_neg (by decide), if_neg (by decide), if_pos rfl, up_up]
  have run4 : prun s [r, r, r, r] = pstep { s with R := up s.R r ⟨[a], 3, s.us⟩, C := up s.C s.us (s.C s.us + 1), se := s.se ++ [⟨r, (goesL (s.T s.fr) a).1, (goesL (s.T s.fr) a).2, s.A s.fr⟩] } r := by
    show pstep (pstep (pstep (pstep s r) r) r) r = _
    rw [s1, s2, s3]
  have s4 : ∀ t : PSt, (t.R r).todo = [a] → (t.R r).at_ = 3 → (pstep t r).wt = t.wt ∧ (pstep t r).ww = t.ww ∧ (pstep t r).se = t.se := fun t e1 e2 => by
    unfold pstep rstep
    rw [if_neg (by omega), e1]
    dsimp only
    rw [if_neg (by omega), if_neg (by omega), if_neg (by omega)]
    exact ⟨rfl, rfl, rfl⟩
  rw [run4]
  obtain ⟨q1, q2, q3⟩ := s4 { s with R := up s.R r ⟨[a], 3, s.us⟩, C := up s.C s.us (s.C s.us + 1), se := s.se ++ [⟨r, (goesL (s.T s.fr) a).1, (goesL (s.T s.fr) a).2, s.A s.fr⟩] } (by dsimp only; rw [up_same]) (by dsimp only; rw [up_same])
  rw [q1, q2, q3]
  refine ⟨by rw [r1]; rfl, r2, ?_⟩
  dsimp only
  rw [r4, hT, hAf, hdl]
  rfl
end Go.Proofs.Ytllemhknmleklaa
