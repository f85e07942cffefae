
/- A pair of tables: what is asked. -/
import Derived.Test.YtllemhknmleklaaPrD
set_option linter.unusedVariables false
set_option linter.unusedSimpArgs false
namespace Go.Proofs.Ytllemhknmleklaa
open Go Go.RowKit Go.Sort Wc Wk

theorem addrCells_one (x : Nat) : ∀ u ∈ addrCells x, u.oneCell' = true := by
  intro u hu
  simp [addrCells] at hu
  rcases hu with rfl | rfl | rfl <;> rfl
theorem eiAddr : EI Try.prog 132 27 3 24 (.agg #[.bool false, .int .u64 0, .int .u64 0]) := ⟨by kernel_rfl, by kernel_rfl, rfl, by decide⟩
theorem own_blk {w w' : World} {B : Nat} {e : TypeId} {sz : Nat} {v : Value} {xs : List (List Value)} (h : Wk.Own w B e sz v xs) (hb : ∀ k, v.ownBlock = some k → w'.heap[k]? = w.heap[k]?) : Wk.Own w' B e sz v xs := by
  obtain ⟨hl, hx, h2⟩ := h
  refine ⟨hl, hx, ?_⟩
  rcases h2 with ⟨rfl, h0⟩ | ⟨g, cap, cur, rfl, hb1, hg, hn, hm, hs, ht⟩
  · exact .inl ⟨rfl, h0⟩
  · exact .inr ⟨g, cap, cur, rfl, hb1, (hb g rfl).trans hg, hn, hm, hs, ht⟩
/-- While it is asked: as PI, with what is to be done in slices that grow: colours from 10 on. -/
structure PJ (w0 w : World) (B : Nat) (s : PSt) (col : Nat → Nat) (ptr : Nat → Nat) (rv : Nat → Value) (wv : Value) : Prop where
  pw : PW w B s ptr rv wv (.slice none 0 0)
  bel : Below w0.heap.size w0 w
  hi : ∀ b, b < w.heap.size → col b ≠ 0 → w0.heap.size ≤ b
  cB : col B = 1
  tab : ∀ i, i < 2 → Tab w (ptr i) [] (fun b => b < w.heap.size ∧ col b = 2 + i)
  ro : ∀ n, n < 4 → Wk.Own w w0.heap.size 27 3 (rv n) ((s.R n).todo.map addrCells)
  rc : ∀ n, n < 4 → ∀ k, (rv n).ownBlock = some k → col k = 10 + n
  wo : Wk.Own w w0.heap.size 31 9 wv (s.wt.map actCells)
  wc : ∀ k, wv.ownBlock = some k → col k = 14
theorem PJ.grown {w0 w w' : World} {B c : Nat} {s s' : PSt} {col : Nat → Nat} {ptr : Nat → Nat} {rv rv' : Nat → Value} {wv wv' : Value} {row : Option Nat} (h : PJ w0 w B s col ptr rv wv) (hc : 5 ≤ c) (hrow : ∀ k, row = some k → col k = c) (ch : Two w w' B row)
    (pw : PW w' B s' ptr rv' wv' (.slice none 0 0))
    (ro : ∀ n, n < 4 → (10 + n = c ∧ Wk.Own w' w0.heap.size 27 3 (rv' n) ((s'.R n).todo.map addrCells) ∧ ∀ k, (rv' n).ownBlock = some k → row = some k ∨ w.heap.size ≤ k) ∨ (10 + n ≠ c ∧ rv' n = rv n ∧ (s'.R n).todo = (s.R n).todo))
    (wo : (14 = c ∧ Wk.Own w' w0.heap.size 31 9 wv' (s'.wt.map actCells) ∧ ∀ k, wv'.ownBlock = some k → row = some k ∨ w.heap.size ≤ k) ∨ (14 ≠ c ∧ wv' = wv ∧ s'.wt = s.wt)) : PJ w0 w' B s' (recol w col c) ptr rv' wv' := by
  have hz0 := h.bel.size
  have hB := h.cB
  have hG : ∀ b, b < w.heap.size → col b ≠ 1 → col b ≠ c → w'.heap[b]? = w.heap[b]? := fun b hb h1 h4 => ch.block b hb (fun e => h1 (by rw [e]; exact hB)) (fun e => h4 (hrow b e))
  refine ⟨pw, h.bel.trans ⟨ch.os, ch.tape, ch.output, ch.size, fun k hk => ?_⟩, fun b hb hcb => ?_, by rw [recol_old h.pw.lt]; exact h.cB, fun i hi => ?_, fun n hn => ?_, fun n hn k hk => ?_, ?_, fun k hk => ?_⟩
  · have hc0 : col k = 0 := by
      by_cases e : col k = 0
      · exact e
      · have := h.hi k (by omega) e
        omega
    exact hG k (by omega) (by omega) (by omega)
  · by_cases hbw : b < w.heap.size
    · rw [recol_old hbw] at hcb
      exact h.hi b hbw hcb
    · omega
  · refine ((h.tab i hi).same ch.size (fun b hb hlt => hG b hlt (by omega) (by omega))).weak (fun b hb => ⟨Nat.lt_of_lt_of_le hb.1 ch.size, by rw [recol_old hb.1]; exact hb.2⟩)
  · rcases ro n hn with ⟨_, ho, _⟩ | ⟨hne, e1, e2⟩
    · exact ho
    · rw [e1, e2]
      refine own_blk (h.ro n hn) (fun k hk => ?_)
      have := h.rc n hn k hk
      exact hG k ((h.ro n hn).lt k hk).2 (by omega) (by omega)
  · rcases ro n hn with ⟨e, _, hv⟩ | ⟨hne, e1, e2⟩
    · rcases hv k hk with hv | hv
      · by_cases hkw : k < w.heap.size
        · rw [recol_old hkw, hrow k hv, e]
        · rw [recol_new (by omega), e]
      · rw [recol_new hv, e]
    · rw [e1] at hk
      rw [recol_old ((h.ro n hn).lt k hk).2]
      exact h.rc n hn k hk
  · rcases wo with ⟨_, ho, _⟩ | ⟨hne, e1, e2⟩
    · exact ho
    · rw [e1, e2]
      refine own_blk h.wo (fun k hk => ?_)
      have := h.wc k hk
      exact hG k (h.wo.lt k hk).2 (by omega) (by omega)
  · rcases wo with ⟨e, _, hv⟩ | ⟨hne, e1, e2⟩
    · rcases hv k hk with hv | hv
      · by_cases hkw : k < w.heap.size
        · rw [recol_old hkw, hrow k hv, ← e]
        · rw [recol_new (by omega), ← e]
      · rw [recol_new hv, ← e]
    · rw [e1] at hk
      rw [recol_old (h.wo.lt k hk).2]
      exact h.wc k hk
theorem Two.of_below {w w' : World} (B : Nat) (row : Option Nat) (hb : Below w.heap.size w w') : Two w w' B row := ⟨hb.os, hb.tape, hb.output, hb.size, fun b h _ _ => hb.block b h⟩
theorem PJ.below {w0 w w' : World} {B : Nat} {s : PSt} {col : Nat → Nat} {ptr : Nat → Nat} {rv : Nat → Value} {wv : Value} (h : PJ w0 w B s col ptr rv wv) (hb : Below w.heap.size w w') : PJ w0 w' B s (recol w col 5) ptr rv wv :=
  h.grown (row := none) (c := 5) (by decide) (fun k hk => by cases hk) (Two.of_below B none hb) (h.pw.below hb) (fun n hn => .inr ⟨by omega, rfl, rfl⟩) (.inr ⟨by omega, rfl, rfl⟩)
/-- An append, and the store of its result into the pair. -/
theorem two_grown {w wA wC : World} {B y : Nat} {v u : Value} (hA : Below w.heap.size w wA) (g : wA.grownBy wC u.ownBlock) (hlt : B < w.heap.size) : Two w (wC.setCell ⟨B, y, none⟩ v) B u.ownBlock := by
  have hzA := hA.size
  have hzC := g.size
  refine ⟨g.os.trans hA.os, g.tape.trans hA.tape, g.output.trans hA.output, by rw [World.size_setCell]; omega, fun b hbl hne hrow => ?_⟩
  exact ((chg_blk wC B y v).block b (by omega) (fun x e => hne e)).trans ((g.block b (by omega) (fun e => hrow e.symm)).trans (hA.block b hbl))
theorem PJ.askR {w0 w wA wC : World} {B n : Nat} {s : PSt} {col : Nat → Nat} {ptr : Nat → Nat} {rv : Nat → Value} {wv vC : Value} {x : Nat} (h : PJ w0 w B s col ptr rv wv) (hn : n < 4) (hA : Below w.heap.size w wA) (g : wA.grownBy wC (rv n).ownBlock)
    (ho : Wk.Own wC w0.heap.size 27 3 vC ((s.R n).todo.map addrCells ++ [addrCells x])) (hat : vC.ownBlock = (rv n).ownBlock ∨ vC.ownBlock = some wA.heap.size) :
    PJ w0 (wC.setCell ⟨B, 8 + n * 3, none⟩ vC) B { s with R := up s.R n ⟨(s.R n).todo ++ [x], (s.R n).at_, (s.R n).cnt⟩ } (recol w col (10 + n)) ptr (up rv n vC) wv := by
  have hB := h.cB
  have hlt := h.pw.lt
  have hzA := hA.size
  have hNB : (rv n).ownBlock ≠ some B := fun e => by
    have := h.rc n hn B e
    omega
  have hb : wC.heap[B]? = w.heap[B]? := (g.block B (by omega) (fun e => hNB e.symm)).trans (hA.block B hlt)
  refine h.grown (by omega) (h.rc n hn) (two_grown hA g hlt) ((h.pw.blk (Nat.le_trans hzA g.size) hb).setRt hn _ vC) (fun m hm => ?_) (.inr ⟨by omega, rfl, rfl⟩)
  by_cases e : m = n
  · subst e
    refine .inl ⟨rfl, ?_, fun k hk => ?_⟩
    · rw [up_same]
      show Wk.Own _ _ _ 3 vC ((up s.R m ⟨(s.R m).todo ++ [x], (s.R m).at_, (s.R m).cnt⟩ m).todo.map addrCells)
      rw [up_same, List.map_append]
      refine Wk.Own.chgF ho (chg_blk wC B _ vC) (fun b hb' y e => ?_)
      rw [e] at hb'
      rcases hat with e2 | e2
      · rw [e2] at hb'
        exact hNB hb'
      · rw [e2] at hb'
        have : wA.heap.size = B := by simpa using hb'
        omega
    · rw [up_same] at hk
      rcases hat with e2 | e2
      · exact .inl (by rw [← e2]; exact hk)
      · rw [e2] at hk
        have : wA.heap.size = k := by simpa using hk
        exact .inr (by omega)
  · refine .inr ⟨by omega, up_other _ _ e, ?_⟩
    show (up s.R n _ m).todo = _
    rw [up_other _ _ e]
theorem PJ.askW {w0 w wA wC : World} {B : Nat} {s : PSt} {col : Nat → Nat} {ptr : Nat → Nat} {rv : Nat → Value} {wv vC : Value} {x : ActD} (h : PJ w0 w B s col ptr rv wv) (hA : Below w.heap.size w wA) (g : wA.grownBy wC wv.ownBlock)
    (ho : Wk.Own wC w0.heap.size 31 9 vC (s.wt.map actCells ++ [actCells x])) (hat : vC.ownBlock = wv.ownBlock ∨ vC.ownBlock = some wA.heap.size) :
    PJ w0 (wC.setCell ⟨B, 20, none⟩ vC) B { s with wt := s.wt ++ [x] } (recol w col 14) ptr rv vC := by
  have hB := h.cB
  have hlt := h.pw.lt
  have hzA := hA.size
  have hNB : wv.ownBlock ≠ some B := fun e => by
    have := h.wc B e
    omega
  have hb : wC.heap[B]? = w.heap[B]? := (g.block B (by omega) (fun e => hNB e.symm)).trans (hA.block B hlt)
  refine h.grown (by omega) h.wc (two_grown hA g hlt) ((h.pw.blk (Nat.le_trans hzA g.size) hb).setWt _ vC) (fun m hm => .inr ⟨by omega, rfl, rfl⟩) (.inl ⟨rfl, ?_, fun k hk => ?_⟩)
  · rw [List.map_append]
    refine Wk.Own.chgF ho (chg_blk wC B _ vC) (fun b hb' y e => ?_)
    rw [e] at hb'
    rcases hat with e2 | e2
    · rw [e2] at hb'
      exact hNB hb'
    · rw [e2] at hb'
      have : wA.heap.size = B := by simpa using hb'
      omega
  · rcases hat with e2 | e2
    · exact .inl (by rw [← e2]; exact hk)
    · rw [e2] at hk
      have : wA.heap.size = k := by simpa using hk
      exact .inr (by omega)
/-- All has been asked: the picks begin. -/
theorem PJ.begin {w0 w : World} {B : Nat} {s : PSt} {col : Nat → Nat} {ptr : Nat → Nat} {rv : Nat → Value} {wv : Value} (h : PJ w0 w B s col ptr rv wv) (hT : ∀ i, s.T i = []) (hse : s.se = []) :
    PI w0 w w B s (fun b => if 10 ≤ col b then 0 else col b) ptr rv wv (.slice none 0 0) := by
  refine ⟨h.pw, h.bel, fun b hb hc => h.hi b hb ?_, by rw [h.cB]; rfl, fun i hi => ?_, fun n hn => ⟨(h.ro n hn).sl, fun a m c e => ?_⟩, ⟨h.wo.sl, fun a m c e => ?_⟩, Nat.le_refl _, fun b o _ _ => rfl, by rw [hse]; exact Wk.Own.nil _ _ _ _, fun k hk => by simp [Value.ownBlock] at hk⟩
  · intro e
    rw [e] at hc
    exact hc rfl
  · rw [hT i]
    exact (h.tab i hi).weak (fun b hb => ⟨hb.1, by rw [hb.2, if_neg (by omega)]⟩)
  · have hk : (rv n).ownBlock = some a.block := by rw [e]; rfl
    exact ⟨((h.ro n hn).lt _ hk).2, by show (if 10 ≤ col a.block then 0 else col a.block) = 0; rw [h.rc n hn _ hk, if_pos (by omega)]⟩
  · have hk : wv.ownBlock = some a.block := by rw [e]; rfl
    exact ⟨(h.wo.lt _ hk).2, by show (if 10 ≤ col a.block then 0 else col a.block) = 0; rw [h.wc _ hk, if_pos (by omega)]⟩
end Go.Proofs.Ytllemhknmleklaa
