
/- A pair of tables: how it lies in memory. -/
import Derived.Test.YteadfobfenopkaaPrP
import Derived.Test.YteadfobfenopkaaOTab
import Derived.Test.YteadfobfenopkaaAp
set_option linter.unusedVariables false
set_option linter.unusedSimpArgs false
namespace Go.Proofs.Yteadfobfenopkaa
open Go Go.RowKit Go.Sort Wc Wk

/-- The cells of the pair, its readers, its writer. -/
structure PW (w : World) (B : Nat) (s : PSt) (ptr : Nat → Nat) (rv : Nat → Value) (wv sv : Value) : Prop where
  lt : B < w.heap.size
  tb : ∀ i, i < 2 → w.cell? ⟨B, i, none⟩ = some (.pointer (some ⟨ptr i, 0, none⟩))
  ac : ∀ i, i < 2 → w.cell? ⟨B, 2 + i, none⟩ = some (.int .i64 (s.A i))
  fr : w.cell? ⟨B, 4, none⟩ = some (.int .i64 s.fr)
  ct : ∀ i, i < 2 → w.cell? ⟨B, 5 + i, none⟩ = some (.int .i64 (s.C i))
  us : w.cell? ⟨B, 7, none⟩ = some (.int .i64 s.us)
  rt : ∀ n, n < 4 → w.cell? ⟨B, 8 + n * 3, none⟩ = some (rv n)
  ra : ∀ n, n < 4 → w.cell? ⟨B, 8 + n * 3 + 1, none⟩ = some (.int .i64 (s.R n).at_)
  rc : ∀ n, n < 4 → w.cell? ⟨B, 8 + n * 3 + 2, none⟩ = some (.int .i64 (s.R n).cnt)
  wt : w.cell? ⟨B, 20, none⟩ = some wv
  wa : w.cell? ⟨B, 21, none⟩ = some (.int .i64 s.wa)
  ww : w.cell? ⟨B, 22, none⟩ = some (.int .i64 s.ww)
  se : w.cell? ⟨B, 23, none⟩ = some sv
  fz : ∀ o, o < 24 → w.frozen? ⟨B, o, none⟩ = false
theorem PW.keep {w w' : World} {B : Nat} {s : PSt} {ptr : Nat → Nat} {rv : Nat → Value} {wv sv : Value} {F : Nat → Nat → Prop} (h : PW w B s ptr rv wv sv) (c : Chg w w' F) (hF : ∀ x, ¬ F B x) : PW w' B s ptr rv wv sv :=
  ⟨Nat.lt_of_lt_of_le h.lt c.size, fun i hi => (c.cell B _ h.lt (hF _)).trans (h.tb i hi), fun i hi => (c.cell B _ h.lt (hF _)).trans (h.ac i hi), (c.cell B _ h.lt (hF _)).trans h.fr, fun i hi => (c.cell B _ h.lt (hF _)).trans (h.ct i hi), (c.cell B _ h.lt (hF _)).trans h.us,
    fun i hi => (c.cell B _ h.lt (hF _)).trans (h.rt i hi), fun i hi => (c.cell B _ h.lt (hF _)).trans (h.ra i hi), fun i hi => (c.cell B _ h.lt (hF _)).trans (h.rc i hi), (c.cell B _ h.lt (hF _)).trans h.wt, (c.cell B _ h.lt (hF _)).trans h.wa, (c.cell B _ h.lt (hF _)).trans h.ww, (c.cell B _ h.lt (hF _)).trans h.se, fun o ho => (c.froz B o h.lt).trans (h.fz o ho)⟩
theorem PW.below {w w' : World} {B : Nat} {s : PSt} {ptr : Nat → Nat} {rv : Nat → Value} {wv sv : Value} (h : PW w B s ptr rv wv sv) (hb : Below w.heap.size w w') : PW w' B s ptr rv wv sv := h.keep (Chg.of_below hb (fun _ _ => False)) (fun _ h => h)
/-- A cell of a block behind a store. -/
theorem cell_set {w : World} {b x : Nat} {u : Value} (h : w.cell? ⟨b, x, none⟩ = some u) (v : Value) (y : Nat) : (w.setCell ⟨b, x, none⟩ v).cell? ⟨b, y, none⟩ = if y = x then some v else w.cell? ⟨b, y, none⟩ := by
  by_cases e : y = x
  · subst e
    rw [if_pos rfl]
    exact World.cell?_setCell_same _ _ _ h
  · rw [if_neg e]
    exact World.cell?_setCell_other _ _ _ _ (by intro h; apply e; cases h; rfl)
theorem froz_set (w : World) (b x : Nat) (v : Value) (y : Nat) : (w.setCell ⟨b, x, none⟩ v).frozen? ⟨b, y, none⟩ = w.frozen? ⟨b, y, none⟩ := by simp
theorem PW.lt24 {w : World} {B : Nat} {s : PSt} {ptr : Nat → Nat} {rv : Nat → Value} {wv sv : Value} (h : PW w B s ptr rv wv sv) (x : Nat) (hx : x < 24) : ∃ u, w.cell? ⟨B, x, none⟩ = some u := by
  by_cases h2 : x < 2
  · exact ⟨_, h.tb x h2⟩
  · by_cases h4 : x < 4
    · have := h.ac (x - 2) (by omega)
      rw [show 2 + (x - 2) = x by omega] at this
      exact ⟨_, this⟩
    · by_cases h5 : x = 4
      · subst h5; exact ⟨_, h.fr⟩
      · by_cases h7 : x < 7
        · have := h.ct (x - 5) (by omega)
          rw [show 5 + (x - 5) = x by omega] at this
          exact ⟨_, this⟩
        · by_cases h8 : x = 7
          · subst h8; exact ⟨_, h.us⟩
          · by_cases h20 : x < 20
            · have hm : (x - 8) % 3 = 0 ∨ (x - 8) % 3 = 1 ∨ (x - 8) % 3 = 2 := by omega
              rcases hm with hm | hm | hm
              · have := h.rt ((x - 8) / 3) (by omega)
                rw [show 8 + (x - 8) / 3 * 3 = x by omega] at this
                exact ⟨_, this⟩
              · have := h.ra ((x - 8) / 3) (by omega)
                rw [show 8 + (x - 8) / 3 * 3 + 1 = x by omega] at this
                exact ⟨_, this⟩
              · have := h.rc ((x - 8) / 3) (by omega)
                rw [show 8 + (x - 8) / 3 * 3 + 2 = x by omega] at this
                exact ⟨_, this⟩
            · have : x = 20 ∨ x = 21 ∨ x = 22 ∨ x = 23 := by omega
              rcases this with rfl | rfl | rfl | rfl
              · exact ⟨_, h.wt⟩
              · exact ⟨_, h.wa⟩
              · exact ⟨_, h.ww⟩
              · exact ⟨_, h.se⟩
/-- A store into it: what each cell holds behind. -/
theorem PW.store {w : World} {B : Nat} {s s' : PSt} {ptr : Nat → Nat} {rv rv' : Nat → Value} {wv wv' sv sv' : Value} (h : PW w B s ptr rv wv sv) {x : Nat} (hx : x < 24) (v : Value)
    (tb : ∀ i, i < 2 → i ≠ x) (ac : ∀ i, i < 2 → (if 2 + i = x then some v else some (.int .i64 (s.A i))) = some (.int .i64 (s'.A i))) (fr : (if 4 = x then some v else some (.int .i64 s.fr)) = some (.int .i64 s'.fr))
    (ct : ∀ i, i < 2 → (if 5 + i = x then some v else some (.int .i64 (s.C i))) = some (.int .i64 (s'.C i))) (us : (if 7 = x then some v else some (.int .i64 s.us)) = some (.int .i64 s'.us))
    (rt : ∀ n, n < 4 → (if 8 + n * 3 = x then some v else some (rv n)) = some (rv' n)) (ra : ∀ n, n < 4 → (if 8 + n * 3 + 1 = x then some v else some (.int .i64 (s.R n).at_)) = some (.int .i64 (s'.R n).at_)) (rc : ∀ n, n < 4 → (if 8 + n * 3 + 2 = x then some v else some (.int .i64 (s.R n).cnt)) = some (.int .i64 (s'.R n).cnt))
    (wt : (if 20 = x then some v else some wv) = some wv') (wa : (if 21 = x then some v else some (.int .i64 s.wa)) = some (.int .i64 s'.wa)) (ww : (if 22 = x then some v else some (.int .i64 s.ww)) = some (.int .i64 s'.ww)) (se : (if 23 = x then some v else some sv) = some sv') :
    PW (w.setCell ⟨B, x, none⟩ v) B s' ptr rv' wv' sv' := by
  obtain ⟨u, hu⟩ := h.lt24 x hx
  have g := fun y => cell_set hu v y
  refine ⟨by simpa using h.lt, fun i hi => ?_, fun i hi => ?_, ?_, fun i hi => ?_, ?_, fun i hi => ?_, fun i hi => ?_, fun i hi => ?_, ?_, ?_, ?_, ?_, fun o ho => ?_⟩
  · rw [g, if_neg (tb i hi)]; exact h.tb i hi
  · rw [g, h.ac i hi]; exact ac i hi
  · rw [g, h.fr]; exact fr
  · rw [g, h.ct i hi]; exact ct i hi
  · rw [g, h.us]; exact us
  · rw [g, h.rt i hi]; exact rt i hi
  · rw [g, h.ra i hi]; exact ra i hi
  · rw [g, h.rc i hi]; exact rc i hi
  · rw [g, h.wt]; exact wt
  · rw [g, h.wa]; exact wa
  · rw [g, h.ww]; exact ww
  · rw [g, h.se]; exact se
  · rw [froz_set]; exact h.fz o ho

section
variable {w : World} {B : Nat} {s : PSt} {ptr : Nat → Nat} {rv : Nat → Value} {wv sv : Value}
theorem PW.setFr (h : PW w B s ptr rv wv sv) (n : Nat) : PW (w.setCell ⟨B, 4, none⟩ (.int .i64 n)) B { s with fr := n } ptr rv wv sv := by
  refine h.store (by decide) _ ?_ ?_ (if_pos rfl) ?_ (if_neg (by decide)) ?_ ?_ ?_ (if_neg (by decide)) (if_neg (by decide)) (if_neg (by decide)) (if_neg (by decide)) <;> intro i hi <;> first | omega | exact if_neg (by omega)
theorem PW.setUs (h : PW w B s ptr rv wv sv) (n : Nat) : PW (w.setCell ⟨B, 7, none⟩ (.int .i64 n)) B { s with us := n } ptr rv wv sv := by
  refine h.store (by decide) _ ?_ ?_ (if_neg (by decide)) ?_ (if_pos rfl) ?_ ?_ ?_ (if_neg (by decide)) (if_neg (by decide)) (if_neg (by decide)) (if_neg (by decide)) <;> intro i hi <;> first | omega | exact if_neg (by omega)
theorem PW.setWt (h : PW w B s ptr rv wv sv) (l : List ActD) (v : Value) : PW (w.setCell ⟨B, 20, none⟩ v) B { s with wt := l } ptr rv v sv := by
  refine h.store (by decide) _ ?_ ?_ (if_neg (by decide)) ?_ (if_neg (by decide)) ?_ ?_ ?_ (if_pos rfl) (if_neg (by decide)) (if_neg (by decide)) (if_neg (by decide)) <;> intro i hi <;> first | omega | exact if_neg (by omega)
theorem PW.setWa (h : PW w B s ptr rv wv sv) (n : Nat) : PW (w.setCell ⟨B, 21, none⟩ (.int .i64 n)) B { s with wa := n } ptr rv wv sv := by
  refine h.store (by decide) _ ?_ ?_ (if_neg (by decide)) ?_ (if_neg (by decide)) ?_ ?_ ?_ (if_neg (by decide)) (if_pos rfl) (if_neg (by decide)) (if_neg (by decide)) <;> intro i hi <;> first | omega | exact if_neg (by omega)
theorem PW.setWw (h : PW w B s ptr rv wv sv) (n : Nat) : PW (w.setCell ⟨B, 22, none⟩ (.int .i64 n)) B { s with ww := n } ptr rv wv sv := by
  refine h.store (by decide) _ ?_ ?_ (if_neg (by decide)) ?_ (if_neg (by decide)) ?_ ?_ ?_ (if_neg (by decide)) (if_neg (by decide)) (if_pos rfl) (if_neg (by decide)) <;> intro i hi <;> first | omega | exact if_neg (by omega)
theorem PW.setSe (h : PW w B s ptr rv wv sv) (l : List SeenD) (v : Value) : PW (w.setCell ⟨B, 23, none⟩ v) B { s with se := l } ptr rv wv v := by
  refine h.store (by decide) _ ?_ ?_ (if_neg (by decide)) ?_ (if_neg (by decide)) ?_ ?_ ?_ (if_neg (by decide)) (if_neg (by decide)) (if_neg (by decide)) (if_pos rfl) <;> intro i hi <;> first | omega | exact if_neg (by omega)
theorem PW.setC (h : PW w B s ptr rv wv sv) {k : Nat} (hk : k < 2) (n : Int) : PW (w.setCell ⟨B, 5 + k, none⟩ (.int .i64 n)) B { s with C := up s.C k n } ptr rv wv sv := by
  refine h.store (by omega) _ ?_ ?_ (if_neg (by omega)) (fun i hi => ?_) (if_neg (by omega)) ?_ ?_ ?_ (if_neg (by omega)) (if_neg (by omega)) (if_neg (by omega)) (if_neg (by omega))
  rotate_left 2
  · show _ = some (Value.int .i64 (up s.C k n i))
    unfold up
    by_cases e : i = k
    · rw [if_pos (by omega), if_pos e]
    · rw [if_neg (by omega), if_neg e]
  all_goals intro i hi
  all_goals first | omega | exact if_neg (by omega)
theorem PW.setRt (h : PW w B s ptr rv wv sv) {k : Nat} (hk : k < 4) (l : List Nat) (v : Value) : PW (w.setCell ⟨B, 8 + k * 3, none⟩ v) B { s with R := up s.R k ⟨l, (s.R k).at_, (s.R k).cnt⟩ } ptr (up rv k v) wv sv := by
  refine h.store (by omega) _ ?_ ?_ (if_neg (by omega)) ?_ (if_neg (by omega)) (fun i hi => ?_) (fun i hi => ?_) (fun i hi => ?_) (if_neg (by omega)) (if_neg (by omega)) (if_neg (by omega)) (if_neg (by omega))
  · intro i hi; omega
  · intro i hi; exact if_neg (by omega)
  · intro i hi; exact if_neg (by omega)
  · unfold up
    by_cases e : i = k
    · rw [if_pos (by omega), if_pos e]
    · rw [if_neg (by omega), if_neg e]
  all_goals
    rw [if_neg (by omega)]
    show _ = some (Value.int .i64 _)
    dsimp only
    unfold up
    split
    · rename_i e; subst e; rfl
    · rfl
theorem PW.setRa (h : PW w B s ptr rv wv sv) {k : Nat} (hk : k < 4) (n : Nat) : PW (w.setCell ⟨B, 8 + k * 3 + 1, none⟩ (.int .i64 n)) B { s with R := up s.R k ⟨(s.R k).todo, n, (s.R k).cnt⟩ } ptr rv wv sv := by
  refine h.store (by omega) _ ?_ ?_ (if_neg (by omega)) ?_ (if_neg (by omega)) (fun i hi => if_neg (by omega)) (fun i hi => ?_) (fun i hi => ?_) (if_neg (by omega)) (if_neg (by omega)) (if_neg (by omega)) (if_neg (by omega))
  · intro i hi; omega
  · intro i hi; exact if_neg (by omega)
  · intro i hi; exact if_neg (by omega)
  · show _ = some (Value.int .i64 ((up s.R k ⟨(s.R k).todo, n, (s.R k).cnt⟩ i).at_ : Nat))
    unfold up
    by_cases e : i = k
    · rw [if_pos (by omega), if_pos e]
    · rw [if_neg (by omega), if_neg e]
  · rw [if_neg (by omega)]
    show _ = some (Value.int .i64 ((up s.R k ⟨(s.R k).todo, n, (s.R k).cnt⟩ i).cnt : Nat))
    unfold up
    split
    · rename_i e; subst e; rfl
    · rfl
theorem PW.setRc (h : PW w B s ptr rv wv sv) {k : Nat} (hk : k < 4) (n : Nat) : PW (w.setCell ⟨B, 8 + k * 3 + 2, none⟩ (.int .i64 n)) B { s with R := up s.R k ⟨(s.R k).todo, (s.R k).at_, n⟩ } ptr rv wv sv := by
  refine h.store (by omega) _ ?_ ?_ (if_neg (by omega)) ?_ (if_neg (by omega)) (fun i hi => if_neg (by omega)) (fun i hi => ?_) (fun i hi => ?_) (if_neg (by omega)) (if_neg (by omega)) (if_neg (by omega)) (if_neg (by omega))
  · intro i hi; omega
  · intro i hi; exact if_neg (by omega)
  · intro i hi; exact if_neg (by omega)
  · rw [if_neg (by omega)]
    show _ = some (Value.int .i64 ((up s.R k ⟨(s.R k).todo, (s.R k).at_, n⟩ i).at_ : Nat))
    unfold up
    split
    · rename_i e; subst e; rfl
    · rfl
  · show _ = some (Value.int .i64 ((up s.R k ⟨(s.R k).todo, (s.R k).at_, n⟩ i).cnt : Nat))
    unfold up
    by_cases e : i = k
    · rw [if_pos (by omega), if_pos e]
    · rw [if_neg (by omega), if_neg e]
end

def addrCells (a : Nat) : List Value := [.bool false, .int .u64 (hiOf false a), .int .u64 (loOf a)]
def seenCells (x : SeenD) : List Value := [.int .i64 x.rd, .int .i64 0, .int .i64 x.hop, .int .i64 x.len, .int .i64 x.acts]
/-- A slice that was there at ws, and stays as it was. -/
def StS (ws : World) (col : Nat → Nat) (sz : Nat) (v : Value) (xs : List (List Value)) : Prop := Sl ws sz v xs ∧ ∀ a n c, v = .slice (some a) n c → a.block < ws.heap.size ∧ col a.block = 0
def recol (w : World) (col : Nat → Nat) (c : Nat) : Nat → Nat := fun b => if b < w.heap.size then col b else c
theorem recol_old {w : World} {col : Nat → Nat} {c b : Nat} (h : b < w.heap.size) : recol w col c b = col b := if_pos h
theorem recol_new {w : World} {col : Nat → Nat} {c b : Nat} (h : w.heap.size ≤ b) : recol w col c b = c := if_neg (by omega)
/-- All that holds of the pair in memory: blocks have colours: 0: what was there; 1: the pair itself; 2, 3: the tables; 4: what was seen; others: what is not needed any more. -/
structure PI (w0 ws w : World) (B : Nat) (s : PSt) (col : Nat → Nat) (ptr : Nat → Nat) (rv : Nat → Value) (wv sv : Value) : Prop where
  pw : PW w B s ptr rv wv sv
  bel : Below w0.heap.size w0 w
  hi : ∀ b, b < w.heap.size → col b ≠ 0 → w0.heap.size ≤ b
  cB : col B = 1
  tab : ∀ i, i < 2 → Tab w (ptr i) (s.T i) (fun b => b < w.heap.size ∧ col b = 2 + i)
  rs : ∀ n, n < 4 → StS ws col 3 (rv n) ((s.R n).todo.map addrCells)
  wsx : StS ws col 9 wv (s.wt.map actCells)
  zs : ws.heap.size ≤ w.heap.size
  old : ∀ b o, b < ws.heap.size → col b = 0 → w.cell? ⟨b, o, none⟩ = ws.cell? ⟨b, o, none⟩
  seen : Wk.Own w w0.heap.size 83 5 sv (s.se.map seenCells)
  cs : ∀ k, sv.ownBlock = some k → col k = 4
theorem StS.recol {ws w : World} {col : Nat → Nat} {c sz : Nat} {v : Value} {xs : List (List Value)} (h : StS ws col sz v xs) (hz : ws.heap.size ≤ w.heap.size) : StS ws (recol w col c) sz v xs :=
  ⟨h.1, fun a n c' e => ⟨(h.2 a n c' e).1, by rw [recol_old (Nat.lt_of_lt_of_le (h.2 a n c' e).1 hz)]; exact (h.2 a n c' e).2⟩⟩
theorem PI.step {w0 ws w w' : World} {B : Nat} {s s' : PSt} {col : Nat → Nat} {ptr : Nat → Nat} {rv rv' : Nat → Value} {wv wv' sv : Value} {G : Nat → Prop} (h : PI w0 ws w B s col ptr rv wv sv) (c : Nat) (hc : c ≠ 0 ∧ c ≠ 1 ∧ c ≠ 4) (ch : Chg w w' (fun b _ => G b))
    (hG : ∀ b, b < w.heap.size → G b → col b = 1 ∨ col b = c) (pw : PW w' B s' ptr rv' wv' sv) (tab : ∀ i, i < 2 → 2 + i = c → Tab w' (ptr i) (s'.T i) (fun b => (b < w.heap.size ∧ col b = c) ∨ w.heap.size ≤ b)) (tabo : ∀ i, i < 2 → 2 + i ≠ c → s'.T i = s.T i)
    (rs : ∀ n, n < 4 → StS ws col 3 (rv' n) ((s'.R n).todo.map addrCells)) (wsx : StS ws col 9 wv' (s'.wt.map actCells)) (se : s'.se = s.se) : PI w0 ws w' B s' (recol w col c) ptr rv' wv' sv := by
  have hz0 := h.bel.size
  refine ⟨pw, h.bel.trans (ch.below hz0 (fun b x hb hg => ?_)), fun b hb hcb => ?_, by rw [recol_old h.pw.lt]; exact h.cB, fun i hi => ?_, fun n hn => (rs n hn).recol h.zs, wsx.recol h.zs, Nat.le_trans h.zs ch.size, fun b o hb hcb => ?_, ?_, fun k hk => ?_⟩
  · have h1 := hG b (by omega) hg
    have := h.hi b (by omega) (by omega)
    omega
  · by_cases hbw : b < w.heap.size
    · rw [recol_old hbw] at hcb
      exact h.hi b hbw hcb
    · omega
  · by_cases e : 2 + i = c
    · refine ((tab i hi e).lt).weak (fun b hb => ⟨hb.2, ?_⟩)
      rcases hb.1 with h1 | h1
      · rw [recol_old h1.1, h1.2, e]
      · rw [recol_new h1, e]
    · rw [tabo i hi e]
      refine ((h.tab i hi).keep ch (fun b hb hg => ?_)).weak (fun b hb => ⟨Nat.lt_of_lt_of_le hb.1 ch.size, by rw [recol_old hb.1]; exact hb.2⟩)
      have := hG b hb.1 hg
      omega
  · have hbw : b < w.heap.size := Nat.lt_of_lt_of_le hb h.zs
    rw [recol_old hbw] at hcb
    rw [ch.cell b o hbw (fun hg => by have := hG b hbw hg; omega)]
    exact h.old b o hb hcb
  · rw [se]
    refine h.seen.chgF ch (fun b hb x hg => ?_)
    have hbw := (h.seen.lt b hb).2
    have := hG b hbw hg
    have := h.cs b hb
    omega
  · rw [recol_old (h.seen.lt k hk).2]
    exact h.cs k hk
end Go.Proofs.Yteadfobfenopkaa
