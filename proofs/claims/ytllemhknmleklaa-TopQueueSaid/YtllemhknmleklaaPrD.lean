
/- A pair of tables: a pick. -/
import Derived.Test.YtllemhknmleklaaPrC
set_option linter.unusedVariables false
set_option linter.unusedSimpArgs false
namespace Go.Proofs.Ytllemhknmleklaa
open Go Go.RowKit Go.Sort Wc Wk

theorem seenCells_one (x : SeenD) : ∀ u ∈ seenCells x, u.oneCell' = true := by
  intro u hu
  simp [seenCells] at hu
  rcases hu with rfl | rfl | rfl | rfl | rfl <;> rfl
theorem eiSeen : EI Try.prog 49 57 5 40 (.agg #[.int .i64 0, .int .i64 0, .int .i64 0, .int .i64 0, .int .i64 0]) := ⟨by kernel_rfl, by kernel_rfl, rfl, by decide⟩
/-- All blocks but two are as they were. -/
structure Two (w w' : World) (B : Nat) (row : Option Nat) : Prop where
  os : w'.os = w.os
  tape : w'.tape = w.tape
  output : w'.output = w.output
  size : w.heap.size ≤ w'.heap.size
  block : ∀ b, b < w.heap.size → b ≠ B → row ≠ some b → w'.heap[b]? = w.heap[b]?
theorem PI.told {w0 ws w w' : World} {B : Nat} {s : PSt} {col : Nat → Nat} {ptr : Nat → Nat} {rv : Nat → Value} {wv sv sv' : Value} {l : List SeenD} (h : PI w0 ws w B s col ptr rv wv sv) (ch : Two w w' B sv.ownBlock)
    (pw : PW w' B { s with se := l } ptr rv wv sv') (own : Wk.Own w' w0.heap.size 57 5 sv' (l.map seenCells)) (hv : ∀ k, sv'.ownBlock = some k → sv.ownBlock = some k ∨ w.heap.size ≤ k) : PI w0 ws w' B { s with se := l } (recol w col 4) ptr rv wv sv' := by
  have hz0 := h.bel.size
  have hB := h.cB
  have hG : ∀ b, b < w.heap.size → col b ≠ 1 → col b ≠ 4 → w'.heap[b]? = w.heap[b]? := fun b hb h1 h4 => ch.block b hb (fun e => h1 (by rw [e]; exact hB)) (fun e => h4 (h.cs b e))
  refine ⟨pw, h.bel.trans ⟨ch.os, ch.tape, ch.output, ch.size, fun k hk => ?_⟩, fun b hb hcb => ?_, by rw [recol_old h.pw.lt]; exact h.cB, fun i hi => ?_, fun n hn => (h.rs n hn).recol h.zs, h.wsx.recol h.zs, Nat.le_trans h.zs ch.size, fun b o hb hcb => ?_, own, fun k hk => ?_⟩
  · have hc : col k = 0 := by
      by_cases e : col k = 0
      · exact e
      · have := h.hi k (by omega) e
        omega
    exact hG k (by omega) (by omega) (by omega)
  · by_cases hbw : b < w.heap.size
    · rw [recol_old hbw] at hcb
      exact h.hi b hbw hcb
    · omega
  · refine ((h.tab i hi).same ch.size (fun b hb hlt => hG b hlt (by omega) (by omega))).weak (fun b hb => ⟨Nat.lt_of_lt_of_le hb.1 ch.size, by rw [recol_old hb.1]; exact hb.2⟩)
  · have hbw : b < w.heap.size := Nat.lt_of_lt_of_le hb h.zs
    rw [recol_old hbw] at hcb
    rw [World.cell?_of_block (a := ⟨b, o, none⟩) (hG b hbw (by omega) (by omega))]
    exact h.old b o hb hcb
  · rcases hv k hk with hk | hk
    · rw [recol_old (h.seen.lt k hk).2]
      exact h.cs k hk
    · exact recol_new hk

theorem PW.blk {w w' : World} {B : Nat} {s : PSt} {ptr : Nat → Nat} {rv : Nat → Value} {wv sv : Value} (h : PW w B s ptr rv wv sv) (hz : w.heap.size ≤ w'.heap.size) (hb : w'.heap[B]? = w.heap[B]?) : PW w' B s ptr rv wv sv := by
  have c := fun x => World.cell?_of_block (a := ⟨B, x, none⟩) hb
  have f := fun x => World.frozen?_of_block (a := ⟨B, x, none⟩) hb
  exact ⟨Nat.lt_of_lt_of_le h.lt hz, fun i hi => (c _).trans (h.tb i hi), fun i hi => (c _).trans (h.ac i hi), (c _).trans h.fr, fun i hi => (c _).trans (h.ct i hi), (c _).trans h.us, fun i hi => (c _).trans (h.rt i hi), fun i hi => (c _).trans (h.ra i hi), fun i hi => (c _).trans (h.rc i hi), (c _).trans h.wt, (c _).trans h.wa, (c _).trans h.ww, (c _).trans h.se, fun o ho => (f o).trans (h.fz o ho)⟩
/-- What was seen grows by one. -/
theorem PI.grown {w0 ws w wA wC : World} {B : Nat} {s : PSt} {col : Nat → Nat} {ptr : Nat → Nat} {rv : Nat → Value} {wv sv vC : Value} {x : SeenD} (h : PI w0 ws w B s col ptr rv wv sv) (hA : Below w.heap.size w wA) (g : wA.grownBy wC sv.ownBlock)
    (ho : Wk.Own wC w0.heap.size 57 5 vC (s.se.map seenCells ++ [seenCells x])) (hat : vC.ownBlock = sv.ownBlock ∨ vC.ownBlock = some wA.heap.size) :
    PI w0 ws (wC.setCell ⟨B, 23, none⟩ vC) B { s with se := s.se ++ [x] } (recol w col 4) ptr rv wv vC ∧ w.heap.size ≤ (wC.setCell ⟨B, 23, none⟩ vC).heap.size := by
  have hB := h.cB
  have hNB : ∀ k, sv.ownBlock = some k → k ≠ B := fun k hk e => by
    have := h.cs k hk
    rw [e, hB] at this
    cases this
  have hlt := h.pw.lt
  have hzA := hA.size
  have hzC := g.size
  have hb : wC.heap[B]? = w.heap[B]? := (g.block B (by omega) (fun e => hNB B e.symm rfl)).trans (hA.block B hlt)
  have hz : w.heap.size ≤ (wC.setCell ⟨B, 23, none⟩ vC).heap.size := by rw [World.size_setCell]; omega
  have cs := chg_blk wC B 23 vC
  refine ⟨h.told ⟨g.os.trans hA.os, g.tape.trans hA.tape, g.output.trans hA.output, hz, fun b hbl hne hrow => ?_⟩ ((h.pw.blk (by omega) hb).setSe _ vC) ?_ (fun k hk => ?_), hz⟩
  · refine (cs.block b (by omega) (fun y e => hne e)).trans ((g.block b (by omega) (fun e => hrow e.symm)).trans (hA.block b hbl))
  · rw [List.map_append]
    refine Wk.Own.chgF ho cs (fun b hb' y e => ?_)
    rw [e] at hb'
    rcases hat with e2 | e2
    · rw [e2] at hb'
      exact hNB B hb' rfl
    · rw [e2] at hb'
      have : wA.heap.size = B := by simpa using hb'
      omega
  · rcases hat with e2 | e2
    · exact .inl (by rw [← e2]; exact hk)
    · rw [e2] at hk
      have : wA.heap.size = k := by simpa using hk
      exact .inr (by omega)
theorem b3_val (w : World) (E : TypeId) (c p q : Int) : B3 (w.alloc (.cells #[.int .i64 c, .int .i64 p, .int .i64 q] E)) w.heap.size c p q := by constructor <;> simp
def pickSays (w0 ws w : World) (B : Nat) (s : PSt) (n : Nat) (ptr : Nat → Nat) (e : Ending) (w' : World) : Prop :=
  e = .returned (.tuple #[]) ∧ (∃ col' rv' wv' sv', PI w0 ws w' B (pstep s n) col' ptr rv' wv' sv') ∧ w.heap.size ≤ w'.heap.size
def Told (w0 ws wx : World) (B N : Nat) (s : PSt) (n : Nat) (ptr : Nat → Nat) (wv sv : Value) : Prop :=
  ∃ col rv, PI w0 ws wx B (rmove s n) col ptr rv wv sv ∧ B3 wx N 0 (rtold s n).2.1 (rtold s n).2.2.1 ∧ col N ≠ 4 ∧ N ≠ B
set_option maxRecDepth 100000 in
set_option maxHeartbeats 4000000 in
theorem pick_any (w0 ws w : World) (B n : Nat) (s : PSt) (col : Nat → Nat) (ptr : Nat → Nat) (rv : Nat → Value) (wv sv : Value) (h : PI w0 ws w B s col ptr rv wv sv) (hok : s.ok 1000) (hn : n ≤ 4) :
    Calls Try.prog 96 #[.pointer (some ⟨B, 0, none⟩), .int .i64 n] w (pickSays w0 ws w B s n ptr) := by
  have HP := Lib.hid h
  have HK := Lib.hid hok
  clear h hok
  by_cases h4 : n = 4
  · subst h4
    go_enter Try.func96, Try.ntmps96
    go_wp2_with fail
    go_still_tail 6, (by kernel_rfl)
    change wpList _ _ _ _ _ w.drew
    have HP1 := Lib.hid (HP.out.below (w' := w.drew) (Below.drew (Below.refl _ _)))
    have hz1 : w.heap.size ≤ w.drew.heap.size := Nat.le_refl _
    generalize w.drew = X at *
    go_wp2_with fail
    refine (wstep_any w0 ws X B s _ ptr rv wv sv HP1.out HK.out).mono ?_
    rintro e w3 ⟨rfl, hp3, hz3⟩
    have HP3 := Lib.hid hp3
    clear hp3
    go_wp2
    go_returns
    obtain ⟨c3, v3, hp3⟩ := HP3.out
    exact ⟨rfl, ⟨c3, rv, v3, sv, by unfold pstep; rw [if_pos rfl]; exact hp3⟩, Nat.le_trans hz1 hz3⟩
  · have hn4 : n < 4 := by omega
    have hni0 : (0 : Int) ≤ n := by omega
    have hni4 : (n : Int) < 4 := by omega
    have hd : ((n : Int) == 4) = false := by rw [beq_eq_false_iff_ne]; omega
    have hd' : ¬ ((n : Int) = 4) := by omega
    clear h4
    have HB3N := Lib.hid (b3_new w 53)
    have hltB := HP.out.pw.lt
    have hz0 : w.heap.size ≤ w.heap.size := Nat.le_refl _
    go_enter Try.func96, Try.ntmps96
    go_upto_region 2 with fail
    go_cut [4, 5, 6] (fun v4 v5 v6 wx => ∃ N, v4 = .pointer (some ⟨N, 0, none⟩) ∧ v5 = .int .i64 ((rtold s n).2.2.2 : Nat) ∧ v6 = .bool (rtold s n).1 ∧ Hid (Told w0 ws wx B N s n ptr wv sv) ∧ Hid (w.heap.size ≤ wx.heap.size))
    case first =>
      refine wp_region_held_drew (S := (fun _ => True)) (by kernel_rfl) ?_ (fun hHeld => ?_)
      · ((try dsimp only); (try trivial))
      (refine wpAnyH_take (i := 0) (oi := _) (v := ?_) (by simp only [List.getElem?_toArray, List.getElem?_cons_zero, List.getElem?_cons_succ]; rfl) (by kernel_rfl) (by decide +kernel) (by decide +kernel) (by exact fun _ _ _ h => h) (Or.inl ⟨by rfl, ?_⟩) (by assumption) ?_; rotate_left; (· ((intro w hSw); (try dsimp only at hSw); go_simp; (try with_reducible rfl))); (try simp only [Act.put, List.setIfInBounds_toArray, List.set_cons_zero, List.set_cons_succ]))
      (refine wpAnyH_take (i := 1) (oi := _) (v := ?_) (by simp only [List.getElem?_toArray, List.getElem?_cons_zero, List.getElem?_cons_succ]; rfl) (by kernel_rfl) (by decide +kernel) (by decide +kernel) (by exact fun _ _ _ h => h) (Or.inl ⟨by rfl, ?_⟩) (by assumption) ?_; rotate_left; (· ((intro w hSw); (try dsimp only at hSw); go_simp; (try with_reducible rfl))); (try simp only [Act.put, List.setIfInBounds_toArray, List.set_cons_zero, List.set_cons_succ]))
      (refine wpAnyH_take (i := 2) (oi := _) (v := ?_) (by simp only [List.getElem?_toArray, List.getElem?_cons_zero, List.getElem?_cons_succ]; rfl) (by kernel_rfl) (by decide +kernel) (by decide +kernel) (by exact fun _ _ _ h => h) (Or.inl ⟨by rfl, ?_⟩) (by assumption) ?_; rotate_left; (· ((intro w hSw); (try dsimp only at hSw); go_simp; (try with_reducible rfl))); (try simp only [Act.put, List.setIfInBounds_toArray, List.set_cons_zero, List.set_cons_succ]))
      (refine wpAnyH_take (i := 3) (oi := _) (v := ?_) (by simp only [List.getElem?_toArray, List.getElem?_cons_zero, List.getElem?_cons_succ]; rfl) (by kernel_rfl) (by decide +kernel) (by decide +kernel) (by exact fun _ _ _ h => h) (Or.inl ⟨by rfl, ?_⟩) (by assumption) ?_; rotate_left; (· ((intro w hSw); (try dsimp only at hSw); go_simp; (try with_reducible rfl))); (try simp only [Act.put, List.setIfInBounds_toArray, List.set_cons_zero, List.set_cons_succ]))
      (refine wpAnyH_take (i := 4) (oi := _) (v := ?_) (by simp only [List.getElem?_toArray, List.getElem?_cons_zero, List.getElem?_cons_succ]; rfl) (by kernel_rfl) (by decide +kernel) (by decide +kernel) (by exact fun _ _ _ h => h) (Or.inl ⟨by rfl, ?_⟩) (by assumption) ?_; rotate_left; (· ((intro w hSw); (try dsimp only at hSw); go_simp; (try with_reducible rfl))); (try simp only [Act.put, List.setIfInBounds_toArray, List.set_cons_zero, List.set_cons_succ]))
      (refine wpAnyH_take (i := 5) (oi := _) (v := ?_) (by simp only [List.getElem?_toArray, List.getElem?_cons_zero, List.getElem?_cons_succ]; rfl) (by kernel_rfl) (by decide +kernel) (by decide +kernel) (by exact fun _ _ _ h => h) (Or.inl ⟨by rfl, ?_⟩) (by assumption) ?_; rotate_left; (· ((intro w hSw); (try dsimp only at hSw); go_simp; (try with_reducible rfl))); (try simp only [Act.put, List.setIfInBounds_toArray, List.set_cons_zero, List.set_cons_succ]))
      (refine wpAnyH_take (i := 6) (oi := _) (v := ?_) (by simp only [List.getElem?_toArray, List.getElem?_cons_zero, List.getElem?_cons_succ]; rfl) (by kernel_rfl) (by decide +kernel) (by decide +kernel) (by exact fun _ _ _ h => h) (Or.inl ⟨by rfl, ?_⟩) (by assumption) ?_; rotate_left; (· ((intro w hSw); (try dsimp only at hSw); go_simp; (try with_reducible rfl))); (try simp only [Act.put, List.setIfInBounds_toArray, List.set_cons_zero, List.set_cons_succ]))
      (refine wpAnyH_take (i := 7) (oi := _) (v := ?_) (by simp only [List.getElem?_toArray, List.getElem?_cons_zero, List.getElem?_cons_succ]; rfl) (by kernel_rfl) (by decide +kernel) (by decide +kernel) (by exact fun _ _ _ h => h) (Or.inl ⟨by rfl, ?_⟩) (by assumption) ?_; rotate_left; (· ((intro w hSw); (try dsimp only at hSw); go_simp; (try with_reducible rfl))); (try simp only [Act.put, List.setIfInBounds_toArray, List.set_cons_zero, List.set_cons_succ]))
      repeat' (first
        | (refine wpAnyH_take (i := 9) (oi := _) (v := ?_) (by simp only [List.getElem?_toArray, List.getElem?_cons_zero, List.getElem?_cons_succ]; rfl) (by kernel_rfl) (by decide +kernel) (by decide +kernel) (by exact fun _ _ _ h => h) (Or.inl ⟨by rfl, ?_⟩) (by assumption) ?_; rotate_left; (· ((intro w hSw); (try dsimp only at hSw); go_simp; (try with_reducible rfl))); (try simp only [Act.put, List.setIfInBounds_toArray, List.set_cons_zero, List.set_cons_succ]))
        | (refine wpAnyH_take (i := 10) (oi := _) (v := ?_) (by simp only [List.getElem?_toArray, List.getElem?_cons_zero, List.getElem?_cons_succ]; rfl) (by kernel_rfl) (by decide +kernel) (by decide +kernel) (by exact fun _ _ _ h => h) (Or.inl ⟨by rfl, ?_⟩) (by assumption) ?_; rotate_left; (· ((intro w hSw); (try dsimp only at hSw); go_simp; (try with_reducible rfl))); (try simp only [Act.put, List.setIfInBounds_toArray, List.set_cons_zero, List.set_cons_succ]))
        | (refine wpAnyH_take (i := 11) (oi := _) (v := ?_) (by simp only [List.getElem?_toArray, List.getElem?_cons_zero, List.getElem?_cons_succ]; rfl) (by kernel_rfl) (by decide +kernel) (by decide +kernel) (by exact fun _ _ _ h => h) (Or.inl ⟨by rfl, ?_⟩) (by assumption) ?_; rotate_left; (· ((intro w hSw); (try dsimp only at hSw); go_simp; (try with_reducible rfl))); (try simp only [Act.put, List.setIfInBounds_toArray, List.set_cons_zero, List.set_cons_succ]))
        | (refine wpAnyH_take (i := 12) (oi := _) (v := ?_) (by simp only [List.getElem?_toArray, List.getElem?_cons_zero, List.getElem?_cons_succ]; rfl) (by kernel_rfl) (by decide +kernel) (by decide +kernel) (by exact fun _ _ _ h => h) (Or.inl ⟨by rfl, ?_⟩) (by assumption) ?_; rotate_left; (· ((intro w hSw); (try dsimp only at hSw); go_simp; (try with_reducible rfl))); (try simp only [Act.put, List.setIfInBounds_toArray, List.set_cons_zero, List.set_cons_succ]))
        | (refine wpAnyH_take (i := 15) (oi := _) (v := ?_) (by simp only [List.getElem?_toArray, List.getElem?_cons_zero, List.getElem?_cons_succ]; rfl) (by kernel_rfl) (by decide +kernel) (by decide +kernel) (by exact fun _ _ _ h => h) (Or.inl ⟨by rfl, ?_⟩) (by assumption) ?_; rotate_left; (· ((intro w hSw); (try dsimp only at hSw); go_simp; (try with_reducible rfl))); (try simp only [Act.put, List.setIfInBounds_toArray, List.set_cons_zero, List.set_cons_succ]))
        | (refine wpAnyH_take (i := 16) (oi := _) (v := ?_) (by simp only [List.getElem?_toArray, List.getElem?_cons_zero, List.getElem?_cons_succ]; rfl) (by kernel_rfl) (by decide +kernel) (by decide +kernel) (by exact fun _ _ _ h => h) (Or.inl ⟨by rfl, ?_⟩) (by assumption) ?_; rotate_left; (· ((intro w hSw); (try dsimp only at hSw); go_simp; (try with_reducible rfl))); (try simp only [Act.put, List.setIfInBounds_toArray, List.set_cons_zero, List.set_cons_succ]))
        | (refine wpAnyH_ready (rs := [8, 13]) (by decide +kernel) (by simp) (AllReadyH.cons (by simp only [List.getElem?_toArray, List.getElem?_cons_zero, List.getElem?_cons_succ]; rfl) (fun K hK => ?_) (AllReadyH.cons (by simp only [List.getElem?_toArray, List.getElem?_cons_zero, List.getElem?_cons_succ]; rfl) (fun K hK => ?_) AllReadyH.nil)); all_goals ((first | fail | (go_simp; (first | ((refine (rstep_any w0 ws _ B n s _ ptr rv wv sv (HP.out.below (by (repeat' (first | (with_reducible exact Below.refl _ _) | (with_reducible assumption) | (with_reducible refine Below.alloc ?_ ?_ _) | (with_reducible refine Below.drew ?_) | (with_reducible refine Below.stepG ?_ (by assumption) ?_) | (with_reducible refine Below.setCell ?_ ?_ _) | omega | (dsimp only; omega) | (simp; done) | (simp; omega))))) HK.out hn4).mono ?_); rintro e wC ⟨rfl, hpiC, hzC, hchC⟩; (have HPIC := Lib.hid hpiC); (have HZC := Lib.hid hzC); (try (have hb3C : B3 wC w.heap.size 0 0 0 := B3.chg (B3.below HB3N.out (Below.drew (Below.refl _ _))) hchC (by omega))); (try obtain ⟨ltC, m0, m1, m2, f0, f1, f2⟩ := id hb3C); clear hpiC hzC) | skip))); (refine hK.out _ _ ?_ (fun hHeld => ?_)); (· ((try dsimp only); (try trivial))); (clear hK K; (try simp only [Act.put, List.setIfInBounds_toArray, List.set_cons_zero, List.set_cons_succ]))))
        | (refine wpAnyH_ready (rs := [13]) (by decide +kernel) (by simp) (AllReadyH.cons (by simp only [List.getElem?_toArray, List.getElem?_cons_zero, List.getElem?_cons_succ]; rfl) (fun K hK => ?_) AllReadyH.nil); all_goals ((first | fail | (go_simp; (first | ((refine (rstep_any w0 ws _ B n s _ ptr rv wv sv (HP.out.below (by (repeat' (first | (with_reducible exact Below.refl _ _) | (with_reducible assumption) | (with_reducible refine Below.alloc ?_ ?_ _) | (with_reducible refine Below.drew ?_) | (with_reducible refine Below.stepG ?_ (by assumption) ?_) | (with_reducible refine Below.setCell ?_ ?_ _) | omega | (dsimp only; omega) | (simp; done) | (simp; omega))))) HK.out hn4).mono ?_); rintro e wC ⟨rfl, hpiC, hzC, hchC⟩; (have HPIC := Lib.hid hpiC); (have HZC := Lib.hid hzC); (try (have hb3C : B3 wC w.heap.size 0 0 0 := B3.chg (B3.below HB3N.out (Below.drew (Below.refl _ _))) hchC (by omega))); (try obtain ⟨ltC, m0, m1, m2, f0, f1, f2⟩ := id hb3C); clear hpiC hzC) | skip))); (refine hK.out _ _ ?_ (fun hHeld => ?_)); (· ((try dsimp only); (try trivial))); (clear hK K; (try simp only [Act.put, List.setIfInBounds_toArray, List.set_cons_zero, List.set_cons_succ]))))
        | (refine wpAnyH_ready (rs := [8]) (by decide +kernel) (by simp) (AllReadyH.cons (by simp only [List.getElem?_toArray, List.getElem?_cons_zero, List.getElem?_cons_succ]; rfl) (fun K hK => ?_) AllReadyH.nil); all_goals ((first | fail | (go_simp; (first | ((refine (rstep_any w0 ws _ B n s _ ptr rv wv sv (HP.out.below (by (repeat' (first | (with_reducible exact Below.refl _ _) | (with_reducible assumption) | (with_reducible refine Below.alloc ?_ ?_ _) | (with_reducible refine Below.drew ?_) | (with_reducible refine Below.stepG ?_ (by assumption) ?_) | (with_reducible refine Below.setCell ?_ ?_ _) | omega | (dsimp only; omega) | (simp; done) | (simp; omega))))) HK.out hn4).mono ?_); rintro e wC ⟨rfl, hpiC, hzC, hchC⟩; (have HPIC := Lib.hid hpiC); (have HZC := Lib.hid hzC); (try (have hb3C : B3 wC w.heap.size 0 0 0 := B3.chg (B3.below HB3N.out (Below.drew (Below.refl _ _))) hchC (by omega))); (try obtain ⟨ltC, m0, m1, m2, f0, f1, f2⟩ := id hb3C); clear hpiC hzC) | skip))); (refine hK.out _ _ ?_ (fun hHeld => ?_)); (· ((try dsimp only); (try trivial))); (clear hK K; (try simp only [Act.put, List.setIfInBounds_toArray, List.set_cons_zero, List.set_cons_succ]))))
        | (refine wpAnyH_ready (rs := [14]) (by decide +kernel) (by simp) (AllReadyH.cons (by simp only [List.getElem?_toArray, List.getElem?_cons_zero, List.getElem?_cons_succ]; rfl) (fun K hK => ?_) AllReadyH.nil); all_goals ((first | fail | (go_simp; (first | ((refine (rstep_any w0 ws _ B n s _ ptr rv wv sv (HP.out.below (by (repeat' (first | (with_reducible exact Below.refl _ _) | (with_reducible assumption) | (with_reducible refine Below.alloc ?_ ?_ _) | (with_reducible refine Below.drew ?_) | (with_reducible refine Below.stepG ?_ (by assumption) ?_) | (with_reducible refine Below.setCell ?_ ?_ _) | omega | (dsimp only; omega) | (simp; done) | (simp; omega))))) HK.out hn4).mono ?_); rintro e wC ⟨rfl, hpiC, hzC, hchC⟩; (have HPIC := Lib.hid hpiC); (have HZC := Lib.hid hzC); (try (have hb3C : B3 wC w.heap.size 0 0 0 := B3.chg (B3.below HB3N.out (Below.drew (Below.refl _ _))) hchC (by omega))); (try obtain ⟨ltC, m0, m1, m2, f0, f1, f2⟩ := id hb3C); clear hpiC hzC) | skip))); (refine hK.out _ _ ?_ (fun hHeld => ?_)); (· ((try dsimp only); (try trivial))); (clear hK K; (try simp only [Act.put, List.setIfInBounds_toArray, List.set_cons_zero, List.set_cons_succ]))))
        | (refine wpAnyH_done (by decide +kernel) ?_ _)
        | fail)
      all_goals go_wp2_with fail
      all_goals go_meet
      all_goals
        obtain ⟨c3, r3, p3, hc3⟩ := HPIC.out
        have hzf := HZC.out
        first
        | (refine ⟨_, rfl, rfl, rfl, Lib.hid ⟨_, r3, p3.below ((Below.refl _ _).alloc (Nat.le_refl _) _), b3_val _ _ _ _ _, by rw [recol_new (Nat.le_refl _)]; decide, ?_⟩, Lib.hid ?_⟩
           · have := p3.pw.lt; omega
           · (simp at hzf ⊢; omega))
        | (have hM : c3 w.heap.size = 5 := (hc3 _ (by simp)).trans (recol_new (Nat.le_refl _))
           refine ⟨_, rfl, rfl, rfl, Lib.hid ⟨_, r3, p3.junk hM (b3_chg wC w.heap.size _ _ _), hb3C.set _ _ _, ?_, ?_⟩, Lib.hid ?_⟩
           · rw [recol_old hb3C.lt, hM]; decide
           · omega
           · (simp at hzf ⊢; omega))
    case rest =>
      obtain ⟨N, rfl, rfl, rfl, HT, HZ⟩ := hcut
      obtain ⟨X, hX⟩ : ∃ X : World, X = wc := ⟨_, rfl⟩
      subst hX
      obtain ⟨c1, r1, hp1, hb1, hcN, hNB⟩ := HT.out
      have HP1 := Lib.hid hp1
      obtain ⟨ltN, m0, m1, m2, f0, f1, f2⟩ := hb1
      have HCN := Lib.hid hcN
      have hse := hp1.pw.se
      have hfz := hp1.pw.fz 23 (by decide)
      have hltX := hp1.pw.lt
      have hown := hp1.seen
      have HOW := Lib.hid hown
      obtain ⟨ta, tc, hsv⟩ := hown.shape
      rw [List.length_map] at hsv
      replace hsv : sv = .slice ta s.se.length tc := hsv
      have HE := Lib.hid (rstep_eq s n)
      have hl : s.se.length ≤ 1000 := HK.out.se
      clear hp1 hown HT hcN
      by_cases hlk : (rtold s n).1 = true
      · rw [hlk]
        rw [hlk, if_pos rfl] at HE
        clear hlk
        rw [hsv] at hse
        go_upto_region 4 with fail
        have HOW2 := Lib.hid (show Wk.Own X w0.heap.size 57 5 (.slice ta s.se.length tc) (s.se.map seenCells) by rw [← hsv]; exact HOW.out)
        have hz0 := HP1.out.bel.size
        have HNR := Lib.hid (show ∀ k, (Value.slice ta s.se.length tc).ownBlock = some k → k ≠ N by
          intro k hk e
          subst e
          rw [← hsv] at hk
          exact HCN.out (HP1.out.cs k hk))
        have HNRB := Lib.hid (show ∀ k, (Value.slice ta s.se.length tc).ownBlock = some k → k ≠ B by
          intro k hk e
          subst e
          rw [← hsv] at hk
          have := HP1.out.cs k hk
          have := HP1.out.cB
          omega)
        have hBN : B ≠ N := fun e => hNB e.symm
        refine wp_region_held_drew (S := (fun w' => w'.cell? ⟨N, 0, none⟩ = some (.int .i64 0) ∧ w'.cell? ⟨N, 1, none⟩ = some (.int .i64 ((rtold s n).2.1 : Nat)) ∧ w'.cell? ⟨N, 2, none⟩ = some (.int .i64 ((rtold s n).2.2.1 : Nat)))) (by kernel_rfl) ?_ (fun hHeld => ?_)
        · ((try dsimp only); (first | (first | (go_simp; done) | (simp [*, go_sem, World.cell?_alloc_past]; done) | (simp [*, go_sem, World.cell?_alloc_past, World.cell?_setCell_far]; done)) | exact ⟨(World.cell?_alloc_some _ _ _ (by first | (rw [m0]; rfl) | simp [m0])).trans (by first | exact m0 | exact hHeld.1), (World.cell?_alloc_some _ _ _ (by first | (rw [m1]; rfl) | simp [m1])).trans (by first | exact m1 | exact hHeld.2.1), (World.cell?_alloc_some _ _ _ (by first | (rw [m2]; rfl) | simp [m2])).trans (by first | exact m2 | exact hHeld.2.2)⟩ | exact ⟨(hNC 0).trans hHeld.1, (hNC 1).trans hHeld.2.1, (hNC 2).trans hHeld.2.2⟩))
        (refine wpAnyH_take (i := 0) (oi := _) (v := ?_) (by simp only [List.getElem?_toArray, List.getElem?_cons_zero, List.getElem?_cons_succ]; rfl) (by kernel_rfl) (by decide +kernel) (by decide +kernel) (by exact fun _ _ _ h => h) (Or.inl ⟨by rfl, ?_⟩) (by assumption) ?_; rotate_left; (· ((intro w hSw); (try dsimp only at hSw); go_simp; (try with_reducible rfl))); (try simp only [Act.put, List.setIfInBounds_toArray, List.set_cons_zero, List.set_cons_succ]))
        (refine wpAnyH_take (i := 1) (oi := _) (v := ?_) (by simp only [List.getElem?_toArray, List.getElem?_cons_zero, List.getElem?_cons_succ]; rfl) (by kernel_rfl) (by decide +kernel) (by decide +kernel) (by exact fun _ _ _ h => h) (Or.inl ⟨by rfl, ?_⟩) (by assumption) ?_; rotate_left; (· ((intro w hSw); (try dsimp only at hSw); go_simp; (try with_reducible rfl))); (try simp only [Act.put, List.setIfInBounds_toArray, List.set_cons_zero, List.set_cons_succ]))
        (refine wpAnyH_take (i := 2) (oi := _) (v := ?_) (by simp only [List.getElem?_toArray, List.getElem?_cons_zero, List.getElem?_cons_succ]; rfl) (by kernel_rfl) (by decide +kernel) (by decide +kernel) (by exact fun _ _ _ h => h) (Or.inl ⟨by rfl, ?_⟩) (by assumption) ?_; rotate_left; (· ((intro w hSw); (try dsimp only at hSw); go_simp; (try with_reducible rfl))); (try simp only [Act.put, List.setIfInBounds_toArray, List.set_cons_zero, List.set_cons_succ]))
        (refine wpAnyH_take (i := 3) (oi := _) (v := ?_) (by simp only [List.getElem?_toArray, List.getElem?_cons_zero, List.getElem?_cons_succ]; rfl) (by kernel_rfl) (by decide +kernel) (by decide +kernel) (by exact fun _ _ _ h => h) (Or.inl ⟨by rfl, ?_⟩) (by assumption) ?_; rotate_left; (· ((intro w hSw); (try dsimp only at hSw); go_simp; (try with_reducible rfl))); (try simp only [Act.put, List.setIfInBounds_toArray, List.set_cons_zero, List.set_cons_succ]))
        (refine wpAnyH_take (i := 5) (oi := _) (v := ?_) (by simp only [List.getElem?_toArray, List.getElem?_cons_zero, List.getElem?_cons_succ]; rfl) (by kernel_rfl) (by decide +kernel) (by decide +kernel) (by exact fun _ _ _ h => h) (Or.inl ⟨by rfl, ?_⟩) (by assumption) ?_; rotate_left; (· ((intro w hSw); (try dsimp only at hSw); go_simp; (try with_reducible rfl))); (try simp only [Act.put, List.setIfInBounds_toArray, List.set_cons_zero, List.set_cons_succ]))
        (refine wpAnyH_take (i := 6) (oi := _) (v := ?_) (by simp only [List.getElem?_toArray, List.getElem?_cons_zero, List.getElem?_cons_succ]; rfl) (by kernel_rfl) (by decide +kernel) (by decide +kernel) (by exact fun _ _ _ h => h) (Or.inl ⟨by rfl, ?_⟩) (by assumption) ?_; rotate_left; (· ((intro w hSw); (try dsimp only at hSw); go_simp; (try with_reducible rfl))); (try simp only [Act.put, List.setIfInBounds_toArray, List.set_cons_zero, List.set_cons_succ]))
        (refine wpAnyH_take (i := 7) (oi := _) (v := ?_) (by simp only [List.getElem?_toArray, List.getElem?_cons_zero, List.getElem?_cons_succ]; rfl) (by kernel_rfl) (by decide +kernel) (by decide +kernel) (by exact fun _ _ _ h => h) (Or.inl ⟨by rfl, ?_⟩) (by assumption) ?_; rotate_left; (· ((intro w hSw); (try dsimp only at hSw); go_simp; (try with_reducible rfl))); (try simp only [Act.put, List.setIfInBounds_toArray, List.set_cons_zero, List.set_cons_succ]))
        (refine wpAnyH_take (i := 8) (oi := _) (v := ?_) (by simp only [List.getElem?_toArray, List.getElem?_cons_zero, List.getElem?_cons_succ]; rfl) (by kernel_rfl) (by decide +kernel) (by decide +kernel) (by exact fun _ _ _ h => h) (Or.inl ⟨by rfl, ?_⟩) (by assumption) ?_; rotate_left; (· ((intro w hSw); (try dsimp only at hSw); go_simp; (try with_reducible rfl))); (try simp only [Act.put, List.setIfInBounds_toArray, List.set_cons_zero, List.set_cons_succ]))
        repeat' (first
          | (refine wpAnyH_take (i := 11) (oi := _) (v := ?_) (by simp only [List.getElem?_toArray, List.getElem?_cons_zero, List.getElem?_cons_succ]; rfl) (by kernel_rfl) (by decide +kernel) (by decide +kernel) (by exact fun _ _ _ h => h) (Or.inl ⟨by rfl, ?_⟩) (by assumption) ?_; rotate_left; (· ((intro w hSw); (try dsimp only at hSw); go_simp; (try with_reducible rfl))); (try simp only [Act.put, List.setIfInBounds_toArray, List.set_cons_zero, List.set_cons_succ]))
          | (refine wpAnyH_take (i := 12) (oi := _) (v := ?_) (by simp only [List.getElem?_toArray, List.getElem?_cons_zero, List.getElem?_cons_succ]; rfl) (by kernel_rfl) (by decide +kernel) (by decide +kernel) (by exact fun _ _ _ h => h) (Or.inl ⟨by rfl, ?_⟩) (by assumption) ?_; rotate_left; (· ((intro w hSw); (try dsimp only at hSw); go_simp; (try with_reducible rfl))); (try simp only [Act.put, List.setIfInBounds_toArray, List.set_cons_zero, List.set_cons_succ]))
          | (refine wpAnyH_ready (rs := [4, 9]) (by decide +kernel) (by simp) (AllReadyH.cons (by simp only [List.getElem?_toArray, List.getElem?_cons_zero, List.getElem?_cons_succ]; rfl) (fun K hK => ?_) (AllReadyH.cons (by simp only [List.getElem?_toArray, List.getElem?_cons_zero, List.getElem?_cons_succ]; rfl) (fun K hK => ?_) AllReadyH.nil)); all_goals ((first | (refine step_append_at rfl (.tmp 34) (.tmp 39) 49 57 5 40 _ rfl eiSeen w0.heap.size (.slice ta s.se.length tc) (s.se.map seenCells) rfl ((HOW2.out.dr).alloc _) (.slice (some ⟨_, 0, none⟩) 1 1) [seenCells ⟨n, (rtold s n).2.1, (rtold s n).2.2.1, (rtold s n).2.2.2⟩] rfl (sl_new (c := seenCells ⟨n, (rtold s n).2.1, (rtold s n).2.2.1, (rtold s n).2.2.2⟩) (by first | rfl | simp) rfl) (by intro c hc; simp at hc; subst hc; exact seenCells_one _) (by simp; omega) (by decide) (by simp; omega) (by simp) ?_; intro vC wC hownC hgrC hbC hatC; (have hNC := fun j => World.cell?_of_block (a := ⟨N, j, none⟩) (hgrC.block N (by simp; omega) (fun e => HNR.out N e.symm rfl))); (have hB23 := World.cell?_of_block (a := ⟨B, 23, none⟩) (hgrC.block B (by simp; omega) (fun e => HNRB.out B e.symm rfl))); (have hF23 := World.frozen?_of_block (a := ⟨B, 23, none⟩) (hgrC.block B (by simp; omega) (fun e => HNRB.out B e.symm rfl))); (have hszC := hgrC.size); obtain ⟨aC, cC, hshC⟩ := hownC.shape; subst hshC) | (go_simp; (first | fail | skip))); (refine hK.out _ _ ?_ (fun hHeld => ?_)); (· ((try dsimp only); (first | (first | (go_simp; done) | (simp [*, go_sem, World.cell?_alloc_past]; done) | (simp [*, go_sem, World.cell?_alloc_past, World.cell?_setCell_far]; done)) | exact ⟨(World.cell?_alloc_some _ _ _ (by first | (rw [m0]; rfl) | simp [m0])).trans (by first | exact m0 | exact hHeld.1), (World.cell?_alloc_some _ _ _ (by first | (rw [m1]; rfl) | simp [m1])).trans (by first | exact m1 | exact hHeld.2.1), (World.cell?_alloc_some _ _ _ (by first | (rw [m2]; rfl) | simp [m2])).trans (by first | exact m2 | exact hHeld.2.2)⟩ | exact ⟨(hNC 0).trans hHeld.1, (hNC 1).trans hHeld.2.1, (hNC 2).trans hHeld.2.2⟩))); (clear hK K; (try simp only [Act.put, List.setIfInBounds_toArray, List.set_cons_zero, List.set_cons_succ]))))
          | (refine wpAnyH_ready (rs := [9]) (by decide +kernel) (by simp) (AllReadyH.cons (by simp only [List.getElem?_toArray, List.getElem?_cons_zero, List.getElem?_cons_succ]; rfl) (fun K hK => ?_) AllReadyH.nil); all_goals ((first | (refine step_append_at rfl (.tmp 34) (.tmp 39) 49 57 5 40 _ rfl eiSeen w0.heap.size (.slice ta s.se.length tc) (s.se.map seenCells) rfl ((HOW2.out.dr).alloc _) (.slice (some ⟨_, 0, none⟩) 1 1) [seenCells ⟨n, (rtold s n).2.1, (rtold s n).2.2.1, (rtold s n).2.2.2⟩] rfl (sl_new (c := seenCells ⟨n, (rtold s n).2.1, (rtold s n).2.2.1, (rtold s n).2.2.2⟩) (by first | rfl | simp) rfl) (by intro c hc; simp at hc; subst hc; exact seenCells_one _) (by simp; omega) (by decide) (by simp; omega) (by simp) ?_; intro vC wC hownC hgrC hbC hatC; (have hNC := fun j => World.cell?_of_block (a := ⟨N, j, none⟩) (hgrC.block N (by simp; omega) (fun e => HNR.out N e.symm rfl))); (have hB23 := World.cell?_of_block (a := ⟨B, 23, none⟩) (hgrC.block B (by simp; omega) (fun e => HNRB.out B e.symm rfl))); (have hF23 := World.frozen?_of_block (a := ⟨B, 23, none⟩) (hgrC.block B (by simp; omega) (fun e => HNRB.out B e.symm rfl))); (have hszC := hgrC.size); obtain ⟨aC, cC, hshC⟩ := hownC.shape; subst hshC) | (go_simp; (first | fail | skip))); (refine hK.out _ _ ?_ (fun hHeld => ?_)); (· ((try dsimp only); (first | (first | (go_simp; done) | (simp [*, go_sem, World.cell?_alloc_past]; done) | (simp [*, go_sem, World.cell?_alloc_past, World.cell?_setCell_far]; done)) | exact ⟨(World.cell?_alloc_some _ _ _ (by first | (rw [m0]; rfl) | simp [m0])).trans (by first | exact m0 | exact hHeld.1), (World.cell?_alloc_some _ _ _ (by first | (rw [m1]; rfl) | simp [m1])).trans (by first | exact m1 | exact hHeld.2.1), (World.cell?_alloc_some _ _ _ (by first | (rw [m2]; rfl) | simp [m2])).trans (by first | exact m2 | exact hHeld.2.2)⟩ | exact ⟨(hNC 0).trans hHeld.1, (hNC 1).trans hHeld.2.1, (hNC 2).trans hHeld.2.2⟩))); (clear hK K; (try simp only [Act.put, List.setIfInBounds_toArray, List.set_cons_zero, List.set_cons_succ]))))
          | (refine wpAnyH_ready (rs := [4]) (by decide +kernel) (by simp) (AllReadyH.cons (by simp only [List.getElem?_toArray, List.getElem?_cons_zero, List.getElem?_cons_succ]; rfl) (fun K hK => ?_) AllReadyH.nil); all_goals ((first | (refine step_append_at rfl (.tmp 34) (.tmp 39) 49 57 5 40 _ rfl eiSeen w0.heap.size (.slice ta s.se.length tc) (s.se.map seenCells) rfl ((HOW2.out.dr).alloc _) (.slice (some ⟨_, 0, none⟩) 1 1) [seenCells ⟨n, (rtold s n).2.1, (rtold s n).2.2.1, (rtold s n).2.2.2⟩] rfl (sl_new (c := seenCells ⟨n, (rtold s n).2.1, (rtold s n).2.2.1, (rtold s n).2.2.2⟩) (by first | rfl | simp) rfl) (by intro c hc; simp at hc; subst hc; exact seenCells_one _) (by simp; omega) (by decide) (by simp; omega) (by simp) ?_; intro vC wC hownC hgrC hbC hatC; (have hNC := fun j => World.cell?_of_block (a := ⟨N, j, none⟩) (hgrC.block N (by simp; omega) (fun e => HNR.out N e.symm rfl))); (have hB23 := World.cell?_of_block (a := ⟨B, 23, none⟩) (hgrC.block B (by simp; omega) (fun e => HNRB.out B e.symm rfl))); (have hF23 := World.frozen?_of_block (a := ⟨B, 23, none⟩) (hgrC.block B (by simp; omega) (fun e => HNRB.out B e.symm rfl))); (have hszC := hgrC.size); obtain ⟨aC, cC, hshC⟩ := hownC.shape; subst hshC) | (go_simp; (first | fail | skip))); (refine hK.out _ _ ?_ (fun hHeld => ?_)); (· ((try dsimp only); (first | (first | (go_simp; done) | (simp [*, go_sem, World.cell?_alloc_past]; done) | (simp [*, go_sem, World.cell?_alloc_past, World.cell?_setCell_far]; done)) | exact ⟨(World.cell?_alloc_some _ _ _ (by first | (rw [m0]; rfl) | simp [m0])).trans (by first | exact m0 | exact hHeld.1), (World.cell?_alloc_some _ _ _ (by first | (rw [m1]; rfl) | simp [m1])).trans (by first | exact m1 | exact hHeld.2.1), (World.cell?_alloc_some _ _ _ (by first | (rw [m2]; rfl) | simp [m2])).trans (by first | exact m2 | exact hHeld.2.2)⟩ | exact ⟨(hNC 0).trans hHeld.1, (hNC 1).trans hHeld.2.1, (hNC 2).trans hHeld.2.2⟩))); (clear hK K; (try simp only [Act.put, List.setIfInBounds_toArray, List.set_cons_zero, List.set_cons_succ]))))
          | (refine wpAnyH_ready (rs := [10]) (by decide +kernel) (by simp) (AllReadyH.cons (by simp only [List.getElem?_toArray, List.getElem?_cons_zero, List.getElem?_cons_succ]; rfl) (fun K hK => ?_) AllReadyH.nil); all_goals ((first | (refine step_append_at rfl (.tmp 34) (.tmp 39) 49 57 5 40 _ rfl eiSeen w0.heap.size (.slice ta s.se.length tc) (s.se.map seenCells) rfl ((HOW2.out.dr).alloc _) (.slice (some ⟨_, 0, none⟩) 1 1) [seenCells ⟨n, (rtold s n).2.1, (rtold s n).2.2.1, (rtold s n).2.2.2⟩] rfl (sl_new (c := seenCells ⟨n, (rtold s n).2.1, (rtold s n).2.2.1, (rtold s n).2.2.2⟩) (by first | rfl | simp) rfl) (by intro c hc; simp at hc; subst hc; exact seenCells_one _) (by simp; omega) (by decide) (by simp; omega) (by simp) ?_; intro vC wC hownC hgrC hbC hatC; (have hNC := fun j => World.cell?_of_block (a := ⟨N, j, none⟩) (hgrC.block N (by simp; omega) (fun e => HNR.out N e.symm rfl))); (have hB23 := World.cell?_of_block (a := ⟨B, 23, none⟩) (hgrC.block B (by simp; omega) (fun e => HNRB.out B e.symm rfl))); (have hF23 := World.frozen?_of_block (a := ⟨B, 23, none⟩) (hgrC.block B (by simp; omega) (fun e => HNRB.out B e.symm rfl))); (have hszC := hgrC.size); obtain ⟨aC, cC, hshC⟩ := hownC.shape; subst hshC) | (go_simp; (first | fail | skip))); (refine hK.out _ _ ?_ (fun hHeld => ?_)); (· ((try dsimp only); (first | (first | (go_simp; done) | (simp [*, go_sem, World.cell?_alloc_past]; done) | (simp [*, go_sem, World.cell?_alloc_past, World.cell?_setCell_far]; done)) | exact ⟨(World.cell?_alloc_some _ _ _ (by first | (rw [m0]; rfl) | simp [m0])).trans (by first | exact m0 | exact hHeld.1), (World.cell?_alloc_some _ _ _ (by first | (rw [m1]; rfl) | simp [m1])).trans (by first | exact m1 | exact hHeld.2.1), (World.cell?_alloc_some _ _ _ (by first | (rw [m2]; rfl) | simp [m2])).trans (by first | exact m2 | exact hHeld.2.2)⟩ | exact ⟨(hNC 0).trans hHeld.1, (hNC 1).trans hHeld.2.1, (hNC 2).trans hHeld.2.2⟩))); (clear hK K; (try simp only [Act.put, List.setIfInBounds_toArray, List.set_cons_zero, List.set_cons_succ]))))
          | (refine wpAnyH_ready (rs := [13]) (by decide +kernel) (by simp) (AllReadyH.cons (by simp only [List.getElem?_toArray, List.getElem?_cons_zero, List.getElem?_cons_succ]; rfl) (fun K hK => ?_) AllReadyH.nil); all_goals ((first | (refine step_append_at rfl (.tmp 34) (.tmp 39) 49 57 5 40 _ rfl eiSeen w0.heap.size (.slice ta s.se.length tc) (s.se.map seenCells) rfl ((HOW2.out.dr).alloc _) (.slice (some ⟨_, 0, none⟩) 1 1) [seenCells ⟨n, (rtold s n).2.1, (rtold s n).2.2.1, (rtold s n).2.2.2⟩] rfl (sl_new (c := seenCells ⟨n, (rtold s n).2.1, (rtold s n).2.2.1, (rtold s n).2.2.2⟩) (by first | rfl | simp) rfl) (by intro c hc; simp at hc; subst hc; exact seenCells_one _) (by simp; omega) (by decide) (by simp; omega) (by simp) ?_; intro vC wC hownC hgrC hbC hatC; (have hNC := fun j => World.cell?_of_block (a := ⟨N, j, none⟩) (hgrC.block N (by simp; omega) (fun e => HNR.out N e.symm rfl))); (have hB23 := World.cell?_of_block (a := ⟨B, 23, none⟩) (hgrC.block B (by simp; omega) (fun e => HNRB.out B e.symm rfl))); (have hF23 := World.frozen?_of_block (a := ⟨B, 23, none⟩) (hgrC.block B (by simp; omega) (fun e => HNRB.out B e.symm rfl))); (have hszC := hgrC.size); obtain ⟨aC, cC, hshC⟩ := hownC.shape; subst hshC) | (go_simp; (first | fail | skip))); (refine hK.out _ _ ?_ (fun hHeld => ?_)); (· ((try dsimp only); (first | (first | (go_simp; done) | (simp [*, go_sem, World.cell?_alloc_past]; done) | (simp [*, go_sem, World.cell?_alloc_past, World.cell?_setCell_far]; done)) | exact ⟨(World.cell?_alloc_some _ _ _ (by first | (rw [m0]; rfl) | simp [m0])).trans (by first | exact m0 | exact hHeld.1), (World.cell?_alloc_some _ _ _ (by first | (rw [m1]; rfl) | simp [m1])).trans (by first | exact m1 | exact hHeld.2.1), (World.cell?_alloc_some _ _ _ (by first | (rw [m2]; rfl) | simp [m2])).trans (by first | exact m2 | exact hHeld.2.2)⟩ | exact ⟨(hNC 0).trans hHeld.1, (hNC 1).trans hHeld.2.1, (hNC 2).trans hHeld.2.2⟩))); (clear hK K; (try simp only [Act.put, List.setIfInBounds_toArray, List.set_cons_zero, List.set_cons_succ]))))
          | (refine wpAnyH_done (by decide +kernel) ?_ _)
          | fail)
        all_goals
          go_end0
          have hfin := HP1.out.grown (x := ⟨n, (rtold s n).2.1, (rtold s n).2.2.1, (rtold s n).2.2.2⟩) (((Below.refl X.heap.size X).drew).alloc (by simp) _) (by rw [hsv]; exact hgrC) hownC (by rw [hsv]; exact hatC)
          obtain ⟨hf1, hf2⟩ := hfin
          simp only [List.length_append, List.length_map, List.length_cons, List.length_nil, Nat.zero_add] at hf1 hf2
          refine ⟨rfl, ?_, Nat.le_trans HZ.out hf2⟩
          have e2 : pstep s n = { rmove s n with se := s.se ++ [⟨n, (rtold s n).2.1, (rtold s n).2.2.1, (rtold s n).2.2.2⟩] } := by
            unfold pstep
            rw [if_neg (by omega), HE.out]
          rw [e2]
          exact ⟨_, _, _, _, hf1⟩
      · have hlk' : (rtold s n).1 = false := by simpa using hlk
        rw [hlk']
        have HE2 : Hid (pstep s n = rmove s n) := Lib.hid (by
          have := HE.out
          rw [if_neg hlk, List.append_nil] at this
          unfold pstep
          rw [if_neg (by omega), this]
          rfl)
        clear hlk hlk'
        go_wp2
        go_returns
        refine ⟨rfl, ⟨c1, r1, wv, sv, ?_⟩, HZ.out⟩
        rw [HE2.out]
        exact HP1.out
end Go.Proofs.Ytllemhknmleklaa
