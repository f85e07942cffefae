
/- Contract: delta.Of: what two tables part by. -/
import Derived.Test.YteadfobfenopkaaDel
set_option linter.unusedVariables false
set_option linter.unusedSimpArgs false
namespace Go.Proofs.Yteadfobfenopkaa
open Go Go.RowKit Go.Sort Wc Wk

def lenOfV : Value → Nat | .slice _ n _ => n | _ => 0
structure OfSt (w : World) (L M : List (Nat × Nat × Nat)) (i j : Nat) (a0 : Option Addr) (la c0 : Nat) (b0 : Option Addr) (lb d0 : Nat) : Prop where
  il : i + la = L.length
  jm : j + lb = M.length
  mg : Mrg L M i j
  sa : Sl w 5 (.slice a0 la c0) ((L.drop i).map routeCells)
  sb : Sl w 5 (.slice b0 lb d0) ((M.drop j).map routeCells)
structure OfOwn (w wr : World) (cs ps : List ActD) (u v : Value) : Prop where
  oc : Wk.Own wr w.heap.size 35 9 u (cs.map actCells)
  op : Wk.Own wr w.heap.size 35 9 v (ps.map actCells)
  ap : Apart u v
  lc : cs.length ≤ 60
  lp : ps.length ≤ 60
  bl : Below w.heap.size w wr
theorem OfOwn.below {w wr w' : World} {cs ps : List ActD} {u v : Value} (h : OfOwn w wr cs ps u v) (hb : Below wr.heap.size wr w') : OfOwn w w' cs ps u v :=
  ⟨h.oc.below hb, h.op.below hb, h.ap, h.lc, h.lp, h.bl.trans (hb.mono h.bl.size)⟩
theorem OfOwn.cut {w wr w' : World} {cs ps : List ActD} {u v u' : Value} {x : ActD} (h : OfOwn w wr cs ps u v) (hl : cs.length < 60) (g : wr.grownBy w' u.ownBlock) (ho : Wk.Own w' w.heap.size 35 9 u' (cs.map actCells ++ [actCells x]))
    (hb : Below w.heap.size wr w') (hv : u'.ownBlock = u.ownBlock ∨ u'.ownBlock = some wr.heap.size) : OfOwn w w' (cs ++ [x]) ps u' v :=
  ⟨by rw [List.map_append]; exact ho, h.ap.symm.keeps h.op g, (h.ap.symm.grown h.op hv).symm, by simp; omega, h.lp, h.bl.trans hb⟩
theorem OfOwn.put {w wr w' : World} {cs ps : List ActD} {u v v' : Value} {x : ActD} (h : OfOwn w wr cs ps u v) (hl : ps.length < 60) (g : wr.grownBy w' v.ownBlock) (ho : Wk.Own w' w.heap.size 35 9 v' (ps.map actCells ++ [actCells x]))
    (hb : Below w.heap.size wr w') (hv : v'.ownBlock = v.ownBlock ∨ v'.ownBlock = some wr.heap.size) : OfOwn w w' cs (ps ++ [x]) u v' :=
  ⟨h.ap.keeps h.oc g, by rw [List.map_append]; exact ho, h.ap.grown h.oc hv, h.lc, by simp; omega, h.bl.trans hb⟩
theorem Sl.first {w w' : World} {a : Option Addr} {n cap : Nat} {xs : List (Nat × Nat × Nat)} {i : Nat} {x : Nat × Nat × Nat} (hs : Sl w 5 (.slice a n cap) ((xs.drop i).map routeCells)) (hb : Below w.heap.size w w') (hx : xs[i]? = some x) :
    ∃ b off, a = some ⟨b, off, none⟩ ∧ b < w.heap.size ∧ w'.cell? ⟨b, off, none⟩ = some (.bool false) ∧ w'.cell? ⟨b, off + 1, none⟩ = some (.int .u64 (hiOf false x.1)) ∧ w'.cell? ⟨b, off + 2, none⟩ = some (.int .u64 (loOf x.1)) ∧ w'.cell? ⟨b, off + 3, none⟩ = some (.int .i64 x.2.1) ∧ w'.cell? ⟨b, off + 4, none⟩ = some (.int .i64 x.2.2) := by
  have h := Sl.route hs hb (i := 0) (r := x) (by rw [List.getElem?_drop]; simpa using hx)
  simpa using h
theorem cuts_len {L M : List (Nat × Nat × Nat)} (i : Nat) (h : L.length ≤ 60) : (cutsOf (L.take i) M).length ≤ i ∧ (cutsOf (L.take i) M).length ≤ 60 := by
  unfold cutsOf
  rw [List.length_map]
  have := List.length_filter_le (fun x : Nat × Nat × Nat => decide (hasL M x.1 x.2.1 = 0)) (L.take i)
  rw [List.length_take] at this
  omega
theorem puts_len {L M : List (Nat × Nat × Nat)} (j : Nat) (h : M.length ≤ 60) : (putsOf L (M.take j)).length ≤ j ∧ (putsOf L (M.take j)).length ≤ 60 := by
  unfold putsOf
  rw [List.length_map]
  have := List.length_filter_le (fun y : Nat × Nat × Nat => decide (hasL L y.1 y.2.1 ≠ y.2.2)) (M.take j)
  rw [List.length_take] at this
  omega


set_option maxRecDepth 100000 in
set_option maxHeartbeats 4000000 in
theorem dof_any (a : Option Addr) (ca n : Nat) (b : Option Addr) (cb m : Nat) (L M : List (Nat × Nat × Nat)) (w : World) (hn : n = L.length) (hm : m = M.length) (ha : Sl w 5 (.slice a n ca) (L.map routeCells)) (hb : Sl w 5 (.slice b m cb) (M.map routeCells)) (t : TabOk L) (s : TabOk M) :
    Calls Try.prog 47 #[.slice a n ca, .slice b m cb] w fun e w' => ∃ v, e = .returned v ∧ Wk.Own w' w.heap.size 35 9 v ((diffL L M).map actCells) ∧ Below w.heap.size w w' := by
  have HL := Lib.hid t
  have HM := Lib.hid s
  have HS0 := Lib.hid (show OfSt w L M 0 0 a n ca b m cb from ⟨by omega, by omega, Mrg.zero L M, ha, hb⟩)
  have l60 := t.len
  have m60 := s.len
  have a1 := ha.lens.2.1
  have a2 := ha.lens.2.2
  have b1 := hb.lens.2.1
  have b2 := hb.lens.2.2
  have hn60 : n ≤ 60 := by omega
  have hm60 : m ≤ 60 := by omega
  clear t s ha hb hn hm
  go_enter Try.func47, Try.ntmps47
  go_wp2_with fail
  go_loopw [0, 1, 5, 6] (fun u0 u1 u5 u6 wr => ∃ (i j la lb : Nat) (a0 : Option Addr) (c0 : Nat) (b0 : Option Addr) (d0 : Nat), u0 = .slice a0 la c0 ∧ u1 = .slice b0 lb d0 ∧ Hid (OfSt w L M i j a0 la c0 b0 lb d0) ∧ la ≤ 60 ∧ lb ≤ 60 ∧ Hid (OfOwn w wr (cutsOf (L.take i) M) (putsOf L (M.take j)) u5 u6)) (fun u0 u1 _ _ _ => lenOfV u0 + lenOfV u1)
  case atStart => exact ⟨0, 0, n, m, a, ca, b, cb, rfl, rfl, HS0, hn60, hm60, ⟨Wk.Own.nil _ _ _ _, Wk.Own.nil _ _ _ _, Apart.nil none _, Nat.zero_le _, Nat.zero_le _, Below.refl _ _⟩⟩
  case round =>
    obtain ⟨i, j, la, lb, a0, c0, b0, d0, rfl, rfl, HS, hla, hlb, HO⟩ := hrel
    have hzr := HO.out.bl.size
    by_cases hend : la = 0 ∧ lb = 0
    · obtain ⟨rfl, rfl⟩ := hend
      go_wp2_with (at_builtin; refine stop_at ?_; intro G hG)
      rw [← hG.out]; clear hG G
      have hi : i = L.length := by have := HS.out.il; omega
      have hj : j = M.length := by have := HS.out.jm; omega
      rw [hi, hj, List.take_of_length_le (Nat.le_refl _), List.take_of_length_le (Nat.le_refl _)] at HO
      have HLC := Lib.hid (HO.out.lc)
      have HLP := Lib.hid (HO.out.lp)
      refine wpList_append_any rfl _ _ 28 35 9 72 _ rfl eiAct w.heap.size u5 ((cutsOf L M).map actCells) rfl HO.out.oc u6 ((putsOf L M).map actCells) rfl HO.out.op.sl (by intro c hc; obtain ⟨r, _, rfl⟩ := List.mem_map.1 hc; exact actCells_one r) (by have := HLC.out; have := HLP.out; simp; omega) (by decide) hzr ?_
      intro v5 w5 hown5 hb5
      obtain ⟨a5, c5, h5⟩ := hown5.shape
      have HO5 := Lib.hid (show Wk.Own w5 w.heap.size 35 9 v5 ((diffL L M).map actCells) by unfold diffL; rw [List.map_append]; exact hown5)
      have HB5 := Lib.hid (HO.out.bl.trans hb5)
      clear hown5 hb5 hi hj
      rw [List.length_append, List.length_map, List.length_map] at h5
      subst h5
      go_wp2_with fail
      go_returns
      exact ⟨_, rfl, HO5.out, HB5.out⟩
    · have hd0 : (0 < la ∨ 0 < lb) := by omega
      go_upto_block 2 with fail
      all_goals
        clear hend hd0
        obtain ⟨W, hW⟩ : ∃ W, W = wr := ⟨_, rfl⟩
        subst hW
        go_cut [7] (fun v7 wx => ∃ sd : Int, v7 = .int .i64 sd ∧ Hid (SideOk L M i j sd) ∧ -100 ≤ sd ∧ sd ≤ 100 ∧ Hid (Below W.heap.size W wx))
        case first =>
          by_cases hb0 : lb = 0
          · subst hb0
            obtain ⟨x, hx⟩ : ∃ x, L[i]? = some x := ⟨_, List.getElem?_eq_getElem (by have := HS.out.il; omega)⟩
            have HSD := Lib.hid (show SideOk L M i j (-1) from .inl ⟨by decide, x, hx, fun y hy => by
              have := (List.getElem?_eq_some_iff.1 hy).1
              have := HS.out.jm
              omega⟩)
            clear hx
            go_wp2_with fail
            go_meet
            exact ⟨-1, rfl, HSD, by decide, by decide, Below.refl _ _⟩
          · by_cases ha0 : la = 0
            · subst ha0
              obtain ⟨y, hy⟩ : ∃ y, M[j]? = some y := ⟨_, List.getElem?_eq_getElem (by have := HS.out.jm; omega)⟩
              have HSD := Lib.hid (show SideOk L M i j 1 from .inr (.inl ⟨by decide, y, hy, fun x hx => by
                have := (List.getElem?_eq_some_iff.1 hx).1
                have := HS.out.il
                omega⟩))
              have hb0' : ¬ ((lb : Int) = 0) := by omega
              have hb0'' : ((lb : Int) == 0) = false := by rw [beq_eq_false_iff_ne]; exact hb0'
              clear hy
              go_wp2_with fail
              go_meet
              exact ⟨1, rfl, HSD, by decide, by decide, Below.refl _ _⟩
            · first
              | (exfalso; omega)
              | (
                obtain ⟨x, hx⟩ : ∃ x, L[i]? = some x := ⟨_, List.getElem?_eq_getElem (by have := HS.out.il; omega)⟩
                obtain ⟨y, hy⟩ : ∃ y, M[j]? = some y := ⟨_, List.getElem?_eq_getElem (by have := HS.out.jm; omega)⟩
                obtain ⟨g1, o1, rfl, hg1, c0', c1', c2', c3', _⟩ := Sl.first HS.out.sa HO.out.bl hx
                obtain ⟨g2, o2, rfl, hg2, e0, e1, e2, e3, _⟩ := Sl.first HS.out.sb HO.out.bl hy
                have vx := HL.out.vp x (List.mem_of_getElem? hx)
                have vy := HM.out.vp y (List.mem_of_getElem? hy)
                have HSD := Lib.hid (sideOk_ord hx hy)
                have OR := Lib.hid (fun w => order_any x y w vx vy)
                obtain ⟨sd1, sd2⟩ := ordV_bd vx vy
                generalize ordV x y = sd at *
                have hb0' : ¬ ((lb : Int) = 0) := by omega
                have hb0'' : ((lb : Int) == 0) = false := by rw [beq_eq_false_iff_ne]; exact hb0'
                have ha0' : ¬ ((la : Int) = 0) := by omega
                have ha0'' : ((la : Int) == 0) = false := by rw [beq_eq_false_iff_ne]; exact ha0'
                have hla1 : 0 < la := by omega
                have hlb1 : 0 < lb := by omega
                have hg1w : g1 < W.heap.size := by omega
                have hg2w : g2 < W.heap.size := by omega
                clear hx hy vx vy ha0 hb0
                go_wp2_with fail
                refine wp_region_qb (by kernel_rfl) (by kernel_rfl) (fun kq => ?_)
                repeat (quiet_step (first | (with_reducible exact Calls.regrown_of (OR.out _))))
                clear kq
                refine wpQuiet_nil ?_; intro w4 hb4; (repeat (with_reducible (replace hb4 := Below.undrew hb4))); obtain ⟨hc4, hf4⟩ := bcell hb4; have hz4 := hb4.size; (repeat (first | rw [World.size_alloc] at hz4 | rw [World.size_drew] at hz4 | rw [World.size_setCell] at hz4)); (try have : wr.heap.size < w4.heap.size := by omega); (try have : wr.heap.size < w4.heap.size + 1 := by omega); (try have : wr.heap.size < w4.heap.size + 1 + 1 := by omega); (try have : wr.heap.size < w4.heap.size + 1 + 1 + 1 := by omega); (try have : wr.heap.size + 1 < w4.heap.size := by omega); (try have : wr.heap.size + 1 < w4.heap.size + 1 := by omega); (try have : wr.heap.size + 1 < w4.heap.size + 1 + 1 := by omega); (try have : wr.heap.size + 1 < w4.heap.size + 1 + 1 + 1 := by omega)
                go_wp2_with fail
                go_meet
                exact ⟨sd, rfl, HSD, sd1, sd2, hb4⟩)
        case rest =>
          obtain ⟨sd, rfl, HSD, sd1, sd2, HBX⟩ := hcut
          obtain ⟨X, hX⟩ : ∃ X, X = wc := ⟨_, rfl⟩
          subst hX
          have HOX := Lib.hid (HO.out.below HBX.out)
          have hzx := HOX.out.bl.size
          clear HO HBX
          rcases HSD.out with ⟨h, x, hx, hxy⟩ | ⟨h, y, hy, hyx⟩ | ⟨h, x, y, hx, hy, e1, e2⟩
          · obtain ⟨hmg, hno⟩ := HS.out.mg.left HL.out HM.out hx hxy
            have hla1 : 0 < la := by have := (List.getElem?_eq_some_iff.1 hx).1; have := HS.out.il; omega
            first
            | (exfalso; omega)
            | (
              obtain ⟨g1, o1, rfl, hg1, c0', c1', c2', c3', _⟩ := Sl.first HS.out.sa HOX.out.bl hx
              obtain ⟨a2', c2'', htl, hsl⟩ := route_tail HS.out.sa hla1
              have HCS := Lib.hid (cutsOf_snoc M hx)
              rw [if_pos hno] at HCS
              have HLC := Lib.hid (show (cutsOf (L.take i) M).length < 60 by
                have := (cuts_len (M := M) i l60).1
                have := (List.getElem?_eq_some_iff.1 hx).1
                omega)
              have HS2 := Lib.hid (show OfSt w L M (i + 1) j a2' (la - 1) c2'' b0 lb d0 from ⟨by have := HS.out.il; omega, HS.out.jm, hmg, by
                have := hsl
                rw [List.drop_drop] at this
                exact this, HS.out.sb⟩)
              clear hx hxy hmg hno hsl HSD HS
              generalize cutsOf (L.take i) M = cs at *
              have hs1 : decide (sd < 0) = true := decide_eq_true h
              go_wp2_with (at_builtin; refine stop_at ?_; intro G hG)
              rw [← hG.out]; clear hG G
              refine wpList_append_at rfl _ _ 28 35 9 72 _ rfl eiAct w.heap.size u5 (cs.map actCells) rfl (HOX.out.oc.alloc _) _ [actCells (cutAct x)] rfl (sl_new (c := actCells (cutAct x)) (by simp) rfl) (by intro c hc; simp at hc; subst hc; exact actCells_one _) (by have := HLC.out; simp; omega) (by decide) (by simp; omega) (by simp) ?_
              intro v' w5 hown' hgr hb5 hat
              have HO5 := Lib.hid (OfOwn.cut (HOX.out.below ((Below.refl _ _).alloc (Nat.le_refl _) _)) HLC.out hgr hown' hb5 hat)
              clear hown' hgr hb5 hat
              go_wp2_with fail
              go_roundw
              case rel => exact ⟨i + 1, j, la - 1, lb, a2', c2'', b0, d0, rfl, rfl, HS2, by omega, hlb, by rw [HCS.out]; exact HO5⟩
              case measure => simp [lenOfV]; omega)
          · obtain ⟨hmg, hno⟩ := HS.out.mg.swap.left HM.out HL.out hy hyx
            have hlb1 : 0 < lb := by have := (List.getElem?_eq_some_iff.1 hy).1; have := HS.out.jm; omega
            obtain ⟨g2, o2, rfl, hg2, e0, e1, e2, e3, e4⟩ := Sl.first HS.out.sb HOX.out.bl hy
            obtain ⟨b2', d2'', htl, hsl⟩ := route_tail HS.out.sb hlb1
            have HPS := Lib.hid (putsOf_snoc L hy)
            have hy0 := HM.out.hops y (List.mem_of_getElem? hy)
            rw [hno, if_pos (fun e => hy0 e.symm)] at HPS
            have HLP := Lib.hid (show (putsOf L (M.take j)).length < 60 by
              have := (puts_len (L := L) j m60).1
              have := (List.getElem?_eq_some_iff.1 hy).1
              omega)
            have HS2 := Lib.hid (show OfSt w L M i (j + 1) a0 la c0 b2' (lb - 1) d2'' from ⟨HS.out.il, by have := HS.out.jm; omega, hmg.swap, HS.out.sa, by
              have := hsl
              rw [List.drop_drop] at this
              exact this⟩)
            clear hy hyx hmg hno hsl HSD HS hy0
            generalize putsOf L (M.take j) = ps at *
            have hs1 : decide (sd < 0) = false := decide_eq_false (by omega)
            have hs2 : decide (0 < sd) = true := decide_eq_true h
            have hs3 : (sd == 0) = false := by rw [beq_eq_false_iff_ne]; omega
            go_wp2_with fail
            go_quiet (fail)
            generalize hZ : X.drewN _ = Z
            have HOZ := Lib.hid (show OfOwn w Z (cutsOf (L.take i) M) ps u5 u6 from by rw [← hZ]; exact HOX.out.below (below_drewN (Below.refl _ _) _))
            have f0 : Z.cell? ⟨g2, o2, none⟩ = some (.bool false) := by rw [← hZ, World.cell?_drewN]; exact e0
            have f1 : Z.cell? ⟨g2, o2 + 1, none⟩ = some (.int .u64 (hiOf false y.1)) := by rw [← hZ, World.cell?_drewN]; exact e1
            have f2 : Z.cell? ⟨g2, o2 + 2, none⟩ = some (.int .u64 (loOf y.1)) := by rw [← hZ, World.cell?_drewN]; exact e2
            have f3 : Z.cell? ⟨g2, o2 + 3, none⟩ = some (.int .i64 y.2.1) := by rw [← hZ, World.cell?_drewN]; exact e3
            have f4 : Z.cell? ⟨g2, o2 + 4, none⟩ = some (.int .i64 y.2.2) := by rw [← hZ, World.cell?_drewN]; exact e4
            have hzz := HOZ.out.bl.size
            clear hZ e0 e1 e2 e3 e4 HOX hzx
            go_upto_region 13 with fail
            refine wp_region_held_drew (S := (fun w' => Below w.heap.size Z w')) (by kernel_rfl) ?_ (fun hHeld => ?_)
            · ((try dsimp only); (repeat' (first | (with_reducible exact Below.refl _ _) | (with_reducible assumption) | (with_reducible refine Below.alloc ?_ ?_ _) | (with_reducible refine Below.drew ?_) | (with_reducible refine Below.stepG ?_ (by assumption) ?_) | (with_reducible refine Below.setCell ?_ ?_ _) | omega | (dsimp only; omega) | (simp; done) | (simp; omega))))
            (refine wpAnyH_take (i := 0) (oi := _) (v := ?_) (by simp only [List.getElem?_toArray, List.getElem?_cons_zero, List.getElem?_cons_succ]; rfl) (by kernel_rfl) (by decide +kernel) (by decide +kernel) (by exact fun _ _ _ h => h) (Or.inl ⟨by rfl, ?_⟩) (by assumption) ?_; rotate_left; (· ((intro w hSw); (have hSc := Below.cellAt hSw); clear hSw; go_simp; (try with_reducible rfl))); (try simp only [Act.put, List.setIfInBounds_toArray, List.set_cons_zero, List.set_cons_succ]))
            (refine wpAnyH_take (i := 1) (oi := _) (v := ?_) (by simp only [List.getElem?_toArray, List.getElem?_cons_zero, List.getElem?_cons_succ]; rfl) (by kernel_rfl) (by decide +kernel) (by decide +kernel) (by exact fun _ _ _ h => h) (Or.inl ⟨by rfl, ?_⟩) (by assumption) ?_; rotate_left; (· ((intro w hSw); (have hSc := Below.cellAt hSw); clear hSw; go_simp; (try with_reducible rfl))); (try simp only [Act.put, List.setIfInBounds_toArray, List.set_cons_zero, List.set_cons_succ]))
            (refine wpAnyH_take (i := 2) (oi := _) (v := ?_) (by simp only [List.getElem?_toArray, List.getElem?_cons_zero, List.getElem?_cons_succ]; rfl) (by kernel_rfl) (by decide +kernel) (by decide +kernel) (by exact fun _ _ _ h => h) (Or.inl ⟨by rfl, ?_⟩) (by assumption) ?_; rotate_left; (· ((intro w hSw); (have hSc := Below.cellAt hSw); clear hSw; go_simp; (try with_reducible rfl))); (try simp only [Act.put, List.setIfInBounds_toArray, List.set_cons_zero, List.set_cons_succ]))
            (refine wpAnyH_take (i := 3) (oi := _) (v := ?_) (by simp only [List.getElem?_toArray, List.getElem?_cons_zero, List.getElem?_cons_succ]; rfl) (by kernel_rfl) (by decide +kernel) (by decide +kernel) (by exact fun _ _ _ h => h) (Or.inl ⟨by rfl, ?_⟩) (by assumption) ?_; rotate_left; (· ((intro w hSw); (have hSc := Below.cellAt hSw); clear hSw; go_simp; (try with_reducible rfl))); (try simp only [Act.put, List.setIfInBounds_toArray, List.set_cons_zero, List.set_cons_succ]))
            (refine wpAnyH_take (i := 4) (oi := _) (v := ?_) (by simp only [List.getElem?_toArray, List.getElem?_cons_zero, List.getElem?_cons_succ]; rfl) (by kernel_rfl) (by decide +kernel) (by decide +kernel) (by exact fun _ _ _ h => h) (Or.inl ⟨by rfl, ?_⟩) (by assumption) ?_; rotate_left; (· ((intro w hSw); (have hSc := Below.cellAt hSw); clear hSw; go_simp; (try with_reducible rfl))); (try simp only [Act.put, List.setIfInBounds_toArray, List.set_cons_zero, List.set_cons_succ]))
            (refine wpAnyH_take (i := 5) (oi := _) (v := ?_) (by simp only [List.getElem?_toArray, List.getElem?_cons_zero, List.getElem?_cons_succ]; rfl) (by kernel_rfl) (by decide +kernel) (by decide +kernel) (by exact fun _ _ _ h => h) (Or.inl ⟨by rfl, ?_⟩) (by assumption) ?_; rotate_left; (· ((intro w hSw); (have hSc := Below.cellAt hSw); clear hSw; go_simp; (try with_reducible rfl))); (try simp only [Act.put, List.setIfInBounds_toArray, List.set_cons_zero, List.set_cons_succ]))
            (refine wpAnyH_take (i := 6) (oi := _) (v := ?_) (by simp only [List.getElem?_toArray, List.getElem?_cons_zero, List.getElem?_cons_succ]; rfl) (by kernel_rfl) (by decide +kernel) (by decide +kernel) (by exact fun _ _ _ h => h) (Or.inl ⟨by rfl, ?_⟩) (by assumption) ?_; rotate_left; (· ((intro w hSw); (have hSc := Below.cellAt hSw); clear hSw; go_simp; (try with_reducible rfl))); (try simp only [Act.put, List.setIfInBounds_toArray, List.set_cons_zero, List.set_cons_succ]))
            (refine wpAnyH_take (i := 7) (oi := _) (v := ?_) (by simp only [List.getElem?_toArray, List.getElem?_cons_zero, List.getElem?_cons_succ]; rfl) (by kernel_rfl) (by decide +kernel) (by decide +kernel) (by exact fun _ _ _ h => h) (Or.inl ⟨by rfl, ?_⟩) (by assumption) ?_; rotate_left; (· ((intro w hSw); (have hSc := Below.cellAt hSw); clear hSw; go_simp; (try with_reducible rfl))); (try simp only [Act.put, List.setIfInBounds_toArray, List.set_cons_zero, List.set_cons_succ]))
            (refine wpAnyH_take (i := 8) (oi := _) (v := ?_) (by simp only [List.getElem?_toArray, List.getElem?_cons_zero, List.getElem?_cons_succ]; rfl) (by kernel_rfl) (by decide +kernel) (by decide +kernel) (by exact fun _ _ _ h => h) (Or.inl ⟨by rfl, ?_⟩) (by assumption) ?_; rotate_left; (· ((intro w hSw); (have hSc := Below.cellAt hSw); clear hSw; go_simp; (try with_reducible rfl))); (try simp only [Act.put, List.setIfInBounds_toArray, List.set_cons_zero, List.set_cons_succ]))
            (refine wpAnyH_take (i := 9) (oi := _) (v := ?_) (by simp only [List.getElem?_toArray, List.getElem?_cons_zero, List.getElem?_cons_succ]; rfl) (by kernel_rfl) (by decide +kernel) (by decide +kernel) (by exact fun _ _ _ h => h) (Or.inl ⟨by rfl, ?_⟩) (by assumption) ?_; rotate_left; (· ((intro w hSw); (have hSc := Below.cellAt hSw); clear hSw; go_simp; (try with_reducible rfl))); (try simp only [Act.put, List.setIfInBounds_toArray, List.set_cons_zero, List.set_cons_succ]))
            repeat' (first
              | (refine wpAnyH_take (i := 12) (oi := _) (v := ?_) (by simp only [List.getElem?_toArray, List.getElem?_cons_zero, List.getElem?_cons_succ]; rfl) (by kernel_rfl) (by decide +kernel) (by decide +kernel) (by exact fun _ _ _ h => h) (Or.inl ⟨by rfl, ?_⟩) (by assumption) ?_; rotate_left; (· ((intro w hSw); (have hSc := Below.cellAt hSw); clear hSw; go_simp; (try with_reducible rfl))); (try simp only [Act.put, List.setIfInBounds_toArray, List.set_cons_zero, List.set_cons_succ]))
              | (refine wpAnyH_ready (rs := [10]) (by decide +kernel) (by simp) (AllReadyH.cons (by simp only [List.getElem?_toArray, List.getElem?_cons_zero, List.getElem?_cons_succ]; rfl) (fun K hK => ?_) AllReadyH.nil); all_goals ((first | (refine step_append_at rfl (.tmp 58) (.tmp 68) 28 35 9 72 _ rfl eiAct w.heap.size u6 (ps.map actCells) rfl ((HOZ.out.op.dr).alloc _) (.slice (some ⟨_, 0, none⟩) 1 1) [actCells (putAct y)] rfl (sl_new (c := actCells (putAct y)) (by first | rfl | simp) rfl) (by intro c hc; simp at hc; subst hc; exact actCells_one _) (by have := HLP.out; simp; omega) (by decide) (by simp; omega) (by simp) ?_; intro vC wC hownC hgrC hbC hatC) | (go_simp; (first | fail | skip))); (refine hK.out _ _ ?_ (fun hHeld => ?_)); (· ((try dsimp only); (repeat' (first | (with_reducible exact Below.refl _ _) | (with_reducible assumption) | (with_reducible refine Below.alloc ?_ ?_ _) | (with_reducible refine Below.drew ?_) | (with_reducible refine Below.stepG ?_ (by assumption) ?_) | (with_reducible refine Below.setCell ?_ ?_ _) | omega | (dsimp only; omega) | (simp; done) | (simp; omega))))); (clear hK K; (try simp only [Act.put, List.setIfInBounds_toArray, List.set_cons_zero, List.set_cons_succ]))))
              | (refine wpAnyH_ready (rs := [11]) (by decide +kernel) (by simp) (AllReadyH.cons (by simp only [List.getElem?_toArray, List.getElem?_cons_zero, List.getElem?_cons_succ]; rfl) (fun K hK => ?_) AllReadyH.nil); all_goals ((first | (refine step_append_at rfl (.tmp 58) (.tmp 68) 28 35 9 72 _ rfl eiAct w.heap.size u6 (ps.map actCells) rfl ((HOZ.out.op.dr).alloc _) (.slice (some ⟨_, 0, none⟩) 1 1) [actCells (putAct y)] rfl (sl_new (c := actCells (putAct y)) (by first | rfl | simp) rfl) (by intro c hc; simp at hc; subst hc; exact actCells_one _) (by have := HLP.out; simp; omega) (by decide) (by simp; omega) (by simp) ?_; intro vC wC hownC hgrC hbC hatC) | (go_simp; (first | fail | skip))); (refine hK.out _ _ ?_ (fun hHeld => ?_)); (· ((try dsimp only); (repeat' (first | (with_reducible exact Below.refl _ _) | (with_reducible assumption) | (with_reducible refine Below.alloc ?_ ?_ _) | (with_reducible refine Below.drew ?_) | (with_reducible refine Below.stepG ?_ (by assumption) ?_) | (with_reducible refine Below.setCell ?_ ?_ _) | omega | (dsimp only; omega) | (simp; done) | (simp; omega))))); (clear hK K; (try simp only [Act.put, List.setIfInBounds_toArray, List.set_cons_zero, List.set_cons_succ]))))
              | (refine wpAnyH_ready (rs := [12]) (by decide +kernel) (by simp) (AllReadyH.cons (by simp only [List.getElem?_toArray, List.getElem?_cons_zero, List.getElem?_cons_succ]; rfl) (fun K hK => ?_) AllReadyH.nil); all_goals ((first | (refine step_append_at rfl (.tmp 58) (.tmp 68) 28 35 9 72 _ rfl eiAct w.heap.size u6 (ps.map actCells) rfl ((HOZ.out.op.dr).alloc _) (.slice (some ⟨_, 0, none⟩) 1 1) [actCells (putAct y)] rfl (sl_new (c := actCells (putAct y)) (by first | rfl | simp) rfl) (by intro c hc; simp at hc; subst hc; exact actCells_one _) (by have := HLP.out; simp; omega) (by decide) (by simp; omega) (by simp) ?_; intro vC wC hownC hgrC hbC hatC) | (go_simp; (first | fail | skip))); (refine hK.out _ _ ?_ (fun hHeld => ?_)); (· ((try dsimp only); (repeat' (first | (with_reducible exact Below.refl _ _) | (with_reducible assumption) | (with_reducible refine Below.alloc ?_ ?_ _) | (with_reducible refine Below.drew ?_) | (with_reducible refine Below.stepG ?_ (by assumption) ?_) | (with_reducible refine Below.setCell ?_ ?_ _) | omega | (dsimp only; omega) | (simp; done) | (simp; omega))))); (clear hK K; (try simp only [Act.put, List.setIfInBounds_toArray, List.set_cons_zero, List.set_cons_succ]))))
              | (refine wpAnyH_done (by decide +kernel) ?_ _)
              | fail)
            have HO5 := Lib.hid (OfOwn.put (x := putAct y) (HOZ.out.below (((Below.refl _ _).drew).alloc (by simp) _)) HLP.out hgrC hownC hbC hatC)
            clear hownC hgrC hbC hatC
            go_wp2_with fail
            go_roundw
            case rel => exact ⟨i, j + 1, la, lb - 1, a0, c0, b2', d2'', (by first | rfl | rw [show la = 0 by omega]), rfl, HS2, hla, by omega, by rw [HPS.out]; exact HO5⟩
            case measure => simp [lenOfV]; omega
          · subst h
            have e12 : x.1 = y.1 ∧ x.2.1 = y.2.1 := ⟨e1, e2⟩
            obtain ⟨hmg, hno, hny, hy0⟩ := HS.out.mg.both HL.out HM.out hx hy e12
            have hla1 : 0 < la := by have := (List.getElem?_eq_some_iff.1 hx).1; have := HS.out.il; omega
            have hlb1 : 0 < lb := by have := (List.getElem?_eq_some_iff.1 hy).1; have := HS.out.jm; omega
            first
            | (exfalso; omega)
            | (
              obtain ⟨g1, o1, rfl, hg1, c0', c1', c2', c3', c4'⟩ := Sl.first HS.out.sa HOX.out.bl hx
              obtain ⟨g2, o2, rfl, hg2, e0, e1', e2', e3, e4⟩ := Sl.first HS.out.sb HOX.out.bl hy
              obtain ⟨a2', c2'', htla, hsla⟩ := route_tail HS.out.sa hla1
              obtain ⟨b2', d2'', htl, hsl⟩ := route_tail HS.out.sb hlb1
              have HPS := Lib.hid (putsOf_snoc L hy)
              have HCS := Lib.hid (cutsOf_snoc M hx)
              rw [hny] at HPS
              rw [if_neg (by rw [hno]; exact hy0), List.append_nil] at HCS
              have HLP := Lib.hid (show (putsOf L (M.take j)).length < 60 by
                have := (puts_len (L := L) j m60).1
                have := (List.getElem?_eq_some_iff.1 hy).1
                omega)
              have HS2 := Lib.hid (show OfSt w L M (i + 1) (j + 1) a2' (la - 1) c2'' b2' (lb - 1) d2'' from ⟨by have := HS.out.il; omega, by have := HS.out.jm; omega, hmg, by
                have := hsla
                rw [List.drop_drop] at this
                exact this, by
                have := hsl
                rw [List.drop_drop] at this
                exact this⟩)
              clear hx hy hmg hno hny hsl hsla HSD HS hy0 e12 e1 e2
              generalize putsOf L (M.take j) = ps at *
              by_cases hh : x.2.2 = y.2.2
              · rw [if_neg (fun h => h hh), List.append_nil] at HPS
                have hd : ((x.2.2 : Int) != y.2.2) = false := by rw [bne_eq_false_iff_eq]; omega
                rw [hh] at c4'
                clear hh
                go_wp2_with fail
                go_quiet (fail)
                generalize hZ : X.drewN _ = Z
                have HOZ := Lib.hid (show OfOwn w Z (cutsOf (L.take i) M) ps u5 u6 from by rw [← hZ]; exact HOX.out.below (below_drewN (Below.refl _ _) _))
                clear hZ c0' c1' c2' c3' c4' e0 e1' e2' e3 e4
                go_wp2_with fail
                go_roundw
                case rel => exact ⟨i + 1, j + 1, la - 1, lb - 1, a2', c2'', b2', d2'', rfl, rfl, HS2, by omega, by omega, by rw [HPS.out, HCS.out]; exact HOZ.out⟩
                case measure => simp [lenOfV]; omega
              · rw [if_pos hh] at HPS
                have hd : ((x.2.2 : Int) != y.2.2) = true := by rw [bne_iff_ne]; omega
                have hd' : ¬ ((x.2.2 : Int) = y.2.2) := by omega
                clear hh
                go_wp2_with fail
                go_quiet (fail)
                generalize hZ : X.drewN _ = Z
                have HOZ := Lib.hid (show OfOwn w Z (cutsOf (L.take i) M) ps u5 u6 from by rw [← hZ]; exact HOX.out.below (below_drewN (Below.refl _ _) _))
                have f0 : Z.cell? ⟨g2, o2, none⟩ = some (.bool false) := by rw [← hZ, World.cell?_drewN]; exact e0
                have f1 : Z.cell? ⟨g2, o2 + 1, none⟩ = some (.int .u64 (hiOf false y.1)) := by rw [← hZ, World.cell?_drewN]; exact e1'
                have f2 : Z.cell? ⟨g2, o2 + 2, none⟩ = some (.int .u64 (loOf y.1)) := by rw [← hZ, World.cell?_drewN]; exact e2'
                have f3 : Z.cell? ⟨g2, o2 + 3, none⟩ = some (.int .i64 y.2.1) := by rw [← hZ, World.cell?_drewN]; exact e3
                have f4 : Z.cell? ⟨g2, o2 + 4, none⟩ = some (.int .i64 y.2.2) := by rw [← hZ, World.cell?_drewN]; exact e4
                have hzz := HOZ.out.bl.size
                clear hZ c0' c1' c2' c3' c4' e0 e1' e2' e3 e4 HOX hzx hd hd'
                go_upto_region 13 with fail
                refine wp_region_held_drew (S := (fun w' => Below w.heap.size Z w')) (by kernel_rfl) ?_ (fun hHeld => ?_)
                · ((try dsimp only); (repeat' (first | (with_reducible exact Below.refl _ _) | (with_reducible assumption) | (with_reducible refine Below.alloc ?_ ?_ _) | (with_reducible refine Below.drew ?_) | (with_reducible refine Below.stepG ?_ (by assumption) ?_) | (with_reducible refine Below.setCell ?_ ?_ _) | omega | (dsimp only; omega) | (simp; done) | (simp; omega))))
                (refine wpAnyH_take (i := 0) (oi := _) (v := ?_) (by simp only [List.getElem?_toArray, List.getElem?_cons_zero, List.getElem?_cons_succ]; rfl) (by kernel_rfl) (by decide +kernel) (by decide +kernel) (by exact fun _ _ _ h => h) (Or.inl ⟨by rfl, ?_⟩) (by assumption) ?_; rotate_left; (· ((intro w hSw); (have hSc := Below.cellAt hSw); clear hSw; go_simp; (try with_reducible rfl))); (try simp only [Act.put, List.setIfInBounds_toArray, List.set_cons_zero, List.set_cons_succ]))
                (refine wpAnyH_take (i := 1) (oi := _) (v := ?_) (by simp only [List.getElem?_toArray, List.getElem?_cons_zero, List.getElem?_cons_succ]; rfl) (by kernel_rfl) (by decide +kernel) (by decide +kernel) (by exact fun _ _ _ h => h) (Or.inl ⟨by rfl, ?_⟩) (by assumption) ?_; rotate_left; (· ((intro w hSw); (have hSc := Below.cellAt hSw); clear hSw; go_simp; (try with_reducible rfl))); (try simp only [Act.put, List.setIfInBounds_toArray, List.set_cons_zero, List.set_cons_succ]))
                (refine wpAnyH_take (i := 2) (oi := _) (v := ?_) (by simp only [List.getElem?_toArray, List.getElem?_cons_zero, List.getElem?_cons_succ]; rfl) (by kernel_rfl) (by decide +kernel) (by decide +kernel) (by exact fun _ _ _ h => h) (Or.inl ⟨by rfl, ?_⟩) (by assumption) ?_; rotate_left; (· ((intro w hSw); (have hSc := Below.cellAt hSw); clear hSw; go_simp; (try with_reducible rfl))); (try simp only [Act.put, List.setIfInBounds_toArray, List.set_cons_zero, List.set_cons_succ]))
                (refine wpAnyH_take (i := 3) (oi := _) (v := ?_) (by simp only [List.getElem?_toArray, List.getElem?_cons_zero, List.getElem?_cons_succ]; rfl) (by kernel_rfl) (by decide +kernel) (by decide +kernel) (by exact fun _ _ _ h => h) (Or.inl ⟨by rfl, ?_⟩) (by assumption) ?_; rotate_left; (· ((intro w hSw); (have hSc := Below.cellAt hSw); clear hSw; go_simp; (try with_reducible rfl))); (try simp only [Act.put, List.setIfInBounds_toArray, List.set_cons_zero, List.set_cons_succ]))
                (refine wpAnyH_take (i := 4) (oi := _) (v := ?_) (by simp only [List.getElem?_toArray, List.getElem?_cons_zero, List.getElem?_cons_succ]; rfl) (by kernel_rfl) (by decide +kernel) (by decide +kernel) (by exact fun _ _ _ h => h) (Or.inl ⟨by rfl, ?_⟩) (by assumption) ?_; rotate_left; (· ((intro w hSw); (have hSc := Below.cellAt hSw); clear hSw; go_simp; (try with_reducible rfl))); (try simp only [Act.put, List.setIfInBounds_toArray, List.set_cons_zero, List.set_cons_succ]))
                (refine wpAnyH_take (i := 5) (oi := _) (v := ?_) (by simp only [List.getElem?_toArray, List.getElem?_cons_zero, List.getElem?_cons_succ]; rfl) (by kernel_rfl) (by decide +kernel) (by decide +kernel) (by exact fun _ _ _ h => h) (Or.inl ⟨by rfl, ?_⟩) (by assumption) ?_; rotate_left; (· ((intro w hSw); (have hSc := Below.cellAt hSw); clear hSw; go_simp; (try with_reducible rfl))); (try simp only [Act.put, List.setIfInBounds_toArray, List.set_cons_zero, List.set_cons_succ]))
                (refine wpAnyH_take (i := 6) (oi := _) (v := ?_) (by simp only [List.getElem?_toArray, List.getElem?_cons_zero, List.getElem?_cons_succ]; rfl) (by kernel_rfl) (by decide +kernel) (by decide +kernel) (by exact fun _ _ _ h => h) (Or.inl ⟨by rfl, ?_⟩) (by assumption) ?_; rotate_left; (· ((intro w hSw); (have hSc := Below.cellAt hSw); clear hSw; go_simp; (try with_reducible rfl))); (try simp only [Act.put, List.setIfInBounds_toArray, List.set_cons_zero, List.set_cons_succ]))
                (refine wpAnyH_take (i := 7) (oi := _) (v := ?_) (by simp only [List.getElem?_toArray, List.getElem?_cons_zero, List.getElem?_cons_succ]; rfl) (by kernel_rfl) (by decide +kernel) (by decide +kernel) (by exact fun _ _ _ h => h) (Or.inl ⟨by rfl, ?_⟩) (by assumption) ?_; rotate_left; (· ((intro w hSw); (have hSc := Below.cellAt hSw); clear hSw; go_simp; (try with_reducible rfl))); (try simp only [Act.put, List.setIfInBounds_toArray, List.set_cons_zero, List.set_cons_succ]))
                (refine wpAnyH_take (i := 8) (oi := _) (v := ?_) (by simp only [List.getElem?_toArray, List.getElem?_cons_zero, List.getElem?_cons_succ]; rfl) (by kernel_rfl) (by decide +kernel) (by decide +kernel) (by exact fun _ _ _ h => h) (Or.inl ⟨by rfl, ?_⟩) (by assumption) ?_; rotate_left; (· ((intro w hSw); (have hSc := Below.cellAt hSw); clear hSw; go_simp; (try with_reducible rfl))); (try simp only [Act.put, List.setIfInBounds_toArray, List.set_cons_zero, List.set_cons_succ]))
                (refine wpAnyH_take (i := 9) (oi := _) (v := ?_) (by simp only [List.getElem?_toArray, List.getElem?_cons_zero, List.getElem?_cons_succ]; rfl) (by kernel_rfl) (by decide +kernel) (by decide +kernel) (by exact fun _ _ _ h => h) (Or.inl ⟨by rfl, ?_⟩) (by assumption) ?_; rotate_left; (· ((intro w hSw); (have hSc := Below.cellAt hSw); clear hSw; go_simp; (try with_reducible rfl))); (try simp only [Act.put, List.setIfInBounds_toArray, List.set_cons_zero, List.set_cons_succ]))
                repeat' (first
                  | (refine wpAnyH_take (i := 12) (oi := _) (v := ?_) (by simp only [List.getElem?_toArray, List.getElem?_cons_zero, List.getElem?_cons_succ]; rfl) (by kernel_rfl) (by decide +kernel) (by decide +kernel) (by exact fun _ _ _ h => h) (Or.inl ⟨by rfl, ?_⟩) (by assumption) ?_; rotate_left; (· ((intro w hSw); (have hSc := Below.cellAt hSw); clear hSw; go_simp; (try with_reducible rfl))); (try simp only [Act.put, List.setIfInBounds_toArray, List.set_cons_zero, List.set_cons_succ]))
                  | (refine wpAnyH_ready (rs := [10]) (by decide +kernel) (by simp) (AllReadyH.cons (by simp only [List.getElem?_toArray, List.getElem?_cons_zero, List.getElem?_cons_succ]; rfl) (fun K hK => ?_) AllReadyH.nil); all_goals ((first | (refine step_append_at rfl (.tmp 58) (.tmp 68) 28 35 9 72 _ rfl eiAct w.heap.size u6 (ps.map actCells) rfl ((HOZ.out.op.dr).alloc _) (.slice (some ⟨_, 0, none⟩) 1 1) [actCells (putAct y)] rfl (sl_new (c := actCells (putAct y)) (by first | rfl | simp) rfl) (by intro c hc; simp at hc; subst hc; exact actCells_one _) (by have := HLP.out; simp; omega) (by decide) (by simp; omega) (by simp) ?_; intro vC wC hownC hgrC hbC hatC) | (go_simp; (first | fail | skip))); (refine hK.out _ _ ?_ (fun hHeld => ?_)); (· ((try dsimp only); (repeat' (first | (with_reducible exact Below.refl _ _) | (with_reducible assumption) | (with_reducible refine Below.alloc ?_ ?_ _) | (with_reducible refine Below.drew ?_) | (with_reducible refine Below.stepG ?_ (by assumption) ?_) | (with_reducible refine Below.setCell ?_ ?_ _) | omega | (dsimp only; omega) | (simp; done) | (simp; omega))))); (clear hK K; (try simp only [Act.put, List.setIfInBounds_toArray, List.set_cons_zero, List.set_cons_succ]))))
                  | (refine wpAnyH_ready (rs := [11]) (by decide +kernel) (by simp) (AllReadyH.cons (by simp only [List.getElem?_toArray, List.getElem?_cons_zero, List.getElem?_cons_succ]; rfl) (fun K hK => ?_) AllReadyH.nil); all_goals ((first | (refine step_append_at rfl (.tmp 58) (.tmp 68) 28 35 9 72 _ rfl eiAct w.heap.size u6 (ps.map actCells) rfl ((HOZ.out.op.dr).alloc _) (.slice (some ⟨_, 0, none⟩) 1 1) [actCells (putAct y)] rfl (sl_new (c := actCells (putAct y)) (by first | rfl | simp) rfl) (by intro c hc; simp at hc; subst hc; exact actCells_one _) (by have := HLP.out; simp; omega) (by decide) (by simp; omega) (by simp) ?_; intro vC wC hownC hgrC hbC hatC) | (go_simp; (first | fail | skip))); (refine hK.out _ _ ?_ (fun hHeld => ?_)); (· ((try dsimp only); (repeat' (first | (with_reducible exact Below.refl _ _) | (with_reducible assumption) | (with_reducible refine Below.alloc ?_ ?_ _) | (with_reducible refine Below.drew ?_) | (with_reducible refine Below.stepG ?_ (by assumption) ?_) | (with_reducible refine Below.setCell ?_ ?_ _) | omega | (dsimp only; omega) | (simp; done) | (simp; omega))))); (clear hK K; (try simp only [Act.put, List.setIfInBounds_toArray, List.set_cons_zero, List.set_cons_succ]))))
                  | (refine wpAnyH_ready (rs := [12]) (by decide +kernel) (by simp) (AllReadyH.cons (by simp only [List.getElem?_toArray, List.getElem?_cons_zero, List.getElem?_cons_succ]; rfl) (fun K hK => ?_) AllReadyH.nil); all_goals ((first | (refine step_append_at rfl (.tmp 58) (.tmp 68) 28 35 9 72 _ rfl eiAct w.heap.size u6 (ps.map actCells) rfl ((HOZ.out.op.dr).alloc _) (.slice (some ⟨_, 0, none⟩) 1 1) [actCells (putAct y)] rfl (sl_new (c := actCells (putAct y)) (by first | rfl | simp) rfl) (by intro c hc; simp at hc; subst hc; exact actCells_one _) (by have := HLP.out; simp; omega) (by decide) (by simp; omega) (by simp) ?_; intro vC wC hownC hgrC hbC hatC) | (go_simp; (first | fail | skip))); (refine hK.out _ _ ?_ (fun hHeld => ?_)); (· ((try dsimp only); (repeat' (first | (with_reducible exact Below.refl _ _) | (with_reducible assumption) | (with_reducible refine Below.alloc ?_ ?_ _) | (with_reducible refine Below.drew ?_) | (with_reducible refine Below.stepG ?_ (by assumption) ?_) | (with_reducible refine Below.setCell ?_ ?_ _) | omega | (dsimp only; omega) | (simp; done) | (simp; omega))))); (clear hK K; (try simp only [Act.put, List.setIfInBounds_toArray, List.set_cons_zero, List.set_cons_succ]))))
                  | (refine wpAnyH_done (by decide +kernel) ?_ _)
                  | fail)
                have HO5 := Lib.hid (OfOwn.put (x := putAct y) (HOZ.out.below (((Below.refl _ _).drew).alloc (by simp) _)) HLP.out hgrC hownC hbC hatC)
                clear hownC hgrC hbC hatC
                go_wp2_with fail
                go_roundw
                case rel => exact ⟨i + 1, j + 1, la - 1, lb - 1, a2', c2'', b2', d2'', rfl, rfl, HS2, by omega, by omega, by rw [HPS.out, HCS.out]; exact HO5⟩
                case measure => simp [lenOfV]; omega)
end Go.Proofs.Yteadfobfenopkaa
