
/- SetAlgebra: the walk. -/
import Derived.Test.YtoecmoicaklbaaaMb
set_option linter.unusedVariables false
set_option linter.unusedSimpArgs false
namespace Go.Proofs.Ytoecmoicaklbaaa
open Go Go.RowKit Go.Sort Wc Wk


set_option maxRecDepth 100000 in
set_option maxHeartbeats 8000000 in
theorem setAlgebra_walk (a1 : Option Addr) (len1 cap1 : Nat) (zs1 : List Int) (a2 : Option Addr) (len2 cap2 : Nat) (zs2 : List Int) (n : Int) (w : World) (h1 : IsRow .i64 w a1 len1 cap1 zs1) (h2 : IsRow .i64 w a2 len2 cap2 zs2) (hn : -9223372036854775808 ≤ n ∧ n ≤ 9223372036854775807) :
    Calls Try.prog 7 #[.slice a1 len1 cap1, .slice a2 len2 cap2, .int .i64 n] w fun e w' => e = .returned (.bool true) ∧ Below w.heap.size w w' := by
  have H_r1 := Lib.hid h1
  have H_r2 := Lib.hid h2
  have HNF := Lib.hid (nearM_fits n)
  have NR := Lib.hid (fun w => nearM_any n w)
  have HB := Lib.hid (Below.refl w.heap.size w)
  generalize nearM n = nc at *
  clear h1 h2 hn
  go_enter Try.func7, Try.ntmps7
  go_wp2_with fail
  refine (presL_any a1 len1 cap1 zs1 20 _ H_r1.out (by decide)).mono ?_
  rintro e w1 ⟨a_ps, c_ps, l_ps, rfl, nl, B_ps, ho, hb1⟩
  clear H_r1
  replace H_r2 := Lib.hid (row_belowP H_r2.out hb1)
  replace HB := Lib.hid (HB.out.trans (hb1.mono HB.out.size))
  have H_ps := Lib.hid ho
  have N_ps := Lib.hid nl
  clear ho nl hb1
  go_wp2_with fail
  refine (presL_any a2 len2 cap2 zs2 20 _ H_r2.out (by decide)).mono ?_
  rintro e w2 ⟨a_qs, c_qs, l_qs, rfl, nl, B_qs, ho, hb2⟩
  clear H_r2
  replace H_ps := Lib.hid (H_ps.out.below hb2)
  replace HB := Lib.hid (HB.out.trans (hb2.mono HB.out.size))
  have H_qs := Lib.hid ho
  have N_qs := Lib.hid nl
  clear ho nl hb2
  go_wp2_with fail
  refine (NR.out _).mono ?_
  rintro e w3 ⟨rfl, hb3⟩
  replace H_ps := Lib.hid (H_ps.out.below hb3)
  replace H_qs := Lib.hid (H_qs.out.below hb3)
  replace HB := Lib.hid (HB.out.trans (hb3.mono HB.out.size))
  clear hb3 NR
  go_wp2_with fail
  obtain ⟨w4, hY⟩ : ∃ Y, Y = w3.alloc (.cells #[.bool false, .int .u64 (hiOf false nc), .int .u64 (loOf nc)] 28) := ⟨_, rfl⟩
  have p0 : w4.cell? ⟨w3.heap.size, 0, none⟩ = some (.bool false) := by rw [hY]; simp
  have p1 : w4.cell? ⟨w3.heap.size, 1, none⟩ = some (.int .u64 (hiOf false nc)) := by rw [hY]; simp
  have p2 : w4.cell? ⟨w3.heap.size, 2, none⟩ = some (.int .u64 (loOf nc)) := by rw [hY]; simp
  have hab : w3.heap.size < w4.heap.size := by rw [hY]; simp
  have hb4 : Below w3.heap.size w3 w4 := by rw [hY]; exact (Below.refl _ _).alloc (Nat.le_refl _) _
  rw [← hY]
  clear hY
  replace H_ps := Lib.hid (H_ps.out.below hb4)
  replace H_qs := Lib.hid (H_qs.out.below hb4)
  replace HB := Lib.hid (HB.out.trans (hb4.mono HB.out.size))
  clear hb4
  generalize w3.heap.size = ab at *
  go_wp2_with fail
  refine (copiedPres_any false a_ps c_ps l_ps _ H_ps.out.sl (by omega)).mono ?_
  rintro e w5 ⟨a_c1, c_c1, rfl, ho, hb5⟩
  replace H_ps := Lib.hid (H_ps.out.below hb5)
  replace H_qs := Lib.hid (H_qs.out.below hb5)
  replace p0 := (hb5.cell (p := ⟨ab, 0, none⟩) hab).trans p0
  replace p1 := (hb5.cell (p := ⟨ab, 1, none⟩) hab).trans p1
  replace p2 := (hb5.cell (p := ⟨ab, 2, none⟩) hab).trans p2
  replace hab := Nat.lt_of_lt_of_le hab hb5.size
  replace HB := Lib.hid (HB.out.trans (hb5.mono HB.out.size))
  have H_c1 := Lib.hid ho
  clear ho hb5
  go_wp2_with fail
  refine (copiedPres_any false a_qs c_qs l_qs _ H_qs.out.sl (by omega)).mono ?_
  rintro e w6 ⟨a_c2, c_c2, rfl, ho, hb6⟩
  replace H_ps := Lib.hid (H_ps.out.below hb6)
  replace H_qs := Lib.hid (H_qs.out.below hb6)
  replace H_c1 := Lib.hid (H_c1.out.below hb6)
  replace p0 := (hb6.cell (p := ⟨ab, 0, none⟩) hab).trans p0
  replace p1 := (hb6.cell (p := ⟨ab, 1, none⟩) hab).trans p1
  replace p2 := (hb6.cell (p := ⟨ab, 2, none⟩) hab).trans p2
  replace hab := Nat.lt_of_lt_of_le hab hb6.size
  replace HB := Lib.hid (HB.out.trans (hb6.mono HB.out.size))
  have H_c2 := Lib.hid ho
  clear ho hb6
  go_wp2_with fail
  refine (minus_any a_c1 c_c1 l_ps a_c2 c_c2 l_qs _ H_c1.out.sl H_c2.out.sl (by omega) (by omega) N_ps.out N_qs.out (fun x hx => (H_c1.out.lt x.block (by rw [hx]; rfl)).2) (fun x hx => (H_c2.out.lt x.block (by rw [hx]; rfl)).2)).mono ?_
  rintro e w7 ⟨a_x, c_x, l_x, rfl, hr, ho, hb7⟩
  replace H_ps := Lib.hid (H_ps.out.below hb7)
  replace H_qs := Lib.hid (H_qs.out.below hb7)
  replace H_c1 := Lib.hid (H_c1.out.below hb7)
  replace H_c2 := Lib.hid (H_c2.out.below hb7)
  replace p0 := (hb7.cell (p := ⟨ab, 0, none⟩) hab).trans p0
  replace p1 := (hb7.cell (p := ⟨ab, 1, none⟩) hab).trans p1
  replace p2 := (hb7.cell (p := ⟨ab, 2, none⟩) hab).trans p2
  replace hab := Nat.lt_of_lt_of_le hab hb7.size
  replace HB := Lib.hid (HB.out.trans (hb7.mono HB.out.size))
  have H_x := Lib.hid ho
  have R_x := Lib.hid hr
  have N_x := Lib.hid hr.near
  clear ho hr hb7
  have B_x := R_x.out.len
  clear H_c1 H_c2
  go_wp2_with fail
  refine (copiedPres_any false a_ps c_ps l_ps _ H_ps.out.sl (by omega)).mono ?_
  rintro e w8 ⟨a_c1, c_c1, rfl, ho, hb8⟩
  replace H_ps := Lib.hid (H_ps.out.below hb8)
  replace H_qs := Lib.hid (H_qs.out.below hb8)
  replace H_x := Lib.hid (H_x.out.below hb8)
  replace p0 := (hb8.cell (p := ⟨ab, 0, none⟩) hab).trans p0
  replace p1 := (hb8.cell (p := ⟨ab, 1, none⟩) hab).trans p1
  replace p2 := (hb8.cell (p := ⟨ab, 2, none⟩) hab).trans p2
  replace hab := Nat.lt_of_lt_of_le hab hb8.size
  replace HB := Lib.hid (HB.out.trans (hb8.mono HB.out.size))
  have H_c1 := Lib.hid ho
  clear ho hb8
  go_wp2_with fail
  refine (copiedPres_any false a_qs c_qs l_qs _ H_qs.out.sl (by omega)).mono ?_
  rintro e w9 ⟨a_c2, c_c2, rfl, ho, hb9⟩
  replace H_ps := Lib.hid (H_ps.out.below hb9)
  replace H_qs := Lib.hid (H_qs.out.below hb9)
  replace H_x := Lib.hid (H_x.out.below hb9)
  replace H_c1 := Lib.hid (H_c1.out.below hb9)
  replace p0 := (hb9.cell (p := ⟨ab, 0, none⟩) hab).trans p0
  replace p1 := (hb9.cell (p := ⟨ab, 1, none⟩) hab).trans p1
  replace p2 := (hb9.cell (p := ⟨ab, 2, none⟩) hab).trans p2
  replace hab := Nat.lt_of_lt_of_le hab hb9.size
  replace HB := Lib.hid (HB.out.trans (hb9.mono HB.out.size))
  have H_c2 := Lib.hid ho
  clear ho hb9
  go_wp2_with fail
  refine (both_any a_c1 c_c1 l_ps a_c2 c_c2 l_qs _ H_c1.out.sl H_c2.out.sl (by omega) (by omega) N_ps.out N_qs.out (fun x hx => (H_c1.out.lt x.block (by rw [hx]; rfl)).2) (fun x hx => (H_c2.out.lt x.block (by rw [hx]; rfl)).2)).mono ?_
  rintro e w10 ⟨a_y, c_y, l_y, rfl, hr, ho, hb10⟩
  replace H_ps := Lib.hid (H_ps.out.below hb10)
  replace H_qs := Lib.hid (H_qs.out.below hb10)
  replace H_x := Lib.hid (H_x.out.below hb10)
  replace H_c1 := Lib.hid (H_c1.out.below hb10)
  replace H_c2 := Lib.hid (H_c2.out.below hb10)
  replace p0 := (hb10.cell (p := ⟨ab, 0, none⟩) hab).trans p0
  replace p1 := (hb10.cell (p := ⟨ab, 1, none⟩) hab).trans p1
  replace p2 := (hb10.cell (p := ⟨ab, 2, none⟩) hab).trans p2
  replace hab := Nat.lt_of_lt_of_le hab hb10.size
  replace HB := Lib.hid (HB.out.trans (hb10.mono HB.out.size))
  have H_y := Lib.hid ho
  have R_y := Lib.hid hr
  have N_y := Lib.hid hr.near
  clear ho hr hb10
  have B_y := R_y.out.len
  clear H_c1 H_c2
  go_wp2_with fail
  refine (copiedPres_any false a_qs c_qs l_qs _ H_qs.out.sl (by omega)).mono ?_
  rintro e w11 ⟨a_c1, c_c1, rfl, ho, hb11⟩
  replace H_ps := Lib.hid (H_ps.out.below hb11)
  replace H_qs := Lib.hid (H_qs.out.below hb11)
  replace H_x := Lib.hid (H_x.out.below hb11)
  replace H_y := Lib.hid (H_y.out.below hb11)
  replace p0 := (hb11.cell (p := ⟨ab, 0, none⟩) hab).trans p0
  replace p1 := (hb11.cell (p := ⟨ab, 1, none⟩) hab).trans p1
  replace p2 := (hb11.cell (p := ⟨ab, 2, none⟩) hab).trans p2
  replace hab := Nat.lt_of_lt_of_le hab hb11.size
  replace HB := Lib.hid (HB.out.trans (hb11.mono HB.out.size))
  have H_c1 := Lib.hid ho
  clear ho hb11
  go_wp2_with fail
  refine (copiedPres_any false a_ps c_ps l_ps _ H_ps.out.sl (by omega)).mono ?_
  rintro e w12 ⟨a_c2, c_c2, rfl, ho, hb12⟩
  replace H_ps := Lib.hid (H_ps.out.below hb12)
  replace H_qs := Lib.hid (H_qs.out.below hb12)
  replace H_x := Lib.hid (H_x.out.below hb12)
  replace H_y := Lib.hid (H_y.out.below hb12)
  replace H_c1 := Lib.hid (H_c1.out.below hb12)
  replace p0 := (hb12.cell (p := ⟨ab, 0, none⟩) hab).trans p0
  replace p1 := (hb12.cell (p := ⟨ab, 1, none⟩) hab).trans p1
  replace p2 := (hb12.cell (p := ⟨ab, 2, none⟩) hab).trans p2
  replace hab := Nat.lt_of_lt_of_le hab hb12.size
  replace HB := Lib.hid (HB.out.trans (hb12.mono HB.out.size))
  have H_c2 := Lib.hid ho
  clear ho hb12
  go_wp2_with fail
  refine (both_any a_c1 c_c1 l_qs a_c2 c_c2 l_ps _ H_c1.out.sl H_c2.out.sl (by omega) (by omega) N_qs.out N_ps.out (fun x hx => (H_c1.out.lt x.block (by rw [hx]; rfl)).2) (fun x hx => (H_c2.out.lt x.block (by rw [hx]; rfl)).2)).mono ?_
  rintro e w13 ⟨a_z, c_z, l_z, rfl, hr, ho, hb13⟩
  replace H_ps := Lib.hid (H_ps.out.below hb13)
  replace H_qs := Lib.hid (H_qs.out.below hb13)
  replace H_x := Lib.hid (H_x.out.below hb13)
  replace H_y := Lib.hid (H_y.out.below hb13)
  replace H_c1 := Lib.hid (H_c1.out.below hb13)
  replace H_c2 := Lib.hid (H_c2.out.below hb13)
  replace p0 := (hb13.cell (p := ⟨ab, 0, none⟩) hab).trans p0
  replace p1 := (hb13.cell (p := ⟨ab, 1, none⟩) hab).trans p1
  replace p2 := (hb13.cell (p := ⟨ab, 2, none⟩) hab).trans p2
  replace hab := Nat.lt_of_lt_of_le hab hb13.size
  replace HB := Lib.hid (HB.out.trans (hb13.mono HB.out.size))
  have H_z := Lib.hid ho
  have R_z := Lib.hid hr
  have N_z := Lib.hid hr.near
  clear ho hr hb13
  clear H_c1 H_c2
  have ez : l_y = l_z := R_y.out.one R_z.out (fun a => And.comm)
  subst ez
  clear R_z N_z
  go_wp2_with fail
  refine (copiedPres_any false a_ps c_ps l_ps _ H_ps.out.sl (by omega)).mono ?_
  rintro e w14 ⟨a_c1, c_c1, rfl, ho, hb14⟩
  replace H_ps := Lib.hid (H_ps.out.below hb14)
  replace H_qs := Lib.hid (H_qs.out.below hb14)
  replace H_x := Lib.hid (H_x.out.below hb14)
  replace H_y := Lib.hid (H_y.out.below hb14)
  replace H_z := Lib.hid (H_z.out.below hb14)
  replace p0 := (hb14.cell (p := ⟨ab, 0, none⟩) hab).trans p0
  replace p1 := (hb14.cell (p := ⟨ab, 1, none⟩) hab).trans p1
  replace p2 := (hb14.cell (p := ⟨ab, 2, none⟩) hab).trans p2
  replace hab := Nat.lt_of_lt_of_le hab hb14.size
  replace HB := Lib.hid (HB.out.trans (hb14.mono HB.out.size))
  have H_c1 := Lib.hid ho
  clear ho hb14
  go_wp2_with fail
  refine (mergeR_any a_c1 c_c1 l_ps _ H_c1.out.sl (by omega) N_ps.out (fun x hx => (H_c1.out.lt x.block (by rw [hx]; rfl)).2)).mono ?_
  rintro e w15 ⟨a_m, c_m, l_m, rfl, hr, ho, hb15⟩
  replace H_ps := Lib.hid (H_ps.out.below hb15)
  replace H_qs := Lib.hid (H_qs.out.below hb15)
  replace H_x := Lib.hid (H_x.out.below hb15)
  replace H_y := Lib.hid (H_y.out.below hb15)
  replace H_z := Lib.hid (H_z.out.below hb15)
  replace H_c1 := Lib.hid (H_c1.out.below hb15)
  replace p0 := (hb15.cell (p := ⟨ab, 0, none⟩) hab).trans p0
  replace p1 := (hb15.cell (p := ⟨ab, 1, none⟩) hab).trans p1
  replace p2 := (hb15.cell (p := ⟨ab, 2, none⟩) hab).trans p2
  replace hab := Nat.lt_of_lt_of_le hab hb15.size
  replace HB := Lib.hid (HB.out.trans (hb15.mono HB.out.size))
  have H_m := Lib.hid ho
  have R_m := Lib.hid hr
  have N_m := Lib.hid hr.near
  clear ho hr hb15
  have B_m := R_m.out.len
  clear H_c1
  go_wp2_with fail
  refine (anyHas_any false a_ps c_ps l_ps nc _ H_ps.out.sl (by omega) N_ps.out.vp HNF.out (fun x hx => (H_ps.out.lt x.block (by rw [hx]; rfl)).2)).mono ?_
  rintro e w16 ⟨rfl, hb16⟩
  replace H_ps := Lib.hid (H_ps.out.below hb16)
  replace H_qs := Lib.hid (H_qs.out.below hb16)
  replace H_x := Lib.hid (H_x.out.below hb16)
  replace H_y := Lib.hid (H_y.out.below hb16)
  replace H_z := Lib.hid (H_z.out.below hb16)
  replace H_m := Lib.hid (H_m.out.below hb16)
  replace p0 := (hb16.cell (p := ⟨ab, 0, none⟩) hab).trans p0
  replace p1 := (hb16.cell (p := ⟨ab, 1, none⟩) hab).trans p1
  replace p2 := (hb16.cell (p := ⟨ab, 2, none⟩) hab).trans p2
  replace hab := Nat.lt_of_lt_of_le hab hb16.size
  replace HB := Lib.hid (HB.out.trans (hb16.mono HB.out.size))
  clear hb16
  go_wp2_with fail
  refine (anyHas_any false a_qs c_qs l_qs nc _ H_qs.out.sl (by omega) N_qs.out.vp HNF.out (fun x hx => (H_qs.out.lt x.block (by rw [hx]; rfl)).2)).mono ?_
  rintro e w17 ⟨rfl, hb17⟩
  replace H_ps := Lib.hid (H_ps.out.below hb17)
  replace H_qs := Lib.hid (H_qs.out.below hb17)
  replace H_x := Lib.hid (H_x.out.below hb17)
  replace H_y := Lib.hid (H_y.out.below hb17)
  replace H_z := Lib.hid (H_z.out.below hb17)
  replace H_m := Lib.hid (H_m.out.below hb17)
  replace p0 := (hb17.cell (p := ⟨ab, 0, none⟩) hab).trans p0
  replace p1 := (hb17.cell (p := ⟨ab, 1, none⟩) hab).trans p1
  replace p2 := (hb17.cell (p := ⟨ab, 2, none⟩) hab).trans p2
  replace hab := Nat.lt_of_lt_of_le hab hb17.size
  replace HB := Lib.hid (HB.out.trans (hb17.mono HB.out.size))
  clear hb17
  have HX : Hid (hasB false l_x nc = (hasB false l_ps nc && !hasB false l_qs nc)) := Bool.eq_iff_iff.2 ((R_x.out.has nc).trans (by rw [Bool.and_eq_true, Bool.not_eq_true', Bool.eq_false_iff, ne_eq, hasB_iff N_ps.out.vp, hasB_iff N_qs.out.vp]))
  have HY : Hid (hasB false l_y nc = (hasB false l_ps nc && hasB false l_qs nc)) := Bool.eq_iff_iff.2 ((R_y.out.has nc).trans (by rw [Bool.and_eq_true, hasB_iff N_ps.out.vp, hasB_iff N_qs.out.vp]))
  generalize hasB false l_ps nc = bi at *
  generalize hasB false l_qs nc = bo at *
  cases bi <;> cases bo
  · replace HX : Hid (hasB false l_x nc = false) := HX.out
    replace HY : Hid (hasB false l_y nc = false) := HY.out
    go_wp2_with fail
    refine (cidrSure_any _).mono ?_
    rintro e w18 ⟨rfl, hb18⟩
    replace H_ps := Lib.hid (H_ps.out.below hb18)
    replace H_qs := Lib.hid (H_qs.out.below hb18)
    replace H_x := Lib.hid (H_x.out.below hb18)
    replace H_y := Lib.hid (H_y.out.below hb18)
    replace H_z := Lib.hid (H_z.out.below hb18)
    replace H_m := Lib.hid (H_m.out.below hb18)
    replace p0 := (hb18.cell (p := ⟨ab, 0, none⟩) hab).trans p0
    replace p1 := (hb18.cell (p := ⟨ab, 1, none⟩) hab).trans p1
    replace p2 := (hb18.cell (p := ⟨ab, 2, none⟩) hab).trans p2
    replace hab := Nat.lt_of_lt_of_le hab hb18.size
    replace HB := Lib.hid (HB.out.trans (hb18.mono HB.out.size))
    clear hb18
    go_wp2_with fail
    refine (anyHas_any false a_x c_x l_x nc _ H_x.out.sl (by omega) N_x.out.vp HNF.out (fun x hx => (H_x.out.lt x.block (by rw [hx]; rfl)).2)).mono ?_
    rintro e w19 ⟨rfl, hb19⟩
    replace H_ps := Lib.hid (H_ps.out.below hb19)
    replace H_qs := Lib.hid (H_qs.out.below hb19)
    replace H_x := Lib.hid (H_x.out.below hb19)
    replace H_y := Lib.hid (H_y.out.below hb19)
    replace H_z := Lib.hid (H_z.out.below hb19)
    replace H_m := Lib.hid (H_m.out.below hb19)
    replace p0 := (hb19.cell (p := ⟨ab, 0, none⟩) hab).trans p0
    replace p1 := (hb19.cell (p := ⟨ab, 1, none⟩) hab).trans p1
    replace p2 := (hb19.cell (p := ⟨ab, 2, none⟩) hab).trans p2
    replace hab := Nat.lt_of_lt_of_le hab hb19.size
    replace HB := Lib.hid (HB.out.trans (hb19.mono HB.out.size))
    clear hb19
    rw [HX.out]
    go_wp2_with fail
    refine (anyHas_any false a_y c_y l_y nc _ H_y.out.sl (by omega) N_y.out.vp HNF.out (fun x hx => (H_y.out.lt x.block (by rw [hx]; rfl)).2)).mono ?_
    rintro e w20 ⟨rfl, hb20⟩
    replace H_ps := Lib.hid (H_ps.out.below hb20)
    replace H_qs := Lib.hid (H_qs.out.below hb20)
    replace H_x := Lib.hid (H_x.out.below hb20)
    replace H_y := Lib.hid (H_y.out.below hb20)
    replace H_z := Lib.hid (H_z.out.below hb20)
    replace H_m := Lib.hid (H_m.out.below hb20)
    replace p0 := (hb20.cell (p := ⟨ab, 0, none⟩) hab).trans p0
    replace p1 := (hb20.cell (p := ⟨ab, 1, none⟩) hab).trans p1
    replace p2 := (hb20.cell (p := ⟨ab, 2, none⟩) hab).trans p2
    replace hab := Nat.lt_of_lt_of_le hab hb20.size
    replace HB := Lib.hid (HB.out.trans (hb20.mono HB.out.size))
    clear hb20
    rw [HY.out]
    go_wp2_with fail
    refine (samePres_same false a_y a_z c_y c_z l_y _ H_y.out.sl H_z.out.sl (by omega) (fun x hx => (H_y.out.lt x.block (by rw [hx]; rfl)).2) (fun x hx => (H_z.out.lt x.block (by rw [hx]; rfl)).2)).mono ?_
    rintro e w21 ⟨rfl, hb21⟩
    replace H_ps := Lib.hid (H_ps.out.below hb21)
    replace H_qs := Lib.hid (H_qs.out.below hb21)
    replace H_x := Lib.hid (H_x.out.below hb21)
    replace H_y := Lib.hid (H_y.out.below hb21)
    replace H_z := Lib.hid (H_z.out.below hb21)
    replace H_m := Lib.hid (H_m.out.below hb21)
    replace p0 := (hb21.cell (p := ⟨ab, 0, none⟩) hab).trans p0
    replace p1 := (hb21.cell (p := ⟨ab, 1, none⟩) hab).trans p1
    replace p2 := (hb21.cell (p := ⟨ab, 2, none⟩) hab).trans p2
    replace hab := Nat.lt_of_lt_of_le hab hb21.size
    replace HB := Lib.hid (HB.out.trans (hb21.mono HB.out.size))
    clear hb21
    go_wp2_with fail
    refine (plainL_any false a_x c_x _ l_x _ R_x.out.nei H_x.out (by omega)).mono ?_
    rintro e w22 ⟨rfl, hb22⟩
    replace H_ps := Lib.hid (H_ps.out.below hb22)
    replace H_qs := Lib.hid (H_qs.out.below hb22)
    replace H_x := Lib.hid (H_x.out.below hb22)
    replace H_y := Lib.hid (H_y.out.below hb22)
    replace H_z := Lib.hid (H_z.out.below hb22)
    replace H_m := Lib.hid (H_m.out.below hb22)
    replace p0 := (hb22.cell (p := ⟨ab, 0, none⟩) hab).trans p0
    replace p1 := (hb22.cell (p := ⟨ab, 1, none⟩) hab).trans p1
    replace p2 := (hb22.cell (p := ⟨ab, 2, none⟩) hab).trans p2
    replace hab := Nat.lt_of_lt_of_le hab hb22.size
    replace HB := Lib.hid (HB.out.trans (hb22.mono HB.out.size))
    clear hb22
    go_wp2_with fail
    refine (plainL_any false a_y c_y _ l_y _ R_y.out.nei H_y.out (by omega)).mono ?_
    rintro e w23 ⟨rfl, hb23⟩
    replace H_ps := Lib.hid (H_ps.out.below hb23)
    replace H_qs := Lib.hid (H_qs.out.below hb23)
    replace H_x := Lib.hid (H_x.out.below hb23)
    replace H_y := Lib.hid (H_y.out.below hb23)
    replace H_z := Lib.hid (H_z.out.below hb23)
    replace H_m := Lib.hid (H_m.out.below hb23)
    replace p0 := (hb23.cell (p := ⟨ab, 0, none⟩) hab).trans p0
    replace p1 := (hb23.cell (p := ⟨ab, 1, none⟩) hab).trans p1
    replace p2 := (hb23.cell (p := ⟨ab, 2, none⟩) hab).trans p2
    replace hab := Nat.lt_of_lt_of_le hab hb23.size
    replace HB := Lib.hid (HB.out.trans (hb23.mono HB.out.size))
    clear hb23
    by_cases h80 : 80 < l_x.length + l_y.length
    · go_wp2_with fail
      go_returns
      exact ⟨rfl, HB.out⟩
    · go_wp2_with fail
      refine (copiedPres_any false a_x c_x l_x _ H_x.out.sl (by omega)).mono ?_
      rintro e w24 ⟨a_t, c_t, rfl, ho, hb24⟩
      have HT := Lib.hid ho
      have HBT := Lib.hid hb24
      have HZT := Lib.hid hb24.size
      clear ho hb24
      go_wp2_with (at_builtin; refine stop_at ?_; intro G hG)
      rw [← hG.out]; clear hG G
      refine wpList_append_any rfl _ _ 47 30 4 32 _ rfl eiPre _ _ (l_x.map (pfC false)) rfl HT.out _ (l_y.map (pfC false)) rfl (H_y.out.sl.below HBT.out) (by intro c hc; obtain ⟨r, _, rfl⟩ := List.mem_map.1 hc; exact pfC_one false r) (by simp; omega) (by decide) HZT.out ?_
      intro v25 w25 ho hb25'
      have hb25 := HBT.out.trans hb25'
      clear hb25'
      replace H_ps := Lib.hid (H_ps.out.below hb25)
      replace H_qs := Lib.hid (H_qs.out.below hb25)
      replace H_x := Lib.hid (H_x.out.below hb25)
      replace H_y := Lib.hid (H_y.out.below hb25)
      replace H_z := Lib.hid (H_z.out.below hb25)
      replace H_m := Lib.hid (H_m.out.below hb25)
      replace p0 := (hb25.cell (p := ⟨ab, 0, none⟩) hab).trans p0
      replace p1 := (hb25.cell (p := ⟨ab, 1, none⟩) hab).trans p1
      replace p2 := (hb25.cell (p := ⟨ab, 2, none⟩) hab).trans p2
      replace hab := Nat.lt_of_lt_of_le hab hb25.size
      replace HB := Lib.hid (HB.out.trans (hb25.mono HB.out.size))
      rw [← List.map_append] at ho
      obtain ⟨a_t, c_t, rfl⟩ := ho.shape
      rw [List.length_map] at ho ⊢
      obtain ⟨l_t, hl⟩ : ∃ l, l = l_x ++ l_y := ⟨_, rfl⟩
      have N_t : Hid (NearL l_t) := by show NearL l_t; rw [hl]; exact fun x hx => (List.mem_append.1 hx).elim (N_x.out x) (N_y.out x)
      have E_t : Hid (∀ a, InP false l_t a ↔ InP false l_x a ∨ InP false l_y a) := by intro a; rw [hl, InP.append]
      have B_t : l_t.length ≤ 80 := by rw [hl, List.length_append]; omega
      rw [← hl] at ho ⊢
      have H_t := Lib.hid ho
      clear ho hl hb25 HT HBT HZT
      go_wp2_with fail
      refine (mergeR_any a_t c_t l_t _ H_t.out.sl (by omega) N_t.out (fun x hx => (H_t.out.lt x.block (by rw [hx]; rfl)).2)).mono ?_
      rintro e w26 ⟨a_v, c_v, l_v, rfl, hr, ho, hb26⟩
      replace H_ps := Lib.hid (H_ps.out.below hb26)
      replace H_qs := Lib.hid (H_qs.out.below hb26)
      replace H_x := Lib.hid (H_x.out.below hb26)
      replace H_y := Lib.hid (H_y.out.below hb26)
      replace H_z := Lib.hid (H_z.out.below hb26)
      replace H_m := Lib.hid (H_m.out.below hb26)
      replace H_t := Lib.hid (H_t.out.below hb26)
      replace p0 := (hb26.cell (p := ⟨ab, 0, none⟩) hab).trans p0
      replace p1 := (hb26.cell (p := ⟨ab, 1, none⟩) hab).trans p1
      replace p2 := (hb26.cell (p := ⟨ab, 2, none⟩) hab).trans p2
      replace hab := Nat.lt_of_lt_of_le hab hb26.size
      replace HB := Lib.hid (HB.out.trans (hb26.mono HB.out.size))
      have H_v := Lib.hid ho
      have R_v := Lib.hid hr
      have N_v := Lib.hid hr.near
      clear ho hr hb26
      have ev : l_v = l_m := R_v.out.one R_m.out (fun a => by rw [E_t.out, R_x.out.ins, R_y.out.ins]; exact ⟨fun h => h.elim And.left And.left, fun h => (Classical.em (InP false l_qs a)).elim (fun k => .inr ⟨h, k⟩) (fun k => .inl ⟨h, k⟩)⟩)
      subst ev
      go_wp2_with fail
      refine (samePres_same false a_v a_m c_v c_m l_v _ H_v.out.sl H_m.out.sl (by omega) (fun x hx => (H_v.out.lt x.block (by rw [hx]; rfl)).2) (fun x hx => (H_m.out.lt x.block (by rw [hx]; rfl)).2)).mono ?_
      rintro e w27 ⟨rfl, hb27⟩
      replace H_ps := Lib.hid (H_ps.out.below hb27)
      replace H_qs := Lib.hid (H_qs.out.below hb27)
      replace H_x := Lib.hid (H_x.out.below hb27)
      replace H_y := Lib.hid (H_y.out.below hb27)
      replace H_z := Lib.hid (H_z.out.below hb27)
      replace H_m := Lib.hid (H_m.out.below hb27)
      replace H_t := Lib.hid (H_t.out.below hb27)
      replace H_v := Lib.hid (H_v.out.below hb27)
      replace p0 := (hb27.cell (p := ⟨ab, 0, none⟩) hab).trans p0
      replace p1 := (hb27.cell (p := ⟨ab, 1, none⟩) hab).trans p1
      replace p2 := (hb27.cell (p := ⟨ab, 2, none⟩) hab).trans p2
      replace hab := Nat.lt_of_lt_of_le hab hb27.size
      replace HB := Lib.hid (HB.out.trans (hb27.mono HB.out.size))
      clear hb27
      go_wp2_with fail
      go_returns
      exact ⟨rfl, HB.out⟩
  · replace HX : Hid (hasB false l_x nc = false) := HX.out
    replace HY : Hid (hasB false l_y nc = false) := HY.out
    go_wp2_with fail
    refine (cidrSure_any _).mono ?_
    rintro e w18 ⟨rfl, hb18⟩
    replace H_ps := Lib.hid (H_ps.out.below hb18)
    replace H_qs := Lib.hid (H_qs.out.below hb18)
    replace H_x := Lib.hid (H_x.out.below hb18)
    replace H_y := Lib.hid (H_y.out.below hb18)
    replace H_z := Lib.hid (H_z.out.below hb18)
    replace H_m := Lib.hid (H_m.out.below hb18)
    replace p0 := (hb18.cell (p := ⟨ab, 0, none⟩) hab).trans p0
    replace p1 := (hb18.cell (p := ⟨ab, 1, none⟩) hab).trans p1
    replace p2 := (hb18.cell (p := ⟨ab, 2, none⟩) hab).trans p2
    replace hab := Nat.lt_of_lt_of_le hab hb18.size
    replace HB := Lib.hid (HB.out.trans (hb18.mono HB.out.size))
    clear hb18
    go_wp2_with fail
    refine (anyHas_any false a_x c_x l_x nc _ H_x.out.sl (by omega) N_x.out.vp HNF.out (fun x hx => (H_x.out.lt x.block (by rw [hx]; rfl)).2)).mono ?_
    rintro e w19 ⟨rfl, hb19⟩
    replace H_ps := Lib.hid (H_ps.out.below hb19)
    replace H_qs := Lib.hid (H_qs.out.below hb19)
    replace H_x := Lib.hid (H_x.out.below hb19)
    replace H_y := Lib.hid (H_y.out.below hb19)
    replace H_z := Lib.hid (H_z.out.below hb19)
    replace H_m := Lib.hid (H_m.out.below hb19)
    replace p0 := (hb19.cell (p := ⟨ab, 0, none⟩) hab).trans p0
    replace p1 := (hb19.cell (p := ⟨ab, 1, none⟩) hab).trans p1
    replace p2 := (hb19.cell (p := ⟨ab, 2, none⟩) hab).trans p2
    replace hab := Nat.lt_of_lt_of_le hab hb19.size
    replace HB := Lib.hid (HB.out.trans (hb19.mono HB.out.size))
    clear hb19
    rw [HX.out]
    go_wp2_with fail
    refine (anyHas_any false a_y c_y l_y nc _ H_y.out.sl (by omega) N_y.out.vp HNF.out (fun x hx => (H_y.out.lt x.block (by rw [hx]; rfl)).2)).mono ?_
    rintro e w20 ⟨rfl, hb20⟩
    replace H_ps := Lib.hid (H_ps.out.below hb20)
    replace H_qs := Lib.hid (H_qs.out.below hb20)
    replace H_x := Lib.hid (H_x.out.below hb20)
    replace H_y := Lib.hid (H_y.out.below hb20)
    replace H_z := Lib.hid (H_z.out.below hb20)
    replace H_m := Lib.hid (H_m.out.below hb20)
    replace p0 := (hb20.cell (p := ⟨ab, 0, none⟩) hab).trans p0
    replace p1 := (hb20.cell (p := ⟨ab, 1, none⟩) hab).trans p1
    replace p2 := (hb20.cell (p := ⟨ab, 2, none⟩) hab).trans p2
    replace hab := Nat.lt_of_lt_of_le hab hb20.size
    replace HB := Lib.hid (HB.out.trans (hb20.mono HB.out.size))
    clear hb20
    rw [HY.out]
    go_wp2_with fail
    refine (samePres_same false a_y a_z c_y c_z l_y _ H_y.out.sl H_z.out.sl (by omega) (fun x hx => (H_y.out.lt x.block (by rw [hx]; rfl)).2) (fun x hx => (H_z.out.lt x.block (by rw [hx]; rfl)).2)).mono ?_
    rintro e w21 ⟨rfl, hb21⟩
    replace H_ps := Lib.hid (H_ps.out.below hb21)
    replace H_qs := Lib.hid (H_qs.out.below hb21)
    replace H_x := Lib.hid (H_x.out.below hb21)
    replace H_y := Lib.hid (H_y.out.below hb21)
    replace H_z := Lib.hid (H_z.out.below hb21)
    replace H_m := Lib.hid (H_m.out.below hb21)
    replace p0 := (hb21.cell (p := ⟨ab, 0, none⟩) hab).trans p0
    replace p1 := (hb21.cell (p := ⟨ab, 1, none⟩) hab).trans p1
    replace p2 := (hb21.cell (p := ⟨ab, 2, none⟩) hab).trans p2
    replace hab := Nat.lt_of_lt_of_le hab hb21.size
    replace HB := Lib.hid (HB.out.trans (hb21.mono HB.out.size))
    clear hb21
    go_wp2_with fail
    refine (plainL_any false a_x c_x _ l_x _ R_x.out.nei H_x.out (by omega)).mono ?_
    rintro e w22 ⟨rfl, hb22⟩
    replace H_ps := Lib.hid (H_ps.out.below hb22)
    replace H_qs := Lib.hid (H_qs.out.below hb22)
    replace H_x := Lib.hid (H_x.out.below hb22)
    replace H_y := Lib.hid (H_y.out.below hb22)
    replace H_z := Lib.hid (H_z.out.below hb22)
    replace H_m := Lib.hid (H_m.out.below hb22)
    replace p0 := (hb22.cell (p := ⟨ab, 0, none⟩) hab).trans p0
    replace p1 := (hb22.cell (p := ⟨ab, 1, none⟩) hab).trans p1
    replace p2 := (hb22.cell (p := ⟨ab, 2, none⟩) hab).trans p2
    replace hab := Nat.lt_of_lt_of_le hab hb22.size
    replace HB := Lib.hid (HB.out.trans (hb22.mono HB.out.size))
    clear hb22
    go_wp2_with fail
    refine (plainL_any false a_y c_y _ l_y _ R_y.out.nei H_y.out (by omega)).mono ?_
    rintro e w23 ⟨rfl, hb23⟩
    replace H_ps := Lib.hid (H_ps.out.below hb23)
    replace H_qs := Lib.hid (H_qs.out.below hb23)
    replace H_x := Lib.hid (H_x.out.below hb23)
    replace H_y := Lib.hid (H_y.out.below hb23)
    replace H_z := Lib.hid (H_z.out.below hb23)
    replace H_m := Lib.hid (H_m.out.below hb23)
    replace p0 := (hb23.cell (p := ⟨ab, 0, none⟩) hab).trans p0
    replace p1 := (hb23.cell (p := ⟨ab, 1, none⟩) hab).trans p1
    replace p2 := (hb23.cell (p := ⟨ab, 2, none⟩) hab).trans p2
    replace hab := Nat.lt_of_lt_of_le hab hb23.size
    replace HB := Lib.hid (HB.out.trans (hb23.mono HB.out.size))
    clear hb23
    by_cases h80 : 80 < l_x.length + l_y.length
    · go_wp2_with fail
      go_returns
      exact ⟨rfl, HB.out⟩
    · go_wp2_with fail
      refine (copiedPres_any false a_x c_x l_x _ H_x.out.sl (by omega)).mono ?_
      rintro e w24 ⟨a_t, c_t, rfl, ho, hb24⟩
      have HT := Lib.hid ho
      have HBT := Lib.hid hb24
      have HZT := Lib.hid hb24.size
      clear ho hb24
      go_wp2_with (at_builtin; refine stop_at ?_; intro G hG)
      rw [← hG.out]; clear hG G
      refine wpList_append_any rfl _ _ 47 30 4 32 _ rfl eiPre _ _ (l_x.map (pfC false)) rfl HT.out _ (l_y.map (pfC false)) rfl (H_y.out.sl.below HBT.out) (by intro c hc; obtain ⟨r, _, rfl⟩ := List.mem_map.1 hc; exact pfC_one false r) (by simp; omega) (by decide) HZT.out ?_
      intro v25 w25 ho hb25'
      have hb25 := HBT.out.trans hb25'
      clear hb25'
      replace H_ps := Lib.hid (H_ps.out.below hb25)
      replace H_qs := Lib.hid (H_qs.out.below hb25)
      replace H_x := Lib.hid (H_x.out.below hb25)
      replace H_y := Lib.hid (H_y.out.below hb25)
      replace H_z := Lib.hid (H_z.out.below hb25)
      replace H_m := Lib.hid (H_m.out.below hb25)
      replace p0 := (hb25.cell (p := ⟨ab, 0, none⟩) hab).trans p0
      replace p1 := (hb25.cell (p := ⟨ab, 1, none⟩) hab).trans p1
      replace p2 := (hb25.cell (p := ⟨ab, 2, none⟩) hab).trans p2
      replace hab := Nat.lt_of_lt_of_le hab hb25.size
      replace HB := Lib.hid (HB.out.trans (hb25.mono HB.out.size))
      rw [← List.map_append] at ho
      obtain ⟨a_t, c_t, rfl⟩ := ho.shape
      rw [List.length_map] at ho ⊢
      obtain ⟨l_t, hl⟩ : ∃ l, l = l_x ++ l_y := ⟨_, rfl⟩
      have N_t : Hid (NearL l_t) := by show NearL l_t; rw [hl]; exact fun x hx => (List.mem_append.1 hx).elim (N_x.out x) (N_y.out x)
      have E_t : Hid (∀ a, InP false l_t a ↔ InP false l_x a ∨ InP false l_y a) := by intro a; rw [hl, InP.append]
      have B_t : l_t.length ≤ 80 := by rw [hl, List.length_append]; omega
      rw [← hl] at ho ⊢
      have H_t := Lib.hid ho
      clear ho hl hb25 HT HBT HZT
      go_wp2_with fail
      refine (mergeR_any a_t c_t l_t _ H_t.out.sl (by omega) N_t.out (fun x hx => (H_t.out.lt x.block (by rw [hx]; rfl)).2)).mono ?_
      rintro e w26 ⟨a_v, c_v, l_v, rfl, hr, ho, hb26⟩
      replace H_ps := Lib.hid (H_ps.out.below hb26)
      replace H_qs := Lib.hid (H_qs.out.below hb26)
      replace H_x := Lib.hid (H_x.out.below hb26)
      replace H_y := Lib.hid (H_y.out.below hb26)
      replace H_z := Lib.hid (H_z.out.below hb26)
      replace H_m := Lib.hid (H_m.out.below hb26)
      replace H_t := Lib.hid (H_t.out.below hb26)
      replace p0 := (hb26.cell (p := ⟨ab, 0, none⟩) hab).trans p0
      replace p1 := (hb26.cell (p := ⟨ab, 1, none⟩) hab).trans p1
      replace p2 := (hb26.cell (p := ⟨ab, 2, none⟩) hab).trans p2
      replace hab := Nat.lt_of_lt_of_le hab hb26.size
      replace HB := Lib.hid (HB.out.trans (hb26.mono HB.out.size))
      have H_v := Lib.hid ho
      have R_v := Lib.hid hr
      have N_v := Lib.hid hr.near
      clear ho hr hb26
      have ev : l_v = l_m := R_v.out.one R_m.out (fun a => by rw [E_t.out, R_x.out.ins, R_y.out.ins]; exact ⟨fun h => h.elim And.left And.left, fun h => (Classical.em (InP false l_qs a)).elim (fun k => .inr ⟨h, k⟩) (fun k => .inl ⟨h, k⟩)⟩)
      subst ev
      go_wp2_with fail
      refine (samePres_same false a_v a_m c_v c_m l_v _ H_v.out.sl H_m.out.sl (by omega) (fun x hx => (H_v.out.lt x.block (by rw [hx]; rfl)).2) (fun x hx => (H_m.out.lt x.block (by rw [hx]; rfl)).2)).mono ?_
      rintro e w27 ⟨rfl, hb27⟩
      replace H_ps := Lib.hid (H_ps.out.below hb27)
      replace H_qs := Lib.hid (H_qs.out.below hb27)
      replace H_x := Lib.hid (H_x.out.below hb27)
      replace H_y := Lib.hid (H_y.out.below hb27)
      replace H_z := Lib.hid (H_z.out.below hb27)
      replace H_m := Lib.hid (H_m.out.below hb27)
      replace H_t := Lib.hid (H_t.out.below hb27)
      replace H_v := Lib.hid (H_v.out.below hb27)
      replace p0 := (hb27.cell (p := ⟨ab, 0, none⟩) hab).trans p0
      replace p1 := (hb27.cell (p := ⟨ab, 1, none⟩) hab).trans p1
      replace p2 := (hb27.cell (p := ⟨ab, 2, none⟩) hab).trans p2
      replace hab := Nat.lt_of_lt_of_le hab hb27.size
      replace HB := Lib.hid (HB.out.trans (hb27.mono HB.out.size))
      clear hb27
      go_wp2_with fail
      go_returns
      exact ⟨rfl, HB.out⟩
  · replace HX : Hid (hasB false l_x nc = true) := HX.out
    replace HY : Hid (hasB false l_y nc = false) := HY.out
    go_wp2_with fail
    refine (cidrSure_any _).mono ?_
    rintro e w18 ⟨rfl, hb18⟩
    replace H_ps := Lib.hid (H_ps.out.below hb18)
    replace H_qs := Lib.hid (H_qs.out.below hb18)
    replace H_x := Lib.hid (H_x.out.below hb18)
    replace H_y := Lib.hid (H_y.out.below hb18)
    replace H_z := Lib.hid (H_z.out.below hb18)
    replace H_m := Lib.hid (H_m.out.below hb18)
    replace p0 := (hb18.cell (p := ⟨ab, 0, none⟩) hab).trans p0
    replace p1 := (hb18.cell (p := ⟨ab, 1, none⟩) hab).trans p1
    replace p2 := (hb18.cell (p := ⟨ab, 2, none⟩) hab).trans p2
    replace hab := Nat.lt_of_lt_of_le hab hb18.size
    replace HB := Lib.hid (HB.out.trans (hb18.mono HB.out.size))
    clear hb18
    go_wp2_with fail
    refine (anyHas_any false a_x c_x l_x nc _ H_x.out.sl (by omega) N_x.out.vp HNF.out (fun x hx => (H_x.out.lt x.block (by rw [hx]; rfl)).2)).mono ?_
    rintro e w19 ⟨rfl, hb19⟩
    replace H_ps := Lib.hid (H_ps.out.below hb19)
    replace H_qs := Lib.hid (H_qs.out.below hb19)
    replace H_x := Lib.hid (H_x.out.below hb19)
    replace H_y := Lib.hid (H_y.out.below hb19)
    replace H_z := Lib.hid (H_z.out.below hb19)
    replace H_m := Lib.hid (H_m.out.below hb19)
    replace p0 := (hb19.cell (p := ⟨ab, 0, none⟩) hab).trans p0
    replace p1 := (hb19.cell (p := ⟨ab, 1, none⟩) hab).trans p1
    replace p2 := (hb19.cell (p := ⟨ab, 2, none⟩) hab).trans p2
    replace hab := Nat.lt_of_lt_of_le hab hb19.size
    replace HB := Lib.hid (HB.out.trans (hb19.mono HB.out.size))
    clear hb19
    rw [HX.out]
    go_wp2_with fail
    refine (anyHas_any false a_y c_y l_y nc _ H_y.out.sl (by omega) N_y.out.vp HNF.out (fun x hx => (H_y.out.lt x.block (by rw [hx]; rfl)).2)).mono ?_
    rintro e w20 ⟨rfl, hb20⟩
    replace H_ps := Lib.hid (H_ps.out.below hb20)
    replace H_qs := Lib.hid (H_qs.out.below hb20)
    replace H_x := Lib.hid (H_x.out.below hb20)
    replace H_y := Lib.hid (H_y.out.below hb20)
    replace H_z := Lib.hid (H_z.out.below hb20)
    replace H_m := Lib.hid (H_m.out.below hb20)
    replace p0 := (hb20.cell (p := ⟨ab, 0, none⟩) hab).trans p0
    replace p1 := (hb20.cell (p := ⟨ab, 1, none⟩) hab).trans p1
    replace p2 := (hb20.cell (p := ⟨ab, 2, none⟩) hab).trans p2
    replace hab := Nat.lt_of_lt_of_le hab hb20.size
    replace HB := Lib.hid (HB.out.trans (hb20.mono HB.out.size))
    clear hb20
    rw [HY.out]
    go_wp2_with fail
    refine (samePres_same false a_y a_z c_y c_z l_y _ H_y.out.sl H_z.out.sl (by omega) (fun x hx => (H_y.out.lt x.block (by rw [hx]; rfl)).2) (fun x hx => (H_z.out.lt x.block (by rw [hx]; rfl)).2)).mono ?_
    rintro e w21 ⟨rfl, hb21⟩
    replace H_ps := Lib.hid (H_ps.out.below hb21)
    replace H_qs := Lib.hid (H_qs.out.below hb21)
    replace H_x := Lib.hid (H_x.out.below hb21)
    replace H_y := Lib.hid (H_y.out.below hb21)
    replace H_z := Lib.hid (H_z.out.below hb21)
    replace H_m := Lib.hid (H_m.out.below hb21)
    replace p0 := (hb21.cell (p := ⟨ab, 0, none⟩) hab).trans p0
    replace p1 := (hb21.cell (p := ⟨ab, 1, none⟩) hab).trans p1
    replace p2 := (hb21.cell (p := ⟨ab, 2, none⟩) hab).trans p2
    replace hab := Nat.lt_of_lt_of_le hab hb21.size
    replace HB := Lib.hid (HB.out.trans (hb21.mono HB.out.size))
    clear hb21
    go_wp2_with fail
    refine (plainL_any false a_x c_x _ l_x _ R_x.out.nei H_x.out (by omega)).mono ?_
    rintro e w22 ⟨rfl, hb22⟩
    replace H_ps := Lib.hid (H_ps.out.below hb22)
    replace H_qs := Lib.hid (H_qs.out.below hb22)
    replace H_x := Lib.hid (H_x.out.below hb22)
    replace H_y := Lib.hid (H_y.out.below hb22)
    replace H_z := Lib.hid (H_z.out.below hb22)
    replace H_m := Lib.hid (H_m.out.below hb22)
    replace p0 := (hb22.cell (p := ⟨ab, 0, none⟩) hab).trans p0
    replace p1 := (hb22.cell (p := ⟨ab, 1, none⟩) hab).trans p1
    replace p2 := (hb22.cell (p := ⟨ab, 2, none⟩) hab).trans p2
    replace hab := Nat.lt_of_lt_of_le hab hb22.size
    replace HB := Lib.hid (HB.out.trans (hb22.mono HB.out.size))
    clear hb22
    go_wp2_with fail
    refine (plainL_any false a_y c_y _ l_y _ R_y.out.nei H_y.out (by omega)).mono ?_
    rintro e w23 ⟨rfl, hb23⟩
    replace H_ps := Lib.hid (H_ps.out.below hb23)
    replace H_qs := Lib.hid (H_qs.out.below hb23)
    replace H_x := Lib.hid (H_x.out.below hb23)
    replace H_y := Lib.hid (H_y.out.below hb23)
    replace H_z := Lib.hid (H_z.out.below hb23)
    replace H_m := Lib.hid (H_m.out.below hb23)
    replace p0 := (hb23.cell (p := ⟨ab, 0, none⟩) hab).trans p0
    replace p1 := (hb23.cell (p := ⟨ab, 1, none⟩) hab).trans p1
    replace p2 := (hb23.cell (p := ⟨ab, 2, none⟩) hab).trans p2
    replace hab := Nat.lt_of_lt_of_le hab hb23.size
    replace HB := Lib.hid (HB.out.trans (hb23.mono HB.out.size))
    clear hb23
    by_cases h80 : 80 < l_x.length + l_y.length
    · go_wp2_with fail
      go_returns
      exact ⟨rfl, HB.out⟩
    · go_wp2_with fail
      refine (copiedPres_any false a_x c_x l_x _ H_x.out.sl (by omega)).mono ?_
      rintro e w24 ⟨a_t, c_t, rfl, ho, hb24⟩
      have HT := Lib.hid ho
      have HBT := Lib.hid hb24
      have HZT := Lib.hid hb24.size
      clear ho hb24
      go_wp2_with (at_builtin; refine stop_at ?_; intro G hG)
      rw [← hG.out]; clear hG G
      refine wpList_append_any rfl _ _ 47 30 4 32 _ rfl eiPre _ _ (l_x.map (pfC false)) rfl HT.out _ (l_y.map (pfC false)) rfl (H_y.out.sl.below HBT.out) (by intro c hc; obtain ⟨r, _, rfl⟩ := List.mem_map.1 hc; exact pfC_one false r) (by simp; omega) (by decide) HZT.out ?_
      intro v25 w25 ho hb25'
      have hb25 := HBT.out.trans hb25'
      clear hb25'
      replace H_ps := Lib.hid (H_ps.out.below hb25)
      replace H_qs := Lib.hid (H_qs.out.below hb25)
      replace H_x := Lib.hid (H_x.out.below hb25)
      replace H_y := Lib.hid (H_y.out.below hb25)
      replace H_z := Lib.hid (H_z.out.below hb25)
      replace H_m := Lib.hid (H_m.out.below hb25)
      replace p0 := (hb25.cell (p := ⟨ab, 0, none⟩) hab).trans p0
      replace p1 := (hb25.cell (p := ⟨ab, 1, none⟩) hab).trans p1
      replace p2 := (hb25.cell (p := ⟨ab, 2, none⟩) hab).trans p2
      replace hab := Nat.lt_of_lt_of_le hab hb25.size
      replace HB := Lib.hid (HB.out.trans (hb25.mono HB.out.size))
      rw [← List.map_append] at ho
      obtain ⟨a_t, c_t, rfl⟩ := ho.shape
      rw [List.length_map] at ho ⊢
      obtain ⟨l_t, hl⟩ : ∃ l, l = l_x ++ l_y := ⟨_, rfl⟩
      have N_t : Hid (NearL l_t) := by show NearL l_t; rw [hl]; exact fun x hx => (List.mem_append.1 hx).elim (N_x.out x) (N_y.out x)
      have E_t : Hid (∀ a, InP false l_t a ↔ InP false l_x a ∨ InP false l_y a) := by intro a; rw [hl, InP.append]
      have B_t : l_t.length ≤ 80 := by rw [hl, List.length_append]; omega
      rw [← hl] at ho ⊢
      have H_t := Lib.hid ho
      clear ho hl hb25 HT HBT HZT
      go_wp2_with fail
      refine (mergeR_any a_t c_t l_t _ H_t.out.sl (by omega) N_t.out (fun x hx => (H_t.out.lt x.block (by rw [hx]; rfl)).2)).mono ?_
      rintro e w26 ⟨a_v, c_v, l_v, rfl, hr, ho, hb26⟩
      replace H_ps := Lib.hid (H_ps.out.below hb26)
      replace H_qs := Lib.hid (H_qs.out.below hb26)
      replace H_x := Lib.hid (H_x.out.below hb26)
      replace H_y := Lib.hid (H_y.out.below hb26)
      replace H_z := Lib.hid (H_z.out.below hb26)
      replace H_m := Lib.hid (H_m.out.below hb26)
      replace H_t := Lib.hid (H_t.out.below hb26)
      replace p0 := (hb26.cell (p := ⟨ab, 0, none⟩) hab).trans p0
      replace p1 := (hb26.cell (p := ⟨ab, 1, none⟩) hab).trans p1
      replace p2 := (hb26.cell (p := ⟨ab, 2, none⟩) hab).trans p2
      replace hab := Nat.lt_of_lt_of_le hab hb26.size
      replace HB := Lib.hid (HB.out.trans (hb26.mono HB.out.size))
      have H_v := Lib.hid ho
      have R_v := Lib.hid hr
      have N_v := Lib.hid hr.near
      clear ho hr hb26
      have ev : l_v = l_m := R_v.out.one R_m.out (fun a => by rw [E_t.out, R_x.out.ins, R_y.out.ins]; exact ⟨fun h => h.elim And.left And.left, fun h => (Classical.em (InP false l_qs a)).elim (fun k => .inr ⟨h, k⟩) (fun k => .inl ⟨h, k⟩)⟩)
      subst ev
      go_wp2_with fail
      refine (samePres_same false a_v a_m c_v c_m l_v _ H_v.out.sl H_m.out.sl (by omega) (fun x hx => (H_v.out.lt x.block (by rw [hx]; rfl)).2) (fun x hx => (H_m.out.lt x.block (by rw [hx]; rfl)).2)).mono ?_
      rintro e w27 ⟨rfl, hb27⟩
      replace H_ps := Lib.hid (H_ps.out.below hb27)
      replace H_qs := Lib.hid (H_qs.out.below hb27)
      replace H_x := Lib.hid (H_x.out.below hb27)
      replace H_y := Lib.hid (H_y.out.below hb27)
      replace H_z := Lib.hid (H_z.out.below hb27)
      replace H_m := Lib.hid (H_m.out.below hb27)
      replace H_t := Lib.hid (H_t.out.below hb27)
      replace H_v := Lib.hid (H_v.out.below hb27)
      replace p0 := (hb27.cell (p := ⟨ab, 0, none⟩) hab).trans p0
      replace p1 := (hb27.cell (p := ⟨ab, 1, none⟩) hab).trans p1
      replace p2 := (hb27.cell (p := ⟨ab, 2, none⟩) hab).trans p2
      replace hab := Nat.lt_of_lt_of_le hab hb27.size
      replace HB := Lib.hid (HB.out.trans (hb27.mono HB.out.size))
      clear hb27
      go_wp2_with fail
      go_returns
      exact ⟨rfl, HB.out⟩
  · replace HX : Hid (hasB false l_x nc = false) := HX.out
    replace HY : Hid (hasB false l_y nc = true) := HY.out
    go_wp2_with fail
    refine (cidrSure_any _).mono ?_
    rintro e w18 ⟨rfl, hb18⟩
    replace H_ps := Lib.hid (H_ps.out.below hb18)
    replace H_qs := Lib.hid (H_qs.out.below hb18)
    replace H_x := Lib.hid (H_x.out.below hb18)
    replace H_y := Lib.hid (H_y.out.below hb18)
    replace H_z := Lib.hid (H_z.out.below hb18)
    replace H_m := Lib.hid (H_m.out.below hb18)
    replace p0 := (hb18.cell (p := ⟨ab, 0, none⟩) hab).trans p0
    replace p1 := (hb18.cell (p := ⟨ab, 1, none⟩) hab).trans p1
    replace p2 := (hb18.cell (p := ⟨ab, 2, none⟩) hab).trans p2
    replace hab := Nat.lt_of_lt_of_le hab hb18.size
    replace HB := Lib.hid (HB.out.trans (hb18.mono HB.out.size))
    clear hb18
    go_wp2_with fail
    refine (anyHas_any false a_x c_x l_x nc _ H_x.out.sl (by omega) N_x.out.vp HNF.out (fun x hx => (H_x.out.lt x.block (by rw [hx]; rfl)).2)).mono ?_
    rintro e w19 ⟨rfl, hb19⟩
    replace H_ps := Lib.hid (H_ps.out.below hb19)
    replace H_qs := Lib.hid (H_qs.out.below hb19)
    replace H_x := Lib.hid (H_x.out.below hb19)
    replace H_y := Lib.hid (H_y.out.below hb19)
    replace H_z := Lib.hid (H_z.out.below hb19)
    replace H_m := Lib.hid (H_m.out.below hb19)
    replace p0 := (hb19.cell (p := ⟨ab, 0, none⟩) hab).trans p0
    replace p1 := (hb19.cell (p := ⟨ab, 1, none⟩) hab).trans p1
    replace p2 := (hb19.cell (p := ⟨ab, 2, none⟩) hab).trans p2
    replace hab := Nat.lt_of_lt_of_le hab hb19.size
    replace HB := Lib.hid (HB.out.trans (hb19.mono HB.out.size))
    clear hb19
    rw [HX.out]
    go_wp2_with fail
    refine (anyHas_any false a_y c_y l_y nc _ H_y.out.sl (by omega) N_y.out.vp HNF.out (fun x hx => (H_y.out.lt x.block (by rw [hx]; rfl)).2)).mono ?_
    rintro e w20 ⟨rfl, hb20⟩
    replace H_ps := Lib.hid (H_ps.out.below hb20)
    replace H_qs := Lib.hid (H_qs.out.below hb20)
    replace H_x := Lib.hid (H_x.out.below hb20)
    replace H_y := Lib.hid (H_y.out.below hb20)
    replace H_z := Lib.hid (H_z.out.below hb20)
    replace H_m := Lib.hid (H_m.out.below hb20)
    replace p0 := (hb20.cell (p := ⟨ab, 0, none⟩) hab).trans p0
    replace p1 := (hb20.cell (p := ⟨ab, 1, none⟩) hab).trans p1
    replace p2 := (hb20.cell (p := ⟨ab, 2, none⟩) hab).trans p2
    replace hab := Nat.lt_of_lt_of_le hab hb20.size
    replace HB := Lib.hid (HB.out.trans (hb20.mono HB.out.size))
    clear hb20
    rw [HY.out]
    go_wp2_with fail
    refine (samePres_same false a_y a_z c_y c_z l_y _ H_y.out.sl H_z.out.sl (by omega) (fun x hx => (H_y.out.lt x.block (by rw [hx]; rfl)).2) (fun x hx => (H_z.out.lt x.block (by rw [hx]; rfl)).2)).mono ?_
    rintro e w21 ⟨rfl, hb21⟩
    replace H_ps := Lib.hid (H_ps.out.below hb21)
    replace H_qs := Lib.hid (H_qs.out.below hb21)
    replace H_x := Lib.hid (H_x.out.below hb21)
    replace H_y := Lib.hid (H_y.out.below hb21)
    replace H_z := Lib.hid (H_z.out.below hb21)
    replace H_m := Lib.hid (H_m.out.below hb21)
    replace p0 := (hb21.cell (p := ⟨ab, 0, none⟩) hab).trans p0
    replace p1 := (hb21.cell (p := ⟨ab, 1, none⟩) hab).trans p1
    replace p2 := (hb21.cell (p := ⟨ab, 2, none⟩) hab).trans p2
    replace hab := Nat.lt_of_lt_of_le hab hb21.size
    replace HB := Lib.hid (HB.out.trans (hb21.mono HB.out.size))
    clear hb21
    go_wp2_with fail
    refine (plainL_any false a_x c_x _ l_x _ R_x.out.nei H_x.out (by omega)).mono ?_
    rintro e w22 ⟨rfl, hb22⟩
    replace H_ps := Lib.hid (H_ps.out.below hb22)
    replace H_qs := Lib.hid (H_qs.out.below hb22)
    replace H_x := Lib.hid (H_x.out.below hb22)
    replace H_y := Lib.hid (H_y.out.below hb22)
    replace H_z := Lib.hid (H_z.out.below hb22)
    replace H_m := Lib.hid (H_m.out.below hb22)
    replace p0 := (hb22.cell (p := ⟨ab, 0, none⟩) hab).trans p0
    replace p1 := (hb22.cell (p := ⟨ab, 1, none⟩) hab).trans p1
    replace p2 := (hb22.cell (p := ⟨ab, 2, none⟩) hab).trans p2
    replace hab := Nat.lt_of_lt_of_le hab hb22.size
    replace HB := Lib.hid (HB.out.trans (hb22.mono HB.out.size))
    clear hb22
    go_wp2_with fail
    refine (plainL_any false a_y c_y _ l_y _ R_y.out.nei H_y.out (by omega)).mono ?_
    rintro e w23 ⟨rfl, hb23⟩
    replace H_ps := Lib.hid (H_ps.out.below hb23)
    replace H_qs := Lib.hid (H_qs.out.below hb23)
    replace H_x := Lib.hid (H_x.out.below hb23)
    replace H_y := Lib.hid (H_y.out.below hb23)
    replace H_z := Lib.hid (H_z.out.below hb23)
    replace H_m := Lib.hid (H_m.out.below hb23)
    replace p0 := (hb23.cell (p := ⟨ab, 0, none⟩) hab).trans p0
    replace p1 := (hb23.cell (p := ⟨ab, 1, none⟩) hab).trans p1
    replace p2 := (hb23.cell (p := ⟨ab, 2, none⟩) hab).trans p2
    replace hab := Nat.lt_of_lt_of_le hab hb23.size
    replace HB := Lib.hid (HB.out.trans (hb23.mono HB.out.size))
    clear hb23
    by_cases h80 : 80 < l_x.length + l_y.length
    · go_wp2_with fail
      go_returns
      exact ⟨rfl, HB.out⟩
    · go_wp2_with fail
      refine (copiedPres_any false a_x c_x l_x _ H_x.out.sl (by omega)).mono ?_
      rintro e w24 ⟨a_t, c_t, rfl, ho, hb24⟩
      have HT := Lib.hid ho
      have HBT := Lib.hid hb24
      have HZT := Lib.hid hb24.size
      clear ho hb24
      go_wp2_with (at_builtin; refine stop_at ?_; intro G hG)
      rw [← hG.out]; clear hG G
      refine wpList_append_any rfl _ _ 47 30 4 32 _ rfl eiPre _ _ (l_x.map (pfC false)) rfl HT.out _ (l_y.map (pfC false)) rfl (H_y.out.sl.below HBT.out) (by intro c hc; obtain ⟨r, _, rfl⟩ := List.mem_map.1 hc; exact pfC_one false r) (by simp; omega) (by decide) HZT.out ?_
      intro v25 w25 ho hb25'
      have hb25 := HBT.out.trans hb25'
      clear hb25'
      replace H_ps := Lib.hid (H_ps.out.below hb25)
      replace H_qs := Lib.hid (H_qs.out.below hb25)
      replace H_x := Lib.hid (H_x.out.below hb25)
      replace H_y := Lib.hid (H_y.out.below hb25)
      replace H_z := Lib.hid (H_z.out.below hb25)
      replace H_m := Lib.hid (H_m.out.below hb25)
      replace p0 := (hb25.cell (p := ⟨ab, 0, none⟩) hab).trans p0
      replace p1 := (hb25.cell (p := ⟨ab, 1, none⟩) hab).trans p1
      replace p2 := (hb25.cell (p := ⟨ab, 2, none⟩) hab).trans p2
      replace hab := Nat.lt_of_lt_of_le hab hb25.size
      replace HB := Lib.hid (HB.out.trans (hb25.mono HB.out.size))
      rw [← List.map_append] at ho
      obtain ⟨a_t, c_t, rfl⟩ := ho.shape
      rw [List.length_map] at ho ⊢
      obtain ⟨l_t, hl⟩ : ∃ l, l = l_x ++ l_y := ⟨_, rfl⟩
      have N_t : Hid (NearL l_t) := by show NearL l_t; rw [hl]; exact fun x hx => (List.mem_append.1 hx).elim (N_x.out x) (N_y.out x)
      have E_t : Hid (∀ a, InP false l_t a ↔ InP false l_x a ∨ InP false l_y a) := by intro a; rw [hl, InP.append]
      have B_t : l_t.length ≤ 80 := by rw [hl, List.length_append]; omega
      rw [← hl] at ho ⊢
      have H_t := Lib.hid ho
      clear ho hl hb25 HT HBT HZT
      go_wp2_with fail
      refine (mergeR_any a_t c_t l_t _ H_t.out.sl (by omega) N_t.out (fun x hx => (H_t.out.lt x.block (by rw [hx]; rfl)).2)).mono ?_
      rintro e w26 ⟨a_v, c_v, l_v, rfl, hr, ho, hb26⟩
      replace H_ps := Lib.hid (H_ps.out.below hb26)
      replace H_qs := Lib.hid (H_qs.out.below hb26)
      replace H_x := Lib.hid (H_x.out.below hb26)
      replace H_y := Lib.hid (H_y.out.below hb26)
      replace H_z := Lib.hid (H_z.out.below hb26)
      replace H_m := Lib.hid (H_m.out.below hb26)
      replace H_t := Lib.hid (H_t.out.below hb26)
      replace p0 := (hb26.cell (p := ⟨ab, 0, none⟩) hab).trans p0
      replace p1 := (hb26.cell (p := ⟨ab, 1, none⟩) hab).trans p1
      replace p2 := (hb26.cell (p := ⟨ab, 2, none⟩) hab).trans p2
      replace hab := Nat.lt_of_lt_of_le hab hb26.size
      replace HB := Lib.hid (HB.out.trans (hb26.mono HB.out.size))
      have H_v := Lib.hid ho
      have R_v := Lib.hid hr
      have N_v := Lib.hid hr.near
      clear ho hr hb26
      have ev : l_v = l_m := R_v.out.one R_m.out (fun a => by rw [E_t.out, R_x.out.ins, R_y.out.ins]; exact ⟨fun h => h.elim And.left And.left, fun h => (Classical.em (InP false l_qs a)).elim (fun k => .inr ⟨h, k⟩) (fun k => .inl ⟨h, k⟩)⟩)
      subst ev
      go_wp2_with fail
      refine (samePres_same false a_v a_m c_v c_m l_v _ H_v.out.sl H_m.out.sl (by omega) (fun x hx => (H_v.out.lt x.block (by rw [hx]; rfl)).2) (fun x hx => (H_m.out.lt x.block (by rw [hx]; rfl)).2)).mono ?_
      rintro e w27 ⟨rfl, hb27⟩
      replace H_ps := Lib.hid (H_ps.out.below hb27)
      replace H_qs := Lib.hid (H_qs.out.below hb27)
      replace H_x := Lib.hid (H_x.out.below hb27)
      replace H_y := Lib.hid (H_y.out.below hb27)
      replace H_z := Lib.hid (H_z.out.below hb27)
      replace H_m := Lib.hid (H_m.out.below hb27)
      replace H_t := Lib.hid (H_t.out.below hb27)
      replace H_v := Lib.hid (H_v.out.below hb27)
      replace p0 := (hb27.cell (p := ⟨ab, 0, none⟩) hab).trans p0
      replace p1 := (hb27.cell (p := ⟨ab, 1, none⟩) hab).trans p1
      replace p2 := (hb27.cell (p := ⟨ab, 2, none⟩) hab).trans p2
      replace hab := Nat.lt_of_lt_of_le hab hb27.size
      replace HB := Lib.hid (HB.out.trans (hb27.mono HB.out.size))
      clear hb27
      go_wp2_with fail
      go_returns
      exact ⟨rfl, HB.out⟩
end Go.Proofs.Ytoecmoicaklbaaa
