
/- MinusMinus: the walk. -/
import Derived.Test.YtoecmoicaklbaaaMb
set_option linter.unusedVariables false
set_option linter.unusedSimpArgs false
namespace Go.Proofs.Ytoecmoicaklbaaa
open Go Go.RowKit Go.Sort Wc Wk


set_option maxRecDepth 100000 in
set_option maxHeartbeats 8000000 in
theorem minusMinus_walk (a1 : Option Addr) (len1 cap1 : Nat) (zs1 : List Int) (a2 : Option Addr) (len2 cap2 : Nat) (zs2 : List Int) (a3 : Option Addr) (len3 cap3 : Nat) (zs3 : List Int) (w : World) (h1 : IsRow .i64 w a1 len1 cap1 zs1) (h2 : IsRow .i64 w a2 len2 cap2 zs2) (h3 : IsRow .i64 w a3 len3 cap3 zs3) :
    Calls Try.prog 6 #[.slice a1 len1 cap1, .slice a2 len2 cap2, .slice a3 len3 cap3] w fun e w' => e = .returned (.bool true) ∧ Below w.heap.size w w' := by
  have H_r1 := Lib.hid h1
  have H_r2 := Lib.hid h2
  have H_r3 := Lib.hid h3
  have HB := Lib.hid (Below.refl w.heap.size w)
  clear h1 h2 h3
  go_enter Try.func6, Try.ntmps6
  go_wp2_with fail
  refine (presL_any a1 len1 cap1 zs1 12 _ H_r1.out (by decide)).mono ?_
  rintro e w1 ⟨a_a, c_a, l_a, rfl, nl, B_a, ho, hb1⟩
  clear H_r1
  replace H_r2 := Lib.hid (row_belowP H_r2.out hb1)
  replace H_r3 := Lib.hid (row_belowP H_r3.out hb1)
  replace HB := Lib.hid (HB.out.trans (hb1.mono HB.out.size))
  have H_a := Lib.hid ho
  have N_a := Lib.hid nl
  clear ho nl hb1
  go_wp2_with fail
  refine (presL_any a2 len2 cap2 zs2 12 _ H_r2.out (by decide)).mono ?_
  rintro e w2 ⟨a_b, c_b, l_b, rfl, nl, B_b, ho, hb2⟩
  clear H_r2
  replace H_a := Lib.hid (H_a.out.below hb2)
  replace H_r3 := Lib.hid (row_belowP H_r3.out hb2)
  replace HB := Lib.hid (HB.out.trans (hb2.mono HB.out.size))
  have H_b := Lib.hid ho
  have N_b := Lib.hid nl
  clear ho nl hb2
  go_wp2_with fail
  refine (presL_any a3 len3 cap3 zs3 12 _ H_r3.out (by decide)).mono ?_
  rintro e w3 ⟨a_c, c_c, l_c, rfl, nl, B_c, ho, hb3⟩
  clear H_r3
  replace H_a := Lib.hid (H_a.out.below hb3)
  replace H_b := Lib.hid (H_b.out.below hb3)
  replace HB := Lib.hid (HB.out.trans (hb3.mono HB.out.size))
  have H_c := Lib.hid ho
  have N_c := Lib.hid nl
  clear ho nl hb3
  go_wp2_with fail
  refine (copiedPres_any false a_a c_a l_a _ H_a.out.sl (by omega)).mono ?_
  rintro e w4 ⟨a_c1, c_c1, rfl, ho, hb4⟩
  replace H_a := Lib.hid (H_a.out.below hb4)
  replace H_b := Lib.hid (H_b.out.below hb4)
  replace H_c := Lib.hid (H_c.out.below hb4)
  replace HB := Lib.hid (HB.out.trans (hb4.mono HB.out.size))
  have H_c1 := Lib.hid ho
  clear ho hb4
  go_wp2_with fail
  refine (copiedPres_any false a_b c_b l_b _ H_b.out.sl (by omega)).mono ?_
  rintro e w5 ⟨a_c2, c_c2, rfl, ho, hb5⟩
  replace H_a := Lib.hid (H_a.out.below hb5)
  replace H_b := Lib.hid (H_b.out.below hb5)
  replace H_c := Lib.hid (H_c.out.below hb5)
  replace H_c1 := Lib.hid (H_c1.out.below hb5)
  replace HB := Lib.hid (HB.out.trans (hb5.mono HB.out.size))
  have H_c2 := Lib.hid ho
  clear ho hb5
  go_wp2_with fail
  refine (minus_any a_c1 c_c1 l_a a_c2 c_c2 l_b _ H_c1.out.sl H_c2.out.sl (by omega) (by omega) N_a.out N_b.out (fun x hx => (H_c1.out.lt x.block (by rw [hx]; rfl)).2) (fun x hx => (H_c2.out.lt x.block (by rw [hx]; rfl)).2)).mono ?_
  rintro e w6 ⟨a_x, c_x, l_x, rfl, hr, ho, hb6⟩
  replace H_a := Lib.hid (H_a.out.below hb6)
  replace H_b := Lib.hid (H_b.out.below hb6)
  replace H_c := Lib.hid (H_c.out.below hb6)
  replace H_c1 := Lib.hid (H_c1.out.below hb6)
  replace H_c2 := Lib.hid (H_c2.out.below hb6)
  replace HB := Lib.hid (HB.out.trans (hb6.mono HB.out.size))
  have H_x := Lib.hid ho
  have R_x := Lib.hid hr
  have N_x := Lib.hid hr.near
  clear ho hr hb6
  have B_x := R_x.out.len
  clear H_c1 H_c2
  by_cases h80 : 80 < l_x.length
  · go_wp2_with fail
    refine (cidrSure_any _).mono ?_
    rintro e w7 ⟨rfl, hb7⟩
    replace H_a := Lib.hid (H_a.out.below hb7)
    replace H_b := Lib.hid (H_b.out.below hb7)
    replace H_c := Lib.hid (H_c.out.below hb7)
    replace H_x := Lib.hid (H_x.out.below hb7)
    replace HB := Lib.hid (HB.out.trans (hb7.mono HB.out.size))
    clear hb7
    go_wp2_with fail
    go_returns
    exact ⟨rfl, HB.out⟩
  · go_wp2_with fail
    refine (copiedPres_any false a_c c_c l_c _ H_c.out.sl (by omega)).mono ?_
    rintro e w7 ⟨a_c1, c_c1, rfl, ho, hb7⟩
    replace H_a := Lib.hid (H_a.out.below hb7)
    replace H_b := Lib.hid (H_b.out.below hb7)
    replace H_c := Lib.hid (H_c.out.below hb7)
    replace H_x := Lib.hid (H_x.out.below hb7)
    replace HB := Lib.hid (HB.out.trans (hb7.mono HB.out.size))
    have H_c1 := Lib.hid ho
    clear ho hb7
    go_wp2_with fail
    refine (minus_any a_x c_x l_x a_c1 c_c1 l_c _ H_x.out.sl H_c1.out.sl (by omega) (by omega) N_x.out N_c.out (fun x hx => (H_x.out.lt x.block (by rw [hx]; rfl)).2) (fun x hx => (H_c1.out.lt x.block (by rw [hx]; rfl)).2)).mono ?_
    rintro e w8 ⟨a_y, c_y, l_y, rfl, hr, ho, hb8⟩
    replace H_a := Lib.hid (H_a.out.below hb8)
    replace H_b := Lib.hid (H_b.out.below hb8)
    replace H_c := Lib.hid (H_c.out.below hb8)
    replace H_x := Lib.hid (H_x.out.below hb8)
    replace H_c1 := Lib.hid (H_c1.out.below hb8)
    replace HB := Lib.hid (HB.out.trans (hb8.mono HB.out.size))
    have H_y := Lib.hid ho
    have R_y := Lib.hid hr
    have N_y := Lib.hid hr.near
    clear ho hr hb8
    have B_y := R_y.out.len
    clear H_c1
    go_wp2_with fail
    refine (copiedPres_any false a_a c_a l_a _ H_a.out.sl (by omega)).mono ?_
    rintro e w9 ⟨a_c1, c_c1, rfl, ho, hb9⟩
    replace H_a := Lib.hid (H_a.out.below hb9)
    replace H_b := Lib.hid (H_b.out.below hb9)
    replace H_c := Lib.hid (H_c.out.below hb9)
    replace H_x := Lib.hid (H_x.out.below hb9)
    replace H_y := Lib.hid (H_y.out.below hb9)
    replace HB := Lib.hid (HB.out.trans (hb9.mono HB.out.size))
    have H_c1 := Lib.hid ho
    clear ho hb9
    go_wp2_with fail
    refine (copiedPres_any false a_b c_b l_b _ H_b.out.sl (by omega)).mono ?_
    rintro e w10 ⟨a_t, c_t, rfl, ho, hb10⟩
    have HT := Lib.hid ho
    have HBT := Lib.hid hb10
    have HZT := Lib.hid hb10.size
    clear ho hb10
    go_wp2_with (at_builtin; refine stop_at ?_; intro G hG)
    rw [← hG.out]; clear hG G
    refine wpList_append_any rfl _ _ 47 30 4 32 _ rfl eiPre _ _ (l_b.map (pfC false)) rfl HT.out _ (l_c.map (pfC false)) rfl (H_c.out.sl.below HBT.out) (by intro c hc; obtain ⟨r, _, rfl⟩ := List.mem_map.1 hc; exact pfC_one false r) (by simp; omega) (by decide) HZT.out ?_
    intro v11 w11 ho hb11'
    have hb11 := HBT.out.trans hb11'
    clear hb11'
    replace H_a := Lib.hid (H_a.out.below hb11)
    replace H_b := Lib.hid (H_b.out.below hb11)
    replace H_c := Lib.hid (H_c.out.below hb11)
    replace H_x := Lib.hid (H_x.out.below hb11)
    replace H_y := Lib.hid (H_y.out.below hb11)
    replace H_c1 := Lib.hid (H_c1.out.below hb11)
    replace HB := Lib.hid (HB.out.trans (hb11.mono HB.out.size))
    rw [← List.map_append] at ho
    obtain ⟨a_t, c_t, rfl⟩ := ho.shape
    rw [List.length_map] at ho ⊢
    obtain ⟨l_t, hl⟩ : ∃ l, l = l_b ++ l_c := ⟨_, rfl⟩
    have N_t : Hid (NearL l_t) := by show NearL l_t; rw [hl]; exact fun x hx => (List.mem_append.1 hx).elim (N_b.out x) (N_c.out x)
    have E_t : Hid (∀ a, InP false l_t a ↔ InP false l_b a ∨ InP false l_c a) := by intro a; rw [hl, InP.append]
    have B_t : l_t.length ≤ 80 := by rw [hl, List.length_append]; omega
    rw [← hl] at ho ⊢
    have H_t := Lib.hid ho
    clear ho hl hb11 HT HBT HZT
    go_wp2_with fail
    refine (minus_any a_c1 c_c1 l_a a_t c_t l_t _ H_c1.out.sl H_t.out.sl (by omega) (by omega) N_a.out N_t.out (fun x hx => (H_c1.out.lt x.block (by rw [hx]; rfl)).2) (fun x hx => (H_t.out.lt x.block (by rw [hx]; rfl)).2)).mono ?_
    rintro e w12 ⟨a_z, c_z, l_z, rfl, hr, ho, hb12⟩
    replace H_a := Lib.hid (H_a.out.below hb12)
    replace H_b := Lib.hid (H_b.out.below hb12)
    replace H_c := Lib.hid (H_c.out.below hb12)
    replace H_x := Lib.hid (H_x.out.below hb12)
    replace H_y := Lib.hid (H_y.out.below hb12)
    replace H_c1 := Lib.hid (H_c1.out.below hb12)
    replace H_t := Lib.hid (H_t.out.below hb12)
    replace HB := Lib.hid (HB.out.trans (hb12.mono HB.out.size))
    have H_z := Lib.hid ho
    have R_z := Lib.hid hr
    have N_z := Lib.hid hr.near
    clear ho hr hb12
    clear H_c1 H_t
    have ez : l_y = l_z := R_y.out.one R_z.out (fun k => by rw [R_x.out.ins, E_t.out]; exact ⟨fun h => ⟨h.1.1, fun q => q.elim h.1.2 h.2⟩, fun h => ⟨⟨h.1, fun q => h.2 (.inl q)⟩, fun q => h.2 (.inr q)⟩⟩)
    subst ez
    clear R_z N_z
    go_wp2_with fail
    refine (copiedPres_any false a_b c_b l_b _ H_b.out.sl (by omega)).mono ?_
    rintro e w13 ⟨a_c1, c_c1, rfl, ho, hb13⟩
    replace H_a := Lib.hid (H_a.out.below hb13)
    replace H_b := Lib.hid (H_b.out.below hb13)
    replace H_c := Lib.hid (H_c.out.below hb13)
    replace H_x := Lib.hid (H_x.out.below hb13)
    replace H_y := Lib.hid (H_y.out.below hb13)
    replace H_z := Lib.hid (H_z.out.below hb13)
    replace HB := Lib.hid (HB.out.trans (hb13.mono HB.out.size))
    have H_c1 := Lib.hid ho
    clear ho hb13
    go_wp2_with fail
    refine (copiedPres_any false a_c c_c l_c _ H_c.out.sl (by omega)).mono ?_
    rintro e w14 ⟨a_c2, c_c2, rfl, ho, hb14⟩
    replace H_a := Lib.hid (H_a.out.below hb14)
    replace H_b := Lib.hid (H_b.out.below hb14)
    replace H_c := Lib.hid (H_c.out.below hb14)
    replace H_x := Lib.hid (H_x.out.below hb14)
    replace H_y := Lib.hid (H_y.out.below hb14)
    replace H_z := Lib.hid (H_z.out.below hb14)
    replace H_c1 := Lib.hid (H_c1.out.below hb14)
    replace HB := Lib.hid (HB.out.trans (hb14.mono HB.out.size))
    have H_c2 := Lib.hid ho
    clear ho hb14
    go_wp2_with fail
    refine (both_any a_c1 c_c1 l_b a_c2 c_c2 l_c _ H_c1.out.sl H_c2.out.sl (by omega) (by omega) N_b.out N_c.out (fun x hx => (H_c1.out.lt x.block (by rw [hx]; rfl)).2) (fun x hx => (H_c2.out.lt x.block (by rw [hx]; rfl)).2)).mono ?_
    rintro e w15 ⟨a_o, c_o, l_o, rfl, hr, ho, hb15⟩
    replace H_a := Lib.hid (H_a.out.below hb15)
    replace H_b := Lib.hid (H_b.out.below hb15)
    replace H_c := Lib.hid (H_c.out.below hb15)
    replace H_x := Lib.hid (H_x.out.below hb15)
    replace H_y := Lib.hid (H_y.out.below hb15)
    replace H_z := Lib.hid (H_z.out.below hb15)
    replace H_c1 := Lib.hid (H_c1.out.below hb15)
    replace H_c2 := Lib.hid (H_c2.out.below hb15)
    replace HB := Lib.hid (HB.out.trans (hb15.mono HB.out.size))
    have H_o := Lib.hid ho
    have R_o := Lib.hid hr
    have N_o := Lib.hid hr.near
    clear ho hr hb15
    have B_o := both_few N_b.out N_c.out R_o.out
    clear H_c1 H_c2
    go_wp2_with fail
    refine (copiedPres_any false a_a c_a l_a _ H_a.out.sl (by omega)).mono ?_
    rintro e w16 ⟨a_c1, c_c1, rfl, ho, hb16⟩
    replace H_a := Lib.hid (H_a.out.below hb16)
    replace H_b := Lib.hid (H_b.out.below hb16)
    replace H_c := Lib.hid (H_c.out.below hb16)
    replace H_x := Lib.hid (H_x.out.below hb16)
    replace H_y := Lib.hid (H_y.out.below hb16)
    replace H_z := Lib.hid (H_z.out.below hb16)
    replace H_o := Lib.hid (H_o.out.below hb16)
    replace HB := Lib.hid (HB.out.trans (hb16.mono HB.out.size))
    have H_c1 := Lib.hid ho
    clear ho hb16
    go_wp2_with fail
    refine (minus_any a_c1 c_c1 l_a a_o c_o l_o _ H_c1.out.sl H_o.out.sl (by omega) (by omega) N_a.out N_o.out (fun x hx => (H_c1.out.lt x.block (by rw [hx]; rfl)).2) (fun x hx => (H_o.out.lt x.block (by rw [hx]; rfl)).2)).mono ?_
    rintro e w17 ⟨a_u, c_u, l_u, rfl, hr, ho, hb17⟩
    replace H_a := Lib.hid (H_a.out.below hb17)
    replace H_b := Lib.hid (H_b.out.below hb17)
    replace H_c := Lib.hid (H_c.out.below hb17)
    replace H_x := Lib.hid (H_x.out.below hb17)
    replace H_y := Lib.hid (H_y.out.below hb17)
    replace H_z := Lib.hid (H_z.out.below hb17)
    replace H_o := Lib.hid (H_o.out.below hb17)
    replace H_c1 := Lib.hid (H_c1.out.below hb17)
    replace HB := Lib.hid (HB.out.trans (hb17.mono HB.out.size))
    have H_u := Lib.hid ho
    have R_u := Lib.hid hr
    have N_u := Lib.hid hr.near
    clear ho hr hb17
    have B_u := R_u.out.len
    clear H_c1
    go_wp2_with fail
    refine (copiedPres_any false a_a c_a l_a _ H_a.out.sl (by omega)).mono ?_
    rintro e w18 ⟨a_c1, c_c1, rfl, ho, hb18⟩
    replace H_a := Lib.hid (H_a.out.below hb18)
    replace H_b := Lib.hid (H_b.out.below hb18)
    replace H_c := Lib.hid (H_c.out.below hb18)
    replace H_x := Lib.hid (H_x.out.below hb18)
    replace H_y := Lib.hid (H_y.out.below hb18)
    replace H_z := Lib.hid (H_z.out.below hb18)
    replace H_o := Lib.hid (H_o.out.below hb18)
    replace H_u := Lib.hid (H_u.out.below hb18)
    replace HB := Lib.hid (HB.out.trans (hb18.mono HB.out.size))
    have H_c1 := Lib.hid ho
    clear ho hb18
    go_wp2_with fail
    refine (copiedPres_any false a_c c_c l_c _ H_c.out.sl (by omega)).mono ?_
    rintro e w19 ⟨a_c2, c_c2, rfl, ho, hb19⟩
    replace H_a := Lib.hid (H_a.out.below hb19)
    replace H_b := Lib.hid (H_b.out.below hb19)
    replace H_c := Lib.hid (H_c.out.below hb19)
    replace H_x := Lib.hid (H_x.out.below hb19)
    replace H_y := Lib.hid (H_y.out.below hb19)
    replace H_z := Lib.hid (H_z.out.below hb19)
    replace H_o := Lib.hid (H_o.out.below hb19)
    replace H_u := Lib.hid (H_u.out.below hb19)
    replace H_c1 := Lib.hid (H_c1.out.below hb19)
    replace HB := Lib.hid (HB.out.trans (hb19.mono HB.out.size))
    have H_c2 := Lib.hid ho
    clear ho hb19
    go_wp2_with fail
    refine (minus_any a_c1 c_c1 l_a a_c2 c_c2 l_c _ H_c1.out.sl H_c2.out.sl (by omega) (by omega) N_a.out N_c.out (fun x hx => (H_c1.out.lt x.block (by rw [hx]; rfl)).2) (fun x hx => (H_c2.out.lt x.block (by rw [hx]; rfl)).2)).mono ?_
    rintro e w20 ⟨a_v, c_v, l_v, rfl, hr, ho, hb20⟩
    replace H_a := Lib.hid (H_a.out.below hb20)
    replace H_b := Lib.hid (H_b.out.below hb20)
    replace H_c := Lib.hid (H_c.out.below hb20)
    replace H_x := Lib.hid (H_x.out.below hb20)
    replace H_y := Lib.hid (H_y.out.below hb20)
    replace H_z := Lib.hid (H_z.out.below hb20)
    replace H_o := Lib.hid (H_o.out.below hb20)
    replace H_u := Lib.hid (H_u.out.below hb20)
    replace H_c1 := Lib.hid (H_c1.out.below hb20)
    replace H_c2 := Lib.hid (H_c2.out.below hb20)
    replace HB := Lib.hid (HB.out.trans (hb20.mono HB.out.size))
    have H_v := Lib.hid ho
    have R_v := Lib.hid hr
    have N_v := Lib.hid hr.near
    clear ho hr hb20
    have B_v := R_v.out.len
    clear H_c1 H_c2
    go_wp2_with fail
    refine (copiedPres_any false a_a c_a l_a _ H_a.out.sl (by omega)).mono ?_
    rintro e w21 ⟨a_c1, c_c1, rfl, ho, hb21⟩
    replace H_a := Lib.hid (H_a.out.below hb21)
    replace H_b := Lib.hid (H_b.out.below hb21)
    replace H_c := Lib.hid (H_c.out.below hb21)
    replace H_x := Lib.hid (H_x.out.below hb21)
    replace H_y := Lib.hid (H_y.out.below hb21)
    replace H_z := Lib.hid (H_z.out.below hb21)
    replace H_o := Lib.hid (H_o.out.below hb21)
    replace H_u := Lib.hid (H_u.out.below hb21)
    replace H_v := Lib.hid (H_v.out.below hb21)
    replace HB := Lib.hid (HB.out.trans (hb21.mono HB.out.size))
    have H_c1 := Lib.hid ho
    clear ho hb21
    go_wp2_with fail
    refine (copiedPres_any false a_b c_b l_b _ H_b.out.sl (by omega)).mono ?_
    rintro e w22 ⟨a_c2, c_c2, rfl, ho, hb22⟩
    replace H_a := Lib.hid (H_a.out.below hb22)
    replace H_b := Lib.hid (H_b.out.below hb22)
    replace H_c := Lib.hid (H_c.out.below hb22)
    replace H_x := Lib.hid (H_x.out.below hb22)
    replace H_y := Lib.hid (H_y.out.below hb22)
    replace H_z := Lib.hid (H_z.out.below hb22)
    replace H_o := Lib.hid (H_o.out.below hb22)
    replace H_u := Lib.hid (H_u.out.below hb22)
    replace H_v := Lib.hid (H_v.out.below hb22)
    replace H_c1 := Lib.hid (H_c1.out.below hb22)
    replace HB := Lib.hid (HB.out.trans (hb22.mono HB.out.size))
    have H_c2 := Lib.hid ho
    clear ho hb22
    go_wp2_with fail
    refine (minus_any a_c1 c_c1 l_a a_c2 c_c2 l_b _ H_c1.out.sl H_c2.out.sl (by omega) (by omega) N_a.out N_b.out (fun x hx => (H_c1.out.lt x.block (by rw [hx]; rfl)).2) (fun x hx => (H_c2.out.lt x.block (by rw [hx]; rfl)).2)).mono ?_
    rintro e w23 ⟨a_q, c_q, l_q, rfl, hr, ho, hb23⟩
    replace H_a := Lib.hid (H_a.out.below hb23)
    replace H_b := Lib.hid (H_b.out.below hb23)
    replace H_c := Lib.hid (H_c.out.below hb23)
    replace H_x := Lib.hid (H_x.out.below hb23)
    replace H_y := Lib.hid (H_y.out.below hb23)
    replace H_z := Lib.hid (H_z.out.below hb23)
    replace H_o := Lib.hid (H_o.out.below hb23)
    replace H_u := Lib.hid (H_u.out.below hb23)
    replace H_v := Lib.hid (H_v.out.below hb23)
    replace H_c1 := Lib.hid (H_c1.out.below hb23)
    replace H_c2 := Lib.hid (H_c2.out.below hb23)
    replace HB := Lib.hid (HB.out.trans (hb23.mono HB.out.size))
    have H_q := Lib.hid ho
    have R_q := Lib.hid hr
    have N_q := Lib.hid hr.near
    clear ho hr hb23
    have B_q := R_q.out.len
    clear H_c1 H_c2
    go_wp2_with fail
    refine (cidrSure_any _).mono ?_
    rintro e w24 ⟨rfl, hb24⟩
    replace H_a := Lib.hid (H_a.out.below hb24)
    replace H_b := Lib.hid (H_b.out.below hb24)
    replace H_c := Lib.hid (H_c.out.below hb24)
    replace H_x := Lib.hid (H_x.out.below hb24)
    replace H_y := Lib.hid (H_y.out.below hb24)
    replace H_z := Lib.hid (H_z.out.below hb24)
    replace H_o := Lib.hid (H_o.out.below hb24)
    replace H_u := Lib.hid (H_u.out.below hb24)
    replace H_v := Lib.hid (H_v.out.below hb24)
    replace H_q := Lib.hid (H_q.out.below hb24)
    replace HB := Lib.hid (HB.out.trans (hb24.mono HB.out.size))
    clear hb24
    go_wp2_with fail
    refine (samePres_same false a_y a_z c_y c_z l_y _ H_y.out.sl H_z.out.sl (by omega) (fun x hx => (H_y.out.lt x.block (by rw [hx]; rfl)).2) (fun x hx => (H_z.out.lt x.block (by rw [hx]; rfl)).2)).mono ?_
    rintro e w25 ⟨rfl, hb25⟩
    replace H_a := Lib.hid (H_a.out.below hb25)
    replace H_b := Lib.hid (H_b.out.below hb25)
    replace H_c := Lib.hid (H_c.out.below hb25)
    replace H_x := Lib.hid (H_x.out.below hb25)
    replace H_y := Lib.hid (H_y.out.below hb25)
    replace H_z := Lib.hid (H_z.out.below hb25)
    replace H_o := Lib.hid (H_o.out.below hb25)
    replace H_u := Lib.hid (H_u.out.below hb25)
    replace H_v := Lib.hid (H_v.out.below hb25)
    replace H_q := Lib.hid (H_q.out.below hb25)
    replace HB := Lib.hid (HB.out.trans (hb25.mono HB.out.size))
    clear hb25
    by_cases h81 : 80 < l_v.length + l_q.length
    · go_wp2_with fail
      go_returns
      exact ⟨rfl, HB.out⟩
    · go_wp2_with fail
      refine (copiedPres_any false a_v c_v l_v _ H_v.out.sl (by omega)).mono ?_
      rintro e w26 ⟨a_t, c_t, rfl, ho, hb26⟩
      have HT := Lib.hid ho
      have HBT := Lib.hid hb26
      have HZT := Lib.hid hb26.size
      clear ho hb26
      go_wp2_with (at_builtin; refine stop_at ?_; intro G hG)
      rw [← hG.out]; clear hG G
      refine wpList_append_any rfl _ _ 47 30 4 32 _ rfl eiPre _ _ (l_v.map (pfC false)) rfl HT.out _ (l_q.map (pfC false)) rfl (H_q.out.sl.below HBT.out) (by intro c hc; obtain ⟨r, _, rfl⟩ := List.mem_map.1 hc; exact pfC_one false r) (by simp; omega) (by decide) HZT.out ?_
      intro v27 w27 ho hb27'
      have hb27 := HBT.out.trans hb27'
      clear hb27'
      replace H_a := Lib.hid (H_a.out.below hb27)
      replace H_b := Lib.hid (H_b.out.below hb27)
      replace H_c := Lib.hid (H_c.out.below hb27)
      replace H_x := Lib.hid (H_x.out.below hb27)
      replace H_y := Lib.hid (H_y.out.below hb27)
      replace H_z := Lib.hid (H_z.out.below hb27)
      replace H_o := Lib.hid (H_o.out.below hb27)
      replace H_u := Lib.hid (H_u.out.below hb27)
      replace H_v := Lib.hid (H_v.out.below hb27)
      replace H_q := Lib.hid (H_q.out.below hb27)
      replace HB := Lib.hid (HB.out.trans (hb27.mono HB.out.size))
      rw [← List.map_append] at ho
      obtain ⟨a_s, c_s, rfl⟩ := ho.shape
      rw [List.length_map] at ho ⊢
      obtain ⟨l_s, hl⟩ : ∃ l, l = l_v ++ l_q := ⟨_, rfl⟩
      have N_s : Hid (NearL l_s) := by show NearL l_s; rw [hl]; exact fun x hx => (List.mem_append.1 hx).elim (N_v.out x) (N_q.out x)
      have E_s : Hid (∀ a, InP false l_s a ↔ InP false l_v a ∨ InP false l_q a) := by intro a; rw [hl, InP.append]
      have B_s : l_s.length ≤ 80 := by rw [hl, List.length_append]; omega
      rw [← hl] at ho ⊢
      have H_s := Lib.hid ho
      clear ho hl hb27 HT HBT HZT
      go_wp2_with fail
      refine (mergeR_any a_s c_s l_s _ H_s.out.sl (by omega) N_s.out (fun x hx => (H_s.out.lt x.block (by rw [hx]; rfl)).2)).mono ?_
      rintro e w28 ⟨a_m, c_m, l_m, rfl, hr, ho, hb28⟩
      replace H_a := Lib.hid (H_a.out.below hb28)
      replace H_b := Lib.hid (H_b.out.below hb28)
      replace H_c := Lib.hid (H_c.out.below hb28)
      replace H_x := Lib.hid (H_x.out.below hb28)
      replace H_y := Lib.hid (H_y.out.below hb28)
      replace H_z := Lib.hid (H_z.out.below hb28)
      replace H_o := Lib.hid (H_o.out.below hb28)
      replace H_u := Lib.hid (H_u.out.below hb28)
      replace H_v := Lib.hid (H_v.out.below hb28)
      replace H_q := Lib.hid (H_q.out.below hb28)
      replace H_s := Lib.hid (H_s.out.below hb28)
      replace HB := Lib.hid (HB.out.trans (hb28.mono HB.out.size))
      have H_m := Lib.hid ho
      have R_m := Lib.hid hr
      have N_m := Lib.hid hr.near
      clear ho hr hb28
      have ev : l_m = l_u := R_m.out.one R_u.out (fun k => by rw [E_s.out, R_v.out.ins, R_q.out.ins, R_o.out.ins]; exact ⟨fun h => h.elim (fun h => ⟨h.1, fun q => h.2 q.2⟩) (fun h => ⟨h.1, fun q => h.2 q.1⟩), fun h => (Classical.em (InP false l_c k)).elim (fun q => .inr ⟨h.1, fun r => h.2 ⟨r, q⟩⟩) (fun q => .inl ⟨h.1, q⟩)⟩)
      subst ev
      go_wp2_with fail
      refine (samePres_same false a_m a_u c_m c_u l_m _ H_m.out.sl H_u.out.sl (by omega) (fun x hx => (H_m.out.lt x.block (by rw [hx]; rfl)).2) (fun x hx => (H_u.out.lt x.block (by rw [hx]; rfl)).2)).mono ?_
      rintro e w29 ⟨rfl, hb29⟩
      replace H_a := Lib.hid (H_a.out.below hb29)
      replace H_b := Lib.hid (H_b.out.below hb29)
      replace H_c := Lib.hid (H_c.out.below hb29)
      replace H_x := Lib.hid (H_x.out.below hb29)
      replace H_y := Lib.hid (H_y.out.below hb29)
      replace H_z := Lib.hid (H_z.out.below hb29)
      replace H_o := Lib.hid (H_o.out.below hb29)
      replace H_u := Lib.hid (H_u.out.below hb29)
      replace H_v := Lib.hid (H_v.out.below hb29)
      replace H_q := Lib.hid (H_q.out.below hb29)
      replace H_s := Lib.hid (H_s.out.below hb29)
      replace H_m := Lib.hid (H_m.out.below hb29)
      replace HB := Lib.hid (HB.out.trans (hb29.mono HB.out.size))
      clear hb29
      go_wp2_with fail
      go_returns
      exact ⟨rfl, HB.out⟩
end Go.Proofs.Ytoecmoicaklbaaa
