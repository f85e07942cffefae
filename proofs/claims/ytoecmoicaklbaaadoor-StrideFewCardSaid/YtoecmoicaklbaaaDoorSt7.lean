
/- Package stride: contract of walk. -/
import Derived.Test.YtoecmoicaklbaaaDoorStW
set_option linter.unusedVariables false
set_option linter.unusedSimpArgs false
namespace Go.Proofs.YtoecmoicaklbaaaDoor
open Go Go.RowKit Go.Sort Wc Wk

/-- What the walk down comes to. -/
def WkSays (t : List NodeD) (d b i n k : Nat) (w0 w : World) (ob : Nat) (L : List (Nat × Nat × Nat)) (v : Value) (e : Ending) (w' : World) : Prop :=
  (∃ R b', walkF t d b i n k = some (R, b') ∧ e = .returned (.bool true) ∧ ∃ v', WkSt w0 w' ob b' (L ++ R) v' ∧ Kp w w' ob v v') ∨
  (walkF t d b i n k = none ∧ e = .returned (.bool false) ∧ ∃ b' L' v', WkSt w0 w' ob b' L' v' ∧ Kp w w' ob v v')
/-- The call of walk. -/
def WkCall (a : Option Addr) (n c i nn k ob : Nat) (w : World) (Q : Ending → World → Prop) : Prop :=
  Calls Tryd.prog 35 #[.slice a n c, .int .i64 i, Value.agg #[.bool false, .int .u64 (hiOf false nn), .int .u64 (loOf nn), .int .i64 k], .pointer (some ⟨ob + 1, 0, none⟩), .func (.func 36) #[] #[.pointer (some ⟨ob, 0, none⟩)]] w Q
/-- What the walk knows of the world. -/
structure WkEnv (w0 : World) (a : Option Addr) (n c : Nat) (t : List NodeD) (rows : List (List Value)) : Prop where
  nr : NodesR w0 a n c t rows
  tab : TabAt 0 Lib.deBruijn64tab w0
  pos : 0 < w0.heap.size


set_option maxRecDepth 100000 in
set_option maxHeartbeats 8000000 in
theorem walk_step (w0 : World) (a : Option Addr) (n c : Nat) (t : List NodeD) (rows : List (List Value)) (ob d b i nn k : Nat) (w : World) (L : List (Nat × Nat × Nat)) (v : Value) (E : WkEnv w0 a n c t rows)
    (hk : k ≤ 32) (hk4 : k % 4 = 0) (h : WkSt w0 w ob b L v) (hl : L.length + 16 * b ≤ 100000) (hv : VP false nn k)
    (IH : ∀ b' i' nn' k' W L' v', k' = k + 4 → WkSt w0 W ob b' L' v' → L'.length + 16 * b' ≤ 100000 → VP false nn' k' → WkCall a n c i' nn' k' ob W (WkSays t d b' i' nn' k' w0 W ob L' v')) :
    WkCall a n c i nn k ob w (WkSays t (d + 1) b i nn k w0 w ob L v) := by
  have HE := Lib.hid E
  have HH := Lib.hid h
  have HI := Lib.hid IH
  have HV := Lib.hid hv
  have hb0 := h.bud.cell 0 _ rfl
  have fb0 := h.bud.fz 0
  have lb0 := h.bud.lt
  have HL := Lib.hid hl
  have hn60 := E.nr.nl
  have HNL := Lib.hid hn60
  have hii : ¬ (i : Int) < 0 := by omega
  clear E h IH hv hl hn60
  unfold WkCall
  by_cases hin : n ≤ i
  · have hin2 : (n : Int) ≤ i := by omega
    go_enter Tryd.func35, Tryd.ntmps35
    have HNO := Lib.hid (show walkF t (d + 1) b i nn k = none by unfold walkF; rw [List.getElem?_eq_none (by rw [← HNL.out]; exact hin)])
    go_wp2_with fail
    go_returns
    have hwB : Below w.heap.size w (w.alloc (.cells #[.bool false, .int .u64 (hiOf false nn), .int .u64 (loOf nn), .int .i64 k] 39)) := (Below.refl _ _).alloc (Nat.le_refl _) _
    exact .inr ⟨HNO.out, rfl, b, L, v, HH.out.below hwB, Kp.of_below hwB ob v⟩
  · obtain ⟨x, hx⟩ : ∃ x, t[i]? = some x := ⟨_, List.getElem?_eq_getElem (by rw [← HNL.out]; omega)⟩
    by_cases hb : b = 0
    · subst hb
      have HNO := Lib.hid (show walkF t (d + 1) 0 i nn k = none by unfold walkF; rw [hx]; rfl)
      clear hx
      go_enter Tryd.func35, Tryd.ntmps35
      go_wp2_with fail
      go_returns
      have hwB : Below w.heap.size w (w.alloc (.cells #[.bool false, .int .u64 (hiOf false nn), .int .u64 (loOf nn), .int .i64 k] 39)) := (Below.refl _ _).alloc (Nat.le_refl _) _
      exact .inr ⟨HNO.out, rfl, 0, L, v, HH.out.below hwB, Kp.of_below hwB ob v⟩
    · obtain ⟨b', rfl⟩ : ∃ b', b = b' + 1 := ⟨b - 1, by omega⟩
      clear hb
      have hrl : i < rows.length := by rw [HE.out.nr.rl, ← HNL.out]; omega
      obtain ⟨r, hr⟩ : ∃ r, rows[i]? = some r := ⟨_, List.getElem?_eq_getElem hrl⟩
      obtain ⟨ha, hc, ka, kc, er, hsl, ksl⟩ := HE.out.nr.ro i x r hx hr
      obtain ⟨gn, offn, rfl, hgn, hcn⟩ := Sl.at HE.out.nr.sl (i := i) (c := r) hr
      have hgw : gn < w.heap.size := Nat.lt_of_lt_of_le hgn HH.out.lo.size
      have cn : ∀ j u, r[j]? = some u → w.cell? ⟨gn, offn + i * 4 + j, none⟩ = some u := fun j u hu => (HH.out.lo.cell (p := ⟨gn, offn + i * 4 + j, none⟩) hgn).trans (hcn j u hu)
      rw [er] at cn
      have n0 := cn 0 _ rfl
      have n1 := cn 1 _ rfl
      have n2 := cn 2 _ rfl
      have n3 := cn 3 _ rfl
      rw [Nat.add_zero] at n0
      have HHS := Lib.hid hsl
      have HKS := Lib.hid ksl
      have HX := Lib.hid hx
      have HBT := Lib.hid (HE.out.nr.bt x (List.mem_of_getElem? hx))
      obtain ⟨hn, hhn⟩ : ∃ m, m = x.hops.length := ⟨_, rfl⟩
      obtain ⟨kn, hkn⟩ : ∃ m, m = x.kids.length := ⟨_, rfl⟩
      rw [← hhn] at n2 HHS
      rw [← hkn] at n3 HKS
      have HHN := Lib.hid hhn
      have HKN := Lib.hid hkn
      have hni : ¬ (n : Int) ≤ i := by omega
      have hil : i < n := by omega
      obtain ⟨BV, hBV⟩ : ∃ z : Int, z = ((b' + 1 : Nat) : Int) := ⟨_, rfl⟩
      rw [← hBV] at hb0
      have hbi : ¬ BV = 0 := by omega
      have ewb := wrap_b hBV HL.out
      have ewb2 := wrap_b2 hBV HL.out
      have hgb : gn ≠ ob + 1 := by have := HH.out.hob; omega
      clear hBV
      clear hx hr er hsl ksl hcn cn hhn hkn hrl hin
      go_enter Tryd.func35, Tryd.ntmps35
      go_wp2_with fail
      obtain ⟨W1, hW1⟩ : ∃ W, W = w.setCell ⟨ob + 1, 0, none⟩ (.int .i64 (b' : Nat)) := ⟨_, rfl⟩
      obtain ⟨j1, j2⟩ := HH.out.bset b'
      rw [← hW1] at j1 j2
      have hws : w.heap.size = W1.heap.size := by rw [hW1]; simp
      rw [← hW1, hws]
      obtain ⟨Z, hZ⟩ : ∃ Z, Z = (W1.alloc (.cells #[.bool false, .int .u64 (hiOf false nn), .int .u64 (loOf nn), .int .i64 k] 39)).alloc (.cells #[.int .u64 (sumB x.ib : Nat), .int .u64 (sumB x.ob : Nat), .slice ha hn hc, .slice ka kn kc] 34) := ⟨_, rfl⟩
      have hwZ : Below W1.heap.size W1 Z := by rw [hZ]; (repeat' (first | (with_reducible exact Below.refl _ _) | (with_reducible assumption) | (with_reducible refine Below.alloc ?_ ?_ _) | (with_reducible refine Below.drew ?_) | (with_reducible refine Below.stepG ?_ (by assumption) ?_) | (with_reducible refine Below.setCell ?_ ?_ _) | omega | (dsimp only; omega) | (simp; done) | (simp; omega)))
      have HWZ := Lib.hid (j1.below hwZ)
      have HKZ := Lib.hid (j2.trans (Kp.of_below hwZ ob v))
      have PX := Lib.hid (show RX Z W1.heap.size (preCells false nn k) from by
        rw [hZ]
        exact RX.below (rx_new (w := W1) (preCells false nn k) _) ((Below.refl _ _).alloc (Nat.le_refl _) _))
      have NX := Lib.hid (show RX Z (W1.heap.size + 1) [.int .u64 (sumB x.ib : Nat), .int .u64 (sumB x.ob : Nat), .slice ha hn hc, .slice ka kn kc] from by
        rw [hZ]
        have := rx_new (w := W1.alloc (.cells #[.bool false, .int .u64 (hiOf false nn), .int .u64 (loOf nn), .int .i64 k] 39)) [.int .u64 (sumB x.ib : Nat), .int .u64 (sumB x.ob : Nat), .slice ha hn hc, .slice ka kn kc] 34
        rw [World.size_alloc] at this
        exact this)
      have hobl := j1.out.lt
      have hobl1 := j1.bud.lt
      have PFR := Lib.hid (show v.ownBlock ≠ some W1.heap.size from fun e => by have := (j1.own.lt _ e).2; omega)
      have NFR := Lib.hid (show v.ownBlock ≠ some (W1.heap.size + 1) from fun e => by have := (j1.own.lt _ e).2; omega)
      rw [← hZ]
      obtain ⟨P, hP⟩ : ∃ P, P = W1.heap.size := ⟨_, rfl⟩
      rw [← hP] at PX NX PFR NFR hobl hobl1 ⊢
      have HPO := Lib.hid (show ob < P ∧ ob + 1 < P from ⟨hobl, hobl1⟩)
      clear hZ hwZ hW1 j1 j2 hws hP hobl hobl1 HH hb0 fb0 lb0 n0 n1 n2 n3 hgw hgn hbi ewb ewb2 hgb
      have m0 := NX.out.cell 0 _ rfl
      have m1 := NX.out.cell 1 _ rfl
      have m2 := NX.out.cell 2 _ rfl
      have m3 := NX.out.cell 3 _ rfl
      have ml := NX.out.lt
      have hbi := HBT.out.1.bl.sum
      have hbo := HBT.out.2.1.bl.sum
      have PI := Lib.hid (fun w => pop_any (sumB x.ib) w hbi)
      have PO := Lib.hid (fun w => pop_any (sumB x.ob) w hbo)
      rw [HBT.out.1.pop] at PI
      rw [HBT.out.2.1.pop] at PO
      have e1 : ((sumB x.ib : Nat) : Int) / 65536 = 0 := by omega
      have e2 := zero_bit HBT.out.1.bl HBT.out.2.2
      have e3 : ((sumB x.ob : Nat) : Int) / 65536 = 0 := by omega
      clear hbi hbo
      by_cases hA : hn = x.ib.length
      · by_cases hB : kn = x.ob.length
        · rw [← hA] at PI
          rw [← hB] at PO
          refine wp_region_qb (by kernel_rfl) (by kernel_rfl) (fun kq => ?_)
          repeat (first | go_big_quiet_step (first | (with_reducible exact Calls.regrown_same (PI.out _)) | (with_reducible exact Calls.regrown_same (PO.out _))) | quiet_step (first | (with_reducible exact Calls.regrown_same (PI.out _)) | (with_reducible exact Calls.regrown_same (PO.out _))))
          clear kq
          refine wpQuiet_nil ?_; intro w7 hb7; (repeat (with_reducible (replace hb7 := Below.undrew hb7))); obtain ⟨hc7, hf7⟩ := bcell hb7; have hz7 := hb7.size; (repeat (first | rw [World.size_alloc] at hz7 | rw [World.size_drew] at hz7 | rw [World.size_setCell] at hz7)); (try have : w.heap.size < w7.heap.size := by omega); (try have : w.heap.size < w7.heap.size + 1 := by omega); (try have : w.heap.size < w7.heap.size + 1 + 1 := by omega); (try have : w.heap.size < w7.heap.size + 1 + 1 + 1 := by omega); (try have : w.heap.size + 1 < w7.heap.size := by omega); (try have : w.heap.size + 1 < w7.heap.size + 1 := by omega); (try have : w.heap.size + 1 < w7.heap.size + 1 + 1 := by omega); (try have : w.heap.size + 1 < w7.heap.size + 1 + 1 + 1 := by omega)
          have HW7 := Lib.hid (HWZ.out.below hb7)
          have HK7 := Lib.hid (HKZ.out.trans (Kp.of_below hb7 ob v))
          have PX7 := Lib.hid (PX.out.below hb7)
          have NX7 := Lib.hid (NX.out.below hb7)
          have HOK := Lib.hid (ok_of (x := x) (k := k) HBT.out.2.2 (by rw [← HHN.out]; exact hA) (by rw [← HKN.out]; exact hB))
          clear hb7 hc7 hf7 m0 m1 m2 m3 ml PI PO HWZ HKZ PX NX e1 e2 e3
          have p3 := PX7.out.cell 3 _ rfl
          have pl := PX7.out.lt
          have m0 := NX7.out.cell 0 _ rfl
          have m1 := NX7.out.cell 1 _ rfl
          have ml := NX7.out.lt
          obtain ⟨cc, hcc⟩ : ∃ c, c = decide (k = 32 ∧ (2 < sumB x.ib ∨ 0 < sumB x.ob)) := ⟨_, rfl⟩
          rw [← hcc] at HOK
          go_upto_region 7 with fail
          go_cut [91] (fun vb wx => vb = .bool cc ∧ Hid (Below w7.heap.size w7 wx))
          case first =>
            by_cases hk2 : k = 32
            · have hk3 : ((k : Int) == 32) = true := by rw [beq_iff_eq]; omega
              by_cases hi2 : 2 < sumB x.ib
              · have hi3 : (2 : Int) < ((sumB x.ib : Nat) : Int) := by omega
                have hct : cc = true := by rw [hcc, decide_eq_true ⟨hk2, .inl hi2⟩]
                subst hct
                clear hcc hk2 hi2
                go_wp2_with fail
                go_meet
                exact ⟨rfl, Lib.hid (by (repeat' (first | (with_reducible exact Below.refl _ _) | (with_reducible assumption) | (with_reducible refine Below.alloc ?_ ?_ _) | (with_reducible refine Below.drew ?_) | (with_reducible refine Below.stepG ?_ (by assumption) ?_) | (with_reducible refine Below.setCell ?_ ?_ _) | omega | (dsimp only; omega) | (simp; done) | (simp; omega))))⟩
              · have hi3 : ¬ (2 : Int) < ((sumB x.ib : Nat) : Int) := by omega
                by_cases ho2 : 0 < sumB x.ob
                · have ho3 : (0 : Int) < ((sumB x.ob : Nat) : Int) := by omega
                  have hct : cc = true := by rw [hcc, decide_eq_true ⟨hk2, .inr ho2⟩]
                  subst hct
                  clear hcc hk2 hi2
                  go_wp2_with fail
                  go_meet
                  exact ⟨by simp [ho2], Lib.hid (by (repeat' (first | (with_reducible exact Below.refl _ _) | (with_reducible assumption) | (with_reducible refine Below.alloc ?_ ?_ _) | (with_reducible refine Below.drew ?_) | (with_reducible refine Below.stepG ?_ (by assumption) ?_) | (with_reducible refine Below.setCell ?_ ?_ _) | omega | (dsimp only; omega) | (simp; done) | (simp; omega))))⟩
                · have ho3 : ¬ (0 : Int) < ((sumB x.ob : Nat) : Int) := by omega
                  have hct : cc = false := by rw [hcc, decide_eq_false (fun e => by rcases e.2 with h | h; exact hi2 h; exact ho2 h)]
                  subst hct
                  clear hcc hk2 hi2
                  go_wp2_with fail
                  go_meet
                  exact ⟨by first | (simp; done) | (simp; omega), Lib.hid (by (repeat' (first | (with_reducible exact Below.refl _ _) | (with_reducible assumption) | (with_reducible refine Below.alloc ?_ ?_ _) | (with_reducible refine Below.drew ?_) | (with_reducible refine Below.stepG ?_ (by assumption) ?_) | (with_reducible refine Below.setCell ?_ ?_ _) | omega | (dsimp only; omega) | (simp; done) | (simp; omega))))⟩
            · have hk3 : ¬ ((k : Int) = 32) := by omega
              have hct : cc = false := by rw [hcc, decide_eq_false (fun e => hk2 e.1)]
              subst hct
              clear hcc hk2
              go_wp2_with fail
              go_meet
              exact ⟨rfl, Lib.hid (by (repeat' (first | (with_reducible exact Below.refl _ _) | (with_reducible assumption) | (with_reducible refine Below.alloc ?_ ?_ _) | (with_reducible refine Below.drew ?_) | (with_reducible refine Below.stepG ?_ (by assumption) ?_) | (with_reducible refine Below.setCell ?_ ?_ _) | omega | (dsimp only; omega) | (simp; done) | (simp; omega))))⟩
          case rest =>
            obtain ⟨rfl, HBC⟩ := hcut
            have HWc := Lib.hid (HW7.out.below HBC.out)
            have HKc := Lib.hid (HK7.out.trans (Kp.of_below HBC.out ob v))
            have PXc := Lib.hid (PX7.out.below HBC.out)
            have NXc := Lib.hid (NX7.out.below HBC.out)
            have HCC := Lib.hid hcc
            clear HW7 HK7 PX7 NX7 p3 pl m0 m1 ml HBC hcc
            cases cc with
            | true =>
              have HNO := Lib.hid (walkF_bad (d := d) (b := b' + 1) (i := i) (n := nn) HX.out HOK.out)
              go_wp2_with fail
              go_returns
              exact .inr ⟨HNO.out, rfl, b', L, v, HWc.out, HKc.out⟩
            | false =>
              have HGO := Lib.hid (walkF_good (d := d) (b := b') (i := i) (n := nn) HX.out HOK.out)
              have m0 := NXc.out.cell 0 _ rfl
              have m2 := NXc.out.cell 2 _ rfl
              have ml := NXc.out.lt
              have HA := Lib.hid hA
              have HB := Lib.hid hB
              clear hA hB
              go_wp2_with fail
              obtain ⟨rest0, hrest0⟩ : ∃ s, s = sumB x.ib := ⟨_, rfl⟩
              clear m2 m0
              have hn16 : hn ≤ 16 := by rw [HA.out]; exact HBT.out.1.bl.len
              go_loopw [12, 97] (fun v12 v97 wr => ∃ m : Nat, m ≤ hn ∧ v97 = .int .i64 m ∧ v12 = .int .u64 (sumB (x.ib.drop m) : Nat) ∧ Hid (∃ v', WkSt w0 wr ob b' (L ++ (x.rts nn k).take m) v' ∧ Kp wc wr ob v v')) (fun _ i _ => hn - (intOf i).toNat)
              case atStart => exact ⟨0, Nat.zero_le _, rfl, rfl, Lib.hid ⟨v, by simpa using HWc.out, Kp.of_below (Below.refl _ _) ob v⟩⟩
              case round =>
                obtain ⟨m, hm, rfl, rfl, HS⟩ := hrel
                obtain ⟨v1, hs1, hs2⟩ := HS.out
                have HS1 := Lib.hid hs1
                have HS2 := Lib.hid hs2
                have hPl := PXc.out.lt
                have PXr := Lib.hid (hs2.rx PXc.out (by have := HPO.out.1; omega) (by have := HPO.out.2; omega) PFR.out)
                clear hs1 hs2 HS
                by_cases hlt : m < hn
                · obtain ⟨ab, hab⟩ : ∃ a, x.ib[m]? = some a := ⟨_, List.getElem?_eq_getElem (by rw [← HA.out]; exact hlt)⟩
                  obtain ⟨hh, hhh⟩ : ∃ h, x.hops[m]? = some h := ⟨_, List.getElem?_eq_getElem (by rw [← HHN.out]; exact hlt)⟩
                  obtain ⟨dr1, dr2⟩ := HBT.out.1.bl.drop_cons hab
                  have ab16 := HBT.out.1.bl.lt ab (List.mem_of_getElem? hab)
                  have ab1 : 1 ≤ ab := Nat.pos_of_ne_zero (fun e => HBT.out.2.2 (by rw [← e]; exact List.mem_of_getElem? hab))
                  have hsd := sumB_drop x.ib m
                  have hsb := HBT.out.1.bl.sum
                  have hctz : Lib.ctz 64 (sumB (x.ib.drop m)) = ab := by rw [dr1]; exact ctz_cons dr2 (by rw [← dr1]; omega)
                  have TZ := Lib.hid (fun W (hb : Below w0.heap.size w0 W) => tz_any (sumB (x.ib.drop m)) W (by omega) (fun _ => tab_in HE.out.tab HE.out.pos hb))
                  rw [hctz] at TZ
                  have hX1 : 1 ≤ sumB (x.ib.drop m) := by rw [dr1]; have h1 : sumB (ab :: x.ib.drop (m + 1)) = 2 ^ ab + sumB (x.ib.drop (m + 1)) := rfl; have := Nat.two_pow_pos ab; omega
                  have hX2 : sumB (x.ib.drop m) < 65536 := by omega
                  have hand : sumB (x.ib.drop m) &&& (sumB (x.ib.drop m) - 1) = sumB (x.ib.drop (m + 1)) := by rw [dr1]; exact and_pred_cons dr2
                  have HTK := Lib.hid (show (x.rts nn k).take (m + 1) = (x.rts nn k).take m ++ [hopR nn k ab hh] by rw [List.take_add_one, rts_at_ hab hhh]; rfl)
                  obtain ⟨gh, offh, rfl, hgh, hch⟩ := Sl.at (HHS.out.below HS1.out.lo) (i := m) (c := nat1 hh) (by rw [List.getElem?_map, hhh]; rfl)
                  have h0 : wr.cell? ⟨gh, offh + m, none⟩ = some (.int .i64 (hh : Nat)) := by simpa using hch 0 (.int .i64 (hh : Nat)) rfl
                  clear hch hctz dr1 dr2 hsd hsb hhh
                  obtain ⟨X, hX⟩ : ∃ X, X = sumB (x.ib.drop m) := ⟨_, rfl⟩
                  obtain ⟨X1, hX1'⟩ : ∃ X, X = sumB (x.ib.drop (m + 1)) := ⟨_, rfl⟩
                  have HX1' := Lib.hid hX1'
                  rw [← hX] at TZ hX1 hX2 hand ⊢
                  rw [← hX1'] at hand
                  clear hX hX1'
                  have AP := and_pred_u64 hX1 hX2 hand
                  have AP' := and_pred_u64' hX1 hX2 hand
                  obtain ⟨l, hl⟩ : ∃ l, l = ab.log2 := ⟨_, rfl⟩
                  have hll := log_lt ab1 ab16
                  have hkl32 := hop_low (List.mem_of_getElem? hab) ab1 ab16 hk hk4 (of_decide_eq_false HCC.out.symm)
                  rw [← hl] at hll hkl32
                  obtain ⟨s, hs⟩ : ∃ s, s = 32 - (k + l) := ⟨_, rfl⟩
                  have ews := wrap_s hkl32 hs
                  have hs0 : (0 : Int) ≤ s := Int.natCast_nonneg s
                  have hs64 : s ≤ 32 := by rw [hs]; exact Nat.sub_le _ _
                  obtain ⟨z, hz⟩ : ∃ z, z = nn + (ab - 2 ^ l) * 2 ^ s := ⟨_, rfl⟩
                  have FN := Lib.hid (fun W (h : WkSt w0 W ob b' (L ++ (x.rts nn k).take m) v1) => show Calls Tryd.prog 36 #[.agg #[.bool false, .int .u64 (hiOf false nn), .int .u64 (loOf z), .int .i64 ((k : Int) + l), .int .i64 hh], .pointer (some ⟨ob, 0, none⟩)] W fun e w' => e = .returned (.tuple #[]) ∧ ∃ v', WkSt w0 w' ob b' (L ++ (x.rts nn k).take (m + 1)) v' ∧ Kp W w' ob v1 v' from by
                    have f1 := fnR_any w0 W ob b' _ (hopR nn k ab hh) v1 h (by rw [List.length_append, List.length_take]; have := HL.out; have := HBT.out.1.bl.len; rw [← HA.out] at this; omega)
                    rw [HTK.out, ← List.append_assoc]
                    rw [show (hopR nn k ab hh) = (z, k + l, hh) from by unfold hopR; rw [hz, hs, hl]] at f1 ⊢
                    rw [show (((k + l : Nat) : Nat) : Int) = (k : Int) + l from Int.natCast_add k l] at f1
                    exact f1)
                  have HZ := Lib.hid hz
                  clear hz
                  have HSS := Lib.hid hs
                  have HKL := Lib.hid hkl32
                  clear hs hkl32 hab
                  obtain ⟨L1, hL1⟩ : ∃ z : Int, z = ((l + 1 : Nat) : Int) := ⟨_, rfl⟩
                  have BL : Hid (∀ W, Calls Tryd.prog 41 #[.int .u64 ab] W fun e w' => e = .returned (.int .i64 L1) ∧ w' = W) := fun W => by
                    have := Tryd.bits_Len (ab : Int) W (by omega) (by omega)
                    rw [Int.toNat_natCast, len_log ⟨ab, ab16⟩ ab1, ← hl, ← hL1] at this
                    exact this
                  have ewL : IntKind.i64.wrap (L1 - 1) = (l : Int) := by rw [hL1]; exact wrap_l hll.1
                  clear hL1
                  have HLG := Lib.hid hl
                  obtain ⟨hl4, hl2, hl3⟩ := hll
                  have HLL := Lib.hid (And.intro hl2 hl3)
                  have HAND := Lib.hid hand
                  have ewu : IntKind.u64.wrap (ab : Int) = (ab : Int) := by rw [IntKind.wrap_u64]; omega
                  have ewk := wrap_k hk hl4
                  have p0 := PXr.out.cell 0 _ rfl
                  have p1 := PXr.out.cell 1 _ rfl
                  have p2 := PXr.out.cell 2 _ rfl
                  have p3 := PXr.out.cell 3 _ rfl
                  have pl := PXr.out.lt
                  have LO := Lib.hid HS1.out.lo
                  clear hl hl2 hl3 hand hPl
                  go_wp2_with fail
                  refine (TZ.out wr LO.out).mono ?_
                  rintro e w2 ⟨rfl, rfl⟩
                  clear TZ
                  go_wp2_with fail
                  refine (BL.out _).mono ?_
                  rintro e w2 ⟨rfl, rfl⟩
                  clear BL AP AP' HAND
                  by_cases hkl : 0 < k + l
                  · have hkl2 : (0 : Int) < (k : Int) + l := by omega
                    clear hkl
                    go_wp2_with fail
                    obtain ⟨Y, hY⟩ : ∃ Y, Y = w2.alloc (.cells #[.bool false, .int .u64 (hiOf false nn), .int .u64 (loOf nn), .int .i64 ((k : Int) + l)] 39) := ⟨_, rfl⟩
                    have hwY : Below w2.heap.size w2 Y := by rw [hY]; exact (Below.refl _ _).alloc (Nat.le_refl _) _
                    have QX := Lib.hid (show RX Y w2.heap.size [.bool false, .int .u64 (hiOf false nn), .int .u64 (loOf nn), .int .i64 ((k : Int) + l)] from by rw [hY]; exact rx_new (w := w2) [.bool false, .int .u64 (hiOf false nn), .int .u64 (loOf nn), .int .i64 ((k : Int) + l)] _)
                    rw [← hY]
                    obtain ⟨Q, hQ⟩ : ∃ Q, Q = w2.heap.size := ⟨_, rfl⟩
                    have HWY := Lib.hid hwY
                    have HQ2 := Lib.hid hQ
                    rw [← hQ] at QX ⊢
                    clear hY hwY hQ
                    have y2 := QX.out.cell 2 _ rfl
                    have y3 := QX.out.cell 3 _ rfl
                    have ql := QX.out.lt
                    go_still_tail 15, (by kernel_rfl)
                    change wpList _ _ _ _ _ Y.drew
                    rw [or_hop HV.out HKL.out hl4 HLL.out HSS.out, ← HZ.out]
                    have QX2 := QX.out.below (w' := Y.drew) (Below.drew (Below.refl _ _))
                    have HWS := Lib.hid ((HWY.out.trans (Below.drew (Below.refl _ Y))).setCell (p := ⟨Q, 2, none⟩) (by rw [HQ2.out]; exact Nat.le_refl _) (.int .u64 (loOf z)))
                    have FN2 := Lib.hid (FN.out _ (HS1.out.below HWS.out))
                    have HKS2 := Lib.hid (HS2.out.trans (Kp.of_below HWS.out ob v1))
                    have z0 := QX2.cell 0 _ rfl
                    have z1 := QX2.cell 1 _ rfl
                    have z2 := QX2.cell 2 _ rfl
                    have z3 := QX2.cell 3 _ rfl
                    have zl := QX2.lt
                    have zf := QX2.fz 2
                    have QX3 := (rx_put1 QX.out (j := 2) (by simp) (.int .u64 (loOf z))).1
                    have x0 := QX3.cell 0 _ rfl
                    have x1 := QX3.cell 1 _ rfl
                    have x2 := QX3.cell 2 _ rfl
                    have x3 := QX3.cell 3 _ rfl
                    have y0 := QX.out.cell 0 _ rfl
                    have y1 := QX.out.cell 1 _ rfl
                    clear QX QX2 QX3 HWY FN HS1 HS2 HQ2 ewk ews
                    go_wp2_with fail
                    refine FN2.out.mono ?_
                    rintro e w3 ⟨rfl, v3, k1, k2⟩
                    have HE3 := Lib.hid (show ∃ v', WkSt w0 w3 ob b' (L ++ (x.rts nn k).take (m + 1)) v' ∧ Kp wc w3 ob v v' from ⟨v3, k1, HKS2.out.trans k2⟩)
                    clear k1 k2 FN2 HKS2 z0 z1 z2 z3 zl zf HWS x0 x1 x2 x3 y0 y1 y2 y3 ql
                    go_wp2_with fail
                    go_roundw
                    case rel => exact ⟨m + 1, by omega, by go_num, by rw [HX1'.out], HE3⟩
                    case measure => simp [intOf]; omega
                  · have hkl2 : ¬ (0 : Int) < (k : Int) + l := by omega
                    have HZN := Lib.hid (show z = nn from by
                      have e1 : l = 0 := by omega
                      have e2 := HLL.out
                      rw [e1] at e2
                      rw [HZ.out, e1]
                      have : ab - 2 ^ 0 = 0 := by omega
                      rw [this, Nat.zero_mul, Nat.add_zero])
                    rw [HZN.out] at FN
                    clear hkl
                    have FN2 := Lib.hid (FN.out _ (HS1.out.below (show Below w2.heap.size w2 (w2.alloc (.cells #[.bool false, .int .u64 (hiOf false nn), .int .u64 (loOf nn), .int .i64 ((k : Int) + l)] 39)) from (Below.refl _ _).alloc (Nat.le_refl _) _)))
                    have HKS2 := Lib.hid (HS2.out.trans (Kp.of_below (show Below w2.heap.size w2 (w2.alloc (.cells #[.bool false, .int .u64 (hiOf false nn), .int .u64 (loOf nn), .int .i64 ((k : Int) + l)] 39)) from (Below.refl _ _).alloc (Nat.le_refl _) _) ob v1))
                    clear FN HS1 HS2
                    go_wp2_with fail
                    refine FN2.out.mono ?_
                    rintro e w3 ⟨rfl, v3, k1, k2⟩
                    have HE3 := Lib.hid (show ∃ v', WkSt w0 w3 ob b' (L ++ (x.rts nn k).take (m + 1)) v' ∧ Kp wc w3 ob v v' from ⟨v3, k1, HKS2.out.trans k2⟩)
                    clear k1 k2 FN2 HKS2
                    go_wp2_with fail
                    go_roundw
                    case rel => exact ⟨m + 1, by omega, by go_num, by rw [HX1'.out], HE3⟩
                    case measure => simp [intOf]; omega
                · obtain rfl : hn = m := by omega
                  rw [rts_take HA.out] at HS1
                  have NXr := HS2.out.rx NXc.out (by have := HPO.out.1; omega) (by have := HPO.out.2; omega) NFR.out
                  have m1 := NXr.cell 1 _ rfl
                  have m3 := NXr.cell 3 _ rfl
                  have ml2 := NXr.lt
                  have HF := Lib.hid HBT.out.2.1
                  have HLR := Lib.hid (show (x.rts nn k).length ≤ 16 from rts_len16 HBT.out.1.bl.len)
                  have HNLQ := HNL
                  clear hlt hm HHS NXc hPl hrest0 ml hn16
                  go_wp2_with fail
                  clear m1 m3 ml2
                  have kn16 : kn ≤ 16 := by rw [HB.out]; exact HF.out.bl.len
                  have HZL : Hid ((x.ob.zip x.kids).length = kn) := Lib.hid (by rw [List.length_zip, ← HB.out, ← HKN.out, Nat.min_self])
                  go_loopw [12, 147] (fun v12 v147 wq => ∃ m : Nat, m ≤ kn ∧ v147 = .int .i64 m ∧ v12 = .int .u64 (sumB (x.ob.drop m) : Nat) ∧ Hid (∃ R b2 v', KidsAt (walkF t d) nn k (x.ob.zip x.kids) b' m R b2 ∧ R.length + 16 * b2 ≤ 16 * b' ∧ WkSt w0 wq ob b2 (L ++ x.rts nn k ++ R) v' ∧ Kp wc wq ob v v')) (fun _ i _ => kn - (intOf i).toNat)
                  case atStart => exact ⟨0, Nat.zero_le _, rfl, rfl, Lib.hid ⟨[], b', v1, KidsAt.start _ _ _ _ _, by simp, by simpa using HS1.out, HS2.out⟩⟩
                  case round =>
                    obtain ⟨m, hm, rfl, rfl, HS⟩ := hrel
                    clear HS1 HS2 PXr
                    obtain ⟨R, b2, v2, r1, r2, r3, r4⟩ := HS.out
                    have HR1 := Lib.hid r1
                    have HR2 := Lib.hid r2
                    have HS1 := Lib.hid r3
                    have HS2 := Lib.hid r4
                    have PXr := Lib.hid (r4.rx PXc.out (by have := HPO.out.1; omega) (by have := HPO.out.2; omega) PFR.out)
                    clear r1 r2 r3 r4 HS
                    by_cases hlt : m < kn
                    · obtain ⟨ab, hab⟩ : ∃ a, x.ob[m]? = some a := ⟨_, List.getElem?_eq_getElem (by rw [← HB.out]; exact hlt)⟩
                      obtain ⟨hh, hhh⟩ : ∃ h, x.kids[m]? = some h := ⟨_, List.getElem?_eq_getElem (by rw [← HKN.out]; exact hlt)⟩
                      have HZP := Lib.hid (show (x.ob.zip x.kids)[m]? = some (ab, hh) from List.getElem?_zip_eq_some.2 ⟨hab, hhh⟩)
                      obtain ⟨dr1, dr2⟩ := HF.out.bl.drop_cons hab
                      have ab16 := HF.out.bl.lt ab (List.mem_of_getElem? hab)
                      have hsd := sumB_drop x.ob m
                      have hsb := HF.out.bl.sum
                      have hctz : Lib.ctz 64 (sumB (x.ob.drop m)) = ab := by rw [dr1]; exact ctz_cons dr2 (by rw [← dr1]; omega)
                      have TZ := Lib.hid (fun W (hb : Below w0.heap.size w0 W) => tz_any (sumB (x.ob.drop m)) W (by omega) (fun _ => tab_in HE.out.tab HE.out.pos hb))
                      rw [hctz] at TZ
                      have hX1 : 1 ≤ sumB (x.ob.drop m) := by rw [dr1]; have h1 : sumB (ab :: x.ob.drop (m + 1)) = 2 ^ ab + sumB (x.ob.drop (m + 1)) := rfl; have := Nat.two_pow_pos ab; omega
                      have hX2 : sumB (x.ob.drop m) < 65536 := by omega
                      have hand : sumB (x.ob.drop m) &&& (sumB (x.ob.drop m) - 1) = sumB (x.ob.drop (m + 1)) := by rw [dr1]; exact and_pred_cons dr2
                      obtain ⟨gh, offh, rfl, hgh, hch⟩ := Sl.at (HKS.out.below HS1.out.lo) (i := m) (c := nat1 hh) (by rw [List.getElem?_map, hhh]; rfl)
                      have h0 : wr.cell? ⟨gh, offh + m, none⟩ = some (.int .i64 (hh : Nat)) := by simpa using hch 0 (.int .i64 (hh : Nat)) rfl
                      clear hch hctz dr1 dr2 hsd hsb hhh
                      obtain ⟨X, hX⟩ : ∃ X, X = sumB (x.ob.drop m) := ⟨_, rfl⟩
                      obtain ⟨X1, hX1'⟩ : ∃ X, X = sumB (x.ob.drop (m + 1)) := ⟨_, rfl⟩
                      have HX1' := Lib.hid hX1'
                      rw [← hX] at TZ hX1 hX2 hand ⊢
                      rw [← hX1'] at hand
                      clear hX hX1'
                      have AP := and_pred_u64 hX1 hX2 hand
                      have AP' := and_pred_u64' hX1 hX2 hand
                      have hk4l := ok_kid (List.mem_of_getElem? hab) hk hk4 (of_decide_eq_false HCC.out.symm)
                      obtain ⟨s, hs⟩ : ∃ s, s = 32 - (k + 4) := ⟨_, rfl⟩
                      obtain ⟨k4, hk44⟩ : ∃ s, s = k + 4 := ⟨_, rfl⟩
                      have ewk := wrap_k4 hk hk44
                      have ews := wrap_s4 hk4l hk44 hs
                      have hs0 : (0 : Int) ≤ s := Int.natCast_nonneg s
                      have hs64 : s ≤ 32 := by rw [hs]; exact Nat.sub_le _ _
                      obtain ⟨z, hz⟩ : ∃ z, z = nn + ab * 2 ^ s := ⟨_, rfl⟩
                      have OR := Lib.hid (or_kid HV.out hk4l ab16 hs)
                      rw [← hz] at OR
                      have HLEN := Lib.hid (show (L ++ x.rts nn k ++ R).length + 16 * b2 ≤ 100000 by rw [List.length_append, List.length_append]; have h1 := HL.out; have h2 := HR2.out; have h3 := HLR.out; omega)
                      have FN := Lib.hid (fun W (h : WkSt w0 W ob b2 (L ++ x.rts nn k ++ R) v2) => show Calls Tryd.prog 35 #[.slice (some ⟨gn, offn, none⟩) n c, .int .i64 hh, .agg #[.bool false, .int .u64 (hiOf false nn), .int .u64 (loOf z), .int .i64 k4], .pointer (some ⟨ob + 1, 0, none⟩), .func (.func 36) #[] #[.pointer (some ⟨ob, 0, none⟩)]] W (WkSays t d b2 hh (nn + ab * 2 ^ (32 - (k + 4))) (k + 4) w0 W ob (L ++ x.rts nn k ++ R) v2) from by
                        have f1 := HI.out b2 hh z k4 W _ v2 hk44 h HLEN.out (by rw [hz, hk44]; exact vp_kid HV.out hk4l ab16 hs)
                        rw [← hs, ← hz, ← hk44]
                        exact f1)
                      have ewu : IntKind.u64.wrap (ab : Int) = (ab : Int) := by rw [IntKind.wrap_u64]; omega
                      have em1 : wrap64 ((m : Int) + 1) = ((m + 1 : Nat) : Int) := wrap64_in (by omega) (by omega)
                      have p0 := PXr.out.cell 0 _ rfl
                      have p1 := PXr.out.cell 1 _ rfl
                      have p2 := PXr.out.cell 2 _ rfl
                      have p3 := PXr.out.cell 3 _ rfl
                      have pl := PXr.out.lt
                      have LO := Lib.hid HS1.out.lo
                      have HAND := Lib.hid hand
                      clear hs hk44 hab hz hk4l hand em1
                      go_wp2_with fail
                      refine (TZ.out wr LO.out).mono ?_
                      rintro e w2 ⟨rfl, rfl⟩
                      clear TZ
                      go_wp2_with fail
                      obtain ⟨Y, hY⟩ : ∃ Y, Y = w2.alloc (.cells #[.bool false, .int .u64 (hiOf false nn), .int .u64 (loOf nn), .int .i64 k4] 39) := ⟨_, rfl⟩
                      have hwY : Below w2.heap.size w2 Y := by rw [hY]; exact (Below.refl _ _).alloc (Nat.le_refl _) _
                      have QX := Lib.hid (show RX Y w2.heap.size [.bool false, .int .u64 (hiOf false nn), .int .u64 (loOf nn), .int .i64 k4] from by rw [hY]; exact rx_new (w := w2) [.bool false, .int .u64 (hiOf false nn), .int .u64 (loOf nn), .int .i64 k4] _)
                      rw [← hY]
                      obtain ⟨Q, hQ⟩ : ∃ Q, Q = w2.heap.size := ⟨_, rfl⟩
                      have HWY := Lib.hid hwY
                      have HQ2 := Lib.hid hQ
                      rw [← hQ] at QX ⊢
                      clear hY hwY hQ
                      have y2 := QX.out.cell 2 _ rfl
                      have y3 := QX.out.cell 3 _ rfl
                      have ql := QX.out.lt
                      go_still_tail 12, (by kernel_rfl)
                      change wpList _ _ _ _ _ Y.drew
                      rw [OR.out]
                      have QX2 := QX.out.below (w' := Y.drew) (Below.drew (Below.refl _ _))
                      have HWS := Lib.hid ((HWY.out.trans (Below.drew (Below.refl _ Y))).setCell (p := ⟨Q, 2, none⟩) (by rw [HQ2.out]; exact Nat.le_refl _) (.int .u64 (loOf z)))
                      have FN2 := Lib.hid (FN.out _ (HS1.out.below HWS.out))
                      have HKS2 := Lib.hid (HS2.out.trans (Kp.of_below HWS.out ob v2))
                      have z0 := QX2.cell 0 _ rfl
                      have z1 := QX2.cell 1 _ rfl
                      have z2 := QX2.cell 2 _ rfl
                      have z3 := QX2.cell 3 _ rfl
                      have zl := QX2.lt
                      have zf := QX2.fz 2
                      have QX3 := (rx_put1 QX.out (j := 2) (by simp) (.int .u64 (loOf z))).1
                      have x0 := QX3.cell 0 _ rfl
                      have x1 := QX3.cell 1 _ rfl
                      have x2 := QX3.cell 2 _ rfl
                      have x3 := QX3.cell 3 _ rfl
                      have y0 := QX.out.cell 0 _ rfl
                      have y1 := QX.out.cell 1 _ rfl
                      clear QX QX2 QX3 HWY FN HS1 HS2 HQ2 ewk ews
                      go_wp2_with fail
                      refine FN2.out.mono ?_
                      clear z0 z1 z2 z3 zl zf FN2 HWS x0 x1 x2 x3 y0 y1 y2 y3 ql
                      rintro e w3 (⟨R3, b3, hf, rfl, v3, k1, k2⟩ | ⟨hf, rfl, b3, L3, v3, k1, k2⟩)
                      · have HE3 : Hid (∃ R b2 v', KidsAt (walkF t d) nn k (x.ob.zip x.kids) b' (m + 1) R b2 ∧ R.length + 16 * b2 ≤ 16 * b' ∧ WkSt w0 w3 ob b2 (L ++ x.rts nn k ++ R) v' ∧ Kp wc w3 ob v v') :=
                          Lib.hid ⟨R ++ R3, b3, v3, HR1.out.step HZP.out hf, by rw [List.length_append]; have h1 := walkF_len (fun y hy => (HE.out.nr.bt y hy).1.bl.len) _ _ _ _ _ _ _ hf; have h2 := HR2.out; omega, by rw [← List.append_assoc]; exact k1, HKS2.out.trans k2⟩
                        clear k1 k2 hf HKS2
                        go_wp2_with fail
                        go_roundw
                        case rel => exact ⟨m + 1, by omega, by go_num, by rw [HX1'.out], HE3⟩
                        case measure => simp [intOf]; omega
                      · have HNO := Lib.hid (show walkF t (d + 1) (b' + 1) i nn k = none by rw [HGO.out, HR1.out.bad HZP.out hf]; rfl)
                        have HWF := Lib.hid k1
                        have HKF := Lib.hid (HKc.out.trans (HKS2.out.trans k2))
                        clear k1 k2 hf HKS2
                        go_wp2_with fail
                        go_returns
                        exact .inr ⟨HNO.out, rfl, b3, L3, v3, HWF.out, HKF.out⟩
                    · have HYES := Lib.hid (show walkF t (d + 1) (b' + 1) i nn k = some (x.rts nn k ++ R, b2) by
                        rw [HGO.out, HR1.out.done (by rw [HZL.out]; omega)]
                        rfl)
                      have HWF := HS1
                      rw [List.append_assoc] at HWF
                      have HKF := Lib.hid (HKc.out.trans HS2.out)
                      go_wp2_with fail
                      go_returns
                      exact .inl ⟨_, b2, HYES.out, rfl, v2, HWF.out, HKF.out⟩
        · have HNO := Lib.hid (walkF_bad (d := d) (b := b' + 1) (i := i) (n := nn) HX.out (not_ok (k := k) (fun e => hB (by rw [HKN.out]; exact e.2))))
          rw [← hA] at PI
          have hB2 : ((kn : Int) != (x.ob.length : Int)) = true := by rw [bne_iff_ne]; omega
          refine wp_region_qb (by kernel_rfl) (by kernel_rfl) (fun kq => ?_)
          repeat (first | go_big_quiet_step (first | (with_reducible exact Calls.regrown_same (PI.out _)) | (with_reducible exact Calls.regrown_same (PO.out _))) | quiet_step (first | (with_reducible exact Calls.regrown_same (PI.out _)) | (with_reducible exact Calls.regrown_same (PO.out _))))
          clear kq
          refine wpQuiet_nil ?_; intro w7 hb7; (repeat (with_reducible (replace hb7 := Below.undrew hb7))); obtain ⟨hc7, hf7⟩ := bcell hb7; have hz7 := hb7.size; (repeat (first | rw [World.size_alloc] at hz7 | rw [World.size_drew] at hz7 | rw [World.size_setCell] at hz7)); (try have : w.heap.size < w7.heap.size := by omega); (try have : w.heap.size < w7.heap.size + 1 := by omega); (try have : w.heap.size < w7.heap.size + 1 + 1 := by omega); (try have : w.heap.size < w7.heap.size + 1 + 1 + 1 := by omega); (try have : w.heap.size + 1 < w7.heap.size := by omega); (try have : w.heap.size + 1 < w7.heap.size + 1 := by omega); (try have : w.heap.size + 1 < w7.heap.size + 1 + 1 := by omega); (try have : w.heap.size + 1 < w7.heap.size + 1 + 1 + 1 := by omega)
          have HW7 := Lib.hid (HWZ.out.below hb7)
          have HK7 := Lib.hid (HKZ.out.trans (Kp.of_below hb7 ob v))
          clear hb7 hc7 hf7 m0 m1 m2 m3 ml PI PO HWZ HKZ PX NX e1 e2 e3
          go_wp2_with fail
          go_returns
          exact .inr ⟨HNO.out, rfl, b', L, v, HW7.out, HK7.out⟩
      · have HNO := Lib.hid (walkF_bad (d := d) (b := b' + 1) (i := i) (n := nn) HX.out (not_ok (k := k) (fun e => hA (by rw [HHN.out]; exact e.1))))
        have hA2 : ((hn : Int) != (x.ib.length : Int)) = true := by rw [bne_iff_ne]; omega
        refine wp_region_qb (by kernel_rfl) (by kernel_rfl) (fun kq => ?_)
        repeat (first | go_big_quiet_step (first | (with_reducible exact Calls.regrown_same (PI.out _)) | (with_reducible exact Calls.regrown_same (PO.out _))) | quiet_step (first | (with_reducible exact Calls.regrown_same (PI.out _)) | (with_reducible exact Calls.regrown_same (PO.out _))))
        clear kq
        refine wpQuiet_nil ?_; intro w7 hb7; (repeat (with_reducible (replace hb7 := Below.undrew hb7))); obtain ⟨hc7, hf7⟩ := bcell hb7; have hz7 := hb7.size; (repeat (first | rw [World.size_alloc] at hz7 | rw [World.size_drew] at hz7 | rw [World.size_setCell] at hz7)); (try have : w.heap.size < w7.heap.size := by omega); (try have : w.heap.size < w7.heap.size + 1 := by omega); (try have : w.heap.size < w7.heap.size + 1 + 1 := by omega); (try have : w.heap.size < w7.heap.size + 1 + 1 + 1 := by omega); (try have : w.heap.size + 1 < w7.heap.size := by omega); (try have : w.heap.size + 1 < w7.heap.size + 1 := by omega); (try have : w.heap.size + 1 < w7.heap.size + 1 + 1 := by omega); (try have : w.heap.size + 1 < w7.heap.size + 1 + 1 + 1 := by omega)
        have HW7 := Lib.hid (HWZ.out.below hb7)
        have HK7 := Lib.hid (HKZ.out.trans (Kp.of_below hb7 ob v))
        clear hb7 hc7 hf7 m0 m1 m2 m3 ml PI PO HWZ HKZ PX NX e1 e2 e3
        go_wp2_with fail
        go_returns
        exact .inr ⟨HNO.out, rfl, b', L, v, HW7.out, HK7.out⟩
/-- The walk down, in full. -/
theorem walk_any (w0 : World) (a : Option Addr) (n c : Nat) (t : List NodeD) (rows : List (List Value)) (ob : Nat) (E : WkEnv w0 a n c t rows) : ∀ (d b i nn k : Nat) (w : World) (L : List (Nat × Nat × Nat)) (v : Value),
    4 * d + k = 36 → WkSt w0 w ob b L v → L.length + 16 * b ≤ 100000 → VP false nn k → WkCall a n c i nn k ob w (WkSays t d b i nn k w0 w ob L v)
  | 0, b, i, nn, k, w, L, v, hd, h, hl, hv => by
    have h1 : k ≤ 32 := hv.2.1
    omega
  | d + 1, b, i, nn, k, w, L, v, hd, h, hl, hv =>
    walk_step w0 a n c t rows ob d b i nn k w L v E hv.2.1 (by omega) h hl hv (fun b' i' nn' k' W L' v' e h' hl' hv' => walk_any w0 a n c t rows ob E d b' i' nn' k' W L' v' (by omega) h' hl' hv')
end Go.Proofs.YtoecmoicaklbaaaDoor
