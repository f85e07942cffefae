
/- Package stride: contract of tree. -/
import Derived.Test.YtoecmoicaklbaaaDoorStN
set_option linter.unusedVariables false
set_option linter.unusedSimpArgs false
namespace Go.Proofs.YtoecmoicaklbaaaDoor
open Go Go.RowKit Go.Sort Wc Wk


set_option maxRecDepth 100000 in
set_option maxHeartbeats 4000000 in
theorem tree_any (a : Option Addr) (c : Nat) (R : List (Nat × Nat × Nat)) (w : World) (hs : Sl w 5 (.slice a R.length c) (R.map routeCells)) (hR : RtOk R) :
    Calls Tryd.prog 34 #[.slice a R.length c] w fun e w' => ∃ v, e = .returned v ∧ RetNodes w (treeOf R) v w' := by
  have HS := Lib.hid hs
  have HR := Lib.hid hR
  have hl := hR.len
  clear hs hR
  go_enter Tryd.func34, Tryd.ntmps34
  go_wp2_with fail
  obtain ⟨Z, hZ⟩ : ∃ Z, Z = w.alloc (.cells #[.int .i64 0, .int .i64 0, .int .i64 0, .int .i64 0, .int .i64 0, .int .i64 0, .int .i64 0, .int .i64 0, .int .i64 0, .int .i64 0, .int .i64 0, .int .i64 0, .int .i64 0, .int .i64 0, .int .i64 0, .int .i64 0, .pointer none, .pointer none, .pointer none, .pointer none, .pointer none, .pointer none, .pointer none, .pointer none, .pointer none, .pointer none, .pointer none, .pointer none, .pointer none, .pointer none, .pointer none, .pointer none] 107) := ⟨_, rfl⟩
  have hwZ : Below w.heap.size w Z := by rw [hZ]; exact (Below.refl _ _).alloc (Nat.le_refl _) _
  have hx0 : RX Z w.heap.size (List.replicate 16 (.int .i64 0) ++ List.replicate 16 (.pointer none)) := by rw [hZ]; exact rx_new (w := w) (List.replicate 16 (.int .i64 0) ++ List.replicate 16 (.pointer none)) _
  rw [← hZ]
  have HD0 : Hid (∃ M, DrR Z w.heap.size [] M ∧ M 0 0 = some w.heap.size) := Lib.hid ⟨_, DrR.new hx0, rfl⟩
  have HWZ := Lib.hid hwZ
  clear hZ hwZ hx0
  obtain ⟨rb, hrb⟩ : ∃ p, p = w.heap.size := ⟨_, rfl⟩
  rw [← hrb] at HD0 ⊢
  have HRB := Lib.hid hrb
  clear hrb
  go_loopw [18] (fun i wr => ∃ m : Nat, m ≤ R.length ∧ i = .int .i64 m ∧ Hid (∃ M, DrR wr rb (R.take m) M ∧ M 0 0 = some rb) ∧ Hid (Below w.heap.size w wr)) (fun i _ => R.length - (intOf i).toNat)
  case atStart => exact ⟨0, Nat.zero_le _, rfl, HD0, HWZ⟩
  case round =>
    obtain ⟨m, hm, rfl, HD, HB⟩ := hrel
    have hzr := HB.out.size
    by_cases hlt : m < R.length
    · obtain ⟨x, hx⟩ : ∃ x, R[m]? = some x := ⟨_, List.getElem?_eq_getElem hlt⟩
      obtain ⟨g, off, rfl, hg, d0, d1, d2, d3, d4⟩ := Sl.route HS.out HB.out hx
      have hgr : g < wr.heap.size := by omega
      have HTK := Lib.hid (show R.take (m + 1) = R.take m ++ [x] by rw [List.take_add_one, hx]; rfl)
      have HV := Lib.hid (HR.out.vp x (List.mem_of_getElem? hx))
      have HRT := Lib.hid (HR.out.take (m + 1))
      clear hx
      go_wp2_with fail
      obtain ⟨Y, hY⟩ : ∃ Y, Y = wr.alloc (.cells #[.bool false, .int .u64 (hiOf false x.1), .int .u64 (loOf x.1), .int .i64 x.2.1, .int .i64 x.2.2] 41) := ⟨_, rfl⟩
      have hwY : Below wr.heap.size wr Y := by rw [hY]; exact (Below.refl _ _).alloc (Nat.le_refl _) _
      rw [← hY]
      obtain ⟨M, hM, h00⟩ := HD.out
      have PT : Calls Tryd.prog 49 #[.pointer (some ⟨rb, 0, none⟩), .agg #[.bool false, .int .u64 (hiOf false x.1), .int .u64 (loOf x.1), .int .i64 x.2.1, .int .i64 x.2.2], .int .i64 0] Y (PutSays Y rb M (hopAt (R.take m)) x.1 x.2.1 x.2.2 0) :=
        put_any rb x.1 x.2.1 x.2.2 (hopAt (R.take m)) HV.out (x.2.1 / 4) 0 rb M Y (by omega) (hM.ok.below hwY) (by rw [tp0 HV.out.1]; exact h00)
      have HB2 := Lib.hid (HB.out.trans (hwY.mono hzr))
      have hY2 : w.heap.size ≤ Y.heap.size := HB2.out.size
      clear hY hwY
      refine PT.mono ?_
      rintro e w2 ⟨rfl, M', hd', hp', hb'⟩
      have HD2 : Hid (∃ M, DrR w2 rb (R.take (m + 1)) M ∧ M 0 0 = some rb) := Lib.hid ⟨M', by
        rw [HTK.out]
        exact DrR.step hM (by rw [← HTK.out]; exact HRT.out) hd' hp', hp'.keep _ _ _ h00⟩
      have HB3 := Lib.hid (HB2.out.trans (HRB.out ▸ hb'))
      clear hd' hp' hb' PT HB2 HB HD hM h00 HTK HV HRT
      go_wp2_with fail
      go_roundw
      case rel => exact ⟨m + 1, by omega, by go_num, HD2, HB3⟩
      case measure => simp [intOf]; omega
    · obtain rfl : m = R.length := by omega
      rw [List.take_length] at HD
      clear hlt hm
      obtain ⟨W1, hW1⟩ : ∃ X : World, X = wr := ⟨_, rfl⟩
      subst hW1
      obtain ⟨M, hM, h00⟩ := HD.out
      have HM := Lib.hid hM
      have HM0 := Lib.hid h00
      clear hM h00 HD HS
      go_wp2_with fail
      obtain ⟨Y0, hY0⟩ : ∃ Y, Y = W1.alloc (.cells #[.pointer (some ⟨rb, 0, none⟩)] 103) := ⟨_, rfl⟩
      have hwY0 : Below W1.heap.size W1 Y0 := by rw [hY0]; exact (Below.refl _ _).alloc (Nat.le_refl _) _
      have HQ0 : Wk.Own Y0 W1.heap.size 103 1 (.slice (some ⟨W1.heap.size, 0, none⟩) 1 1) (([(0, 0)] : List (Nat × Nat)).map (fun x => ptr1 (M x.1 x.2))) := by
        rw [hY0]
        exact own_one (W := W1) rfl (Nat.le_refl _) (by simp [ptr1, HM0.out, ptrO]) rfl (by decide)
      rw [← hY0]
      have HT0 := Lib.hid (TrSt.mk (R := R) (i := 0) HQ0 (Wk.Own.nil _ _ _ _) ⟨by simp [treeL], fun m nd r e1 _ => by simp [treeL] at e1⟩ hwY0)
      have HQL := Lib.hid (bq_few HR.out)
      clear hY0 hwY0 HQ0
      go_loopw [6, 7, 8] (fun v6 v7 v8 wr => ∃ i : Nat, v8 = .int .i64 i ∧ ∃ (qa : Option Addr) (n qc : Nat) (oa : Option Addr) (oc : Nat) (rows : List (List Value)), v6 = .slice qa n qc ∧ v7 = .slice oa i oc ∧ i ≤ n ∧ n ≤ 481 ∧ Hid (n = (bq (nodeIn R) i).length) ∧ Hid (TrSt W1 wr R M i (.slice qa n qc) (.slice oa i oc) (bq (nodeIn R) i) rows)) (fun _ _ i _ => 1000 - (intOf i).toNat)
      case atStart => exact ⟨0, rfl, _, 1, 1, none, 0, [], rfl, rfl, by decide, by decide, rfl, HT0⟩
      case round =>
        obtain ⟨i, rfl, qa, n, qc, oa, oc, rows, rfl, rfl, hin, hn481, HN, HT⟩ := hrel
        by_cases hlt : i < n
        · obtain ⟨x, hx⟩ : ∃ x, (bq (nodeIn R) i)[i]? = some x := ⟨_, List.getElem?_eq_getElem (by rw [← HN.out]; exact hlt)⟩
          obtain ⟨b, hb⟩ : ∃ b, M x.1 x.2 = some b := by
            have h1 : nodeIn R x.1 x.2 = true := by
              rcases (bq_says (nodeIn R) i).2 x (List.mem_of_getElem? hx) with e | ⟨_, e, _⟩
              · rw [e]; exact nodeIn_zero R
              · exact e
            have := HM.out.some_ x.1 x.2
            rw [h1, Option.isSome_iff_exists] at this
            exact this
          obtain ⟨gq, offq, rfl, hgq, hcq⟩ := Sl.at HT.out.qo.sl (i := i) (c := ptr1 (M x.1 x.2)) (by rw [List.getElem?_map, hx]; rfl)
          have q0 : wr.cell? ⟨gq, offq + i, none⟩ = some (.pointer (some ⟨b, 0, none⟩)) := by simpa using hcq 0 (.pointer (some ⟨b, 0, none⟩)) (by rw [hb]; rfl)
          have HXi := Lib.hid hx
          have HBi := Lib.hid hb
          have hdr := (HM.out.ok.rx x.1 x.2 b hb).below HT.out.lo
          have hbl := hdr.lt
          have HDR := Lib.hid hdr
          clear hcq hx hb hdr
          obtain ⟨hh, hhh⟩ : ∃ f : Nat → Nat, f = hopAt R x.1 x.2 := ⟨_, rfl⟩
          have HHH := Lib.hid hhh
          have dc : ∀ m, m < 16 → wr.cell? ⟨b, m, none⟩ = some (.int .i64 (hh m : Nat)) := fun m hm => by rw [hhh]; exact HDR.out.cell m _ (drC_hop hm)
          clear hhh
          have dc0 := dc 0 (by decide)
          have dc1 := dc 1 (by decide)
          have dc2 := dc 2 (by decide)
          have dc3 := dc 3 (by decide)
          have dc4 := dc 4 (by decide)
          have dc5 := dc 5 (by decide)
          have dc6 := dc 6 (by decide)
          have dc7 := dc 7 (by decide)
          have dc8 := dc 8 (by decide)
          have dc9 := dc 9 (by decide)
          have dc10 := dc 10 (by decide)
          have dc11 := dc 11 (by decide)
          have dc12 := dc 12 (by decide)
          have dc13 := dc 13 (by decide)
          have dc14 := dc 14 (by decide)
          have dc15 := dc 15 (by decide)
          clear dc
          go_wp2_with fail
          obtain ⟨Y1, hY1⟩ : ∃ Y, Y = wr.alloc (.cells #[.int .u64 0, .int .u64 0, .slice none 0 0, .slice none 0 0] 34) := ⟨_, rfl⟩
          have hwY1 : Below wr.heap.size wr Y1 := by rw [hY1]; exact (Below.refl _ _).alloc (Nat.le_refl _) _
          have hnx : RX Y1 wr.heap.size [.int .u64 0, .int .u64 0, .slice none 0 0, .slice none 0 0] := by rw [hY1]; exact rx_new (w := wr) [.int .u64 0, .int .u64 0, .slice none 0 0, .slice none 0 0] _
          have hy1s : Y1.heap.size = wr.heap.size + 1 := by rw [hY1]; simp
          rw [← hY1]
          obtain ⟨arr, harr⟩ : ∃ A : Array Value, A = #[.int .i64 (hh 0 : Nat), .int .i64 (hh 1 : Nat), .int .i64 (hh 2 : Nat), .int .i64 (hh 3 : Nat), .int .i64 (hh 4 : Nat), .int .i64 (hh 5 : Nat), .int .i64 (hh 6 : Nat), .int .i64 (hh 7 : Nat), .int .i64 (hh 8 : Nat), .int .i64 (hh 9 : Nat), .int .i64 (hh 10 : Nat), .int .i64 (hh 11 : Nat), .int .i64 (hh 12 : Nat), .int .i64 (hh 13 : Nat), .int .i64 (hh 14 : Nat), .int .i64 (hh 15 : Nat)] := ⟨_, rfl⟩
          rw [← harr]
          have EI1 : Hid (∀ (m : Nat) (W : World), m < 16 → (Instr.index 104 (.agg arr) (.int .i64 m)).run Tryd.prog W = .ok (.int .i64 (hh m : Nat)) W) := fun m W hm => by
            rw [harr]
            exact idx16 hh m W hm
          obtain ⟨nb, hnb⟩ : ∃ p, p = wr.heap.size := ⟨_, rfl⟩
          have HNX := Lib.hid (hnb ▸ hnx)
          have HWY := Lib.hid hwY1
          have HNB := Lib.hid hnb
          have HYS := Lib.hid (show Y1.heap.size = nb + 1 by rw [hnb]; exact hy1s)
          rw [← hnb]
          clear hY1 hwY1 hnx hy1s hnb harr dc0 dc1 dc2 dc3 dc4 dc5 dc6 dc7 dc8 dc9 dc10 dc11 dc12 dc13 dc14 dc15 q0
          have HPP : Hid (pkB (fun m => decide (0 < hh m)) 16 = innB (hopAt R) x) := Lib.hid (by rw [HHH.out]; rfl)
          obtain ⟨P, hP⟩ : ∃ P : Nat → Bool, P = fun m => decide (0 < hh m) := ⟨_, rfl⟩
          have HPD := Lib.hid hP
          rw [← hP] at HPP
          clear hP
          go_loopw [41] (fun v wq => ∃ k : Nat, k ≤ 16 ∧ v = .int .i64 k ∧ (∃ (ha : Option Addr) (hn hc : Nat), hn ≤ k ∧ Hid (hn = (pkB P k).length) ∧ Hid (NdSt wq nb (.int .u64 (sumB (pkB P k) : Nat)) (.int .u64 0) (.slice ha hn hc) (.slice none 0 0) ((pkB P k).map hh) [])) ∧ Hid (Below nb Y1 wq)) (fun v _ => 16 - (intOf v).toNat)
          case atStart => exact ⟨0, by decide, rfl, ⟨none, 0, 0, Nat.le_refl _, rfl, Lib.hid (NdSt.start HNX.out)⟩, Below.refl _ _⟩
          case round =>
            obtain ⟨k, hk, rfl, ⟨ha, hn, hc, hhn, HHN, HS⟩, HB⟩ := hrel
            by_cases hk16 : k < 16
            · have ei := fun W => EI1.out k W hk16
              have hki : (k : Int) < 16 := by omega
              by_cases hpos : 0 < hh k
              · have hposi : (0 : Int) < ((hh k : Nat) : Int) := by omega
                have HPK := Lib.hid (show P k = true by rw [HPD.out]; simpa using hpos)
                have HOR := Lib.hid (sum_pk_or HPK.out hk16)
                have nbl := HS.out.rx.lt
                clear hpos
                go_wp2_with fail
                clear ei
                have s0 := HS.out.rx.cell 0 _ rfl
                go_still_tail 6, (by kernel_rfl)
                change wpList _ _ _ _ _ wr.drew
                clear s0
                have HSX := Lib.hid (HS.out.below (w' := wr.drew) (Below.drew (Below.refl _ _)))
                have HBX := Lib.hid (show Below nb Y1 wr.drew from HB.out.drew)
                generalize wr.drew = X at *
                have s0 := HSX.out.rx.cell 0 _ rfl
                have f0 := HSX.out.rx.fz 0
                have nbx := HSX.out.rx.lt
                have s2 := HSX.out.rx.cell 2 _ rfl
                go_wp2_with (at_builtin; refine stop_at ?_; intro G hG)
                obtain ⟨X2, hX2⟩ : ∃ X2, X2 = X.setCell ⟨nb, 0, none⟩ (.int .u64 (bits .or .u64 (sumB (pkB P k) : Nat) (IntKind.u64.wrap (2 ^ k)))) := ⟨_, rfl⟩
                obtain ⟨n1, n2⟩ := HSX.out.set0 (.int .u64 (bits .or .u64 (sumB (pkB P k) : Nat) (IntKind.u64.wrap (2 ^ k))))
                rw [← hX2] at n1 n2
                rw [HOR.out] at n1
                obtain ⟨Y2, hY2⟩ : ∃ Y2, Y2 = X2.alloc (.cells #[.int .i64 (hh k : Nat)] 3) := ⟨_, rfl⟩
                have hwY2 : Below X2.heap.size X2 Y2 := by rw [hY2]; exact (Below.refl _ _).alloc (Nat.le_refl _) _
                have HS1 : Sl Y2 1 (.slice (some ⟨X2.heap.size, 0, none⟩) 1 1) (([hh k] : List Nat).map nat1) := by
                  rw [hY2]
                  exact (own_one (W := X2) (B := X2.heap.size) (sz := 1) (c := [.int .i64 (hh k : Nat)]) rfl (Nat.le_refl _) rfl rfl (by decide)).sl
                have hxs : X.heap.size = X2.heap.size := by rw [hX2]; simp
                rw [← hG.out]
                clear hG G
                rw [← hX2, hxs, ← hY2]
                have NDY := n1.below hwY2
                have HBY := Lib.hid ((HBX.out.trans n2).trans (hwY2.mono (by have := n1.sz; omega)))
                have hn16 : hn ≤ 16 := by omega
                refine wpList_append_at rfl _ _ 32 3 1 8 _ rfl eiNat1 (nb + 1) (.slice ha hn hc) (((pkB P k).map hh).map nat1) rfl NDY.oh (.slice (some ⟨X2.heap.size, 0, none⟩) 1 1) (([hh k] : List Nat).map nat1) rfl HS1 (by intro c hc; obtain ⟨r, _, rfl⟩ := List.mem_map.1 hc; exact nat1_one r) (by have := HHN.out; simp; omega) (by decide) NDY.sz (by simp) ?_
                intro v5 w5 ho5 hg5 hb5 hat5
                rw [← List.map_append] at ho5
                have HK1 := Lib.hid (show (pkB P (k + 1)).map hh = (pkB P k).map hh ++ [hh k] by rw [pk_yes HPK.out, List.map_append]; rfl)
                obtain ⟨m1, m2⟩ := NDY.app2 ho5 hg5 hat5
                have hrx := NDY.rx.grown hg5 (fun g e => by have := (NDY.oh.lt g e).1; omega)
                have t2 := hrx.cell 2 _ rfl
                have g2 := hrx.fz 2
                have nb5 := hrx.lt
                obtain ⟨a5, c5, rfl⟩ := ho5.shape
                have HNN := Lib.hid (show (((pkB P k).map hh ++ [hh k]).map nat1).length = hn + 1 by have := HHN.out; simp; omega)
                rw [HNN.out] at m1 m2 ⊢
                rw [← HK1.out] at m1
                have HM1 := Lib.hid m1
                have HB1 := Lib.hid (HBY.out.trans m2)
                have HLN := Lib.hid (show hn + 1 = (pkB P (k + 1)).length by rw [pk_yes HPK.out, List.length_append, ← HHN.out]; rfl)
                clear n1 n2 hX2 hY2 hwY2 HS1 hxs NDY HBY ho5 hg5 hb5 hat5 m1 m2 hrx HSX HBX HS HB HHN HOR s0 s2 f0 HK1
                go_wp2
                go_roundw
                case rel => exact ⟨k + 1, by omega, by go_num, ⟨a5, hn + 1, c5, by omega, HLN, HM1⟩, HB1⟩
                case measure => simp [intOf]; omega
              · have hposi : ¬ (0 : Int) < ((hh k : Nat) : Int) := by omega
                have HPK := Lib.hid (show P k = false by rw [HPD.out]; simpa using hpos)
                have HK1 := Lib.hid (pk_no HPK.out)
                clear hpos
                go_wp2_with fail
                go_roundw
                case rel => exact ⟨k + 1, by omega, by go_num, ⟨ha, hn, hc, by omega, by rw [HK1.out]; exact HHN, by rw [HK1.out]; exact HS⟩, HB⟩
                case measure => simp [intOf]; omega
            · obtain rfl : k = 16 := by omega
              rw [HPP.out] at HHN HS
              clear hk16 hk EI1 HNX HYS
              obtain ⟨W3, hW3⟩ : ∃ W, W = wr := ⟨_, rfl⟩
              subst hW3
              have HW3 := Lib.hid (HWY.out.trans (show Below wr.heap.size Y1 W3 from HNB.out ▸ HB.out))
              have HT3 := Lib.hid (HT.out.below HW3.out)
              obtain ⟨gq', offq', hgq', hgl', hcq'⟩ := Sl.at HT3.out.qo.sl (i := i) (c := ptr1 (M x.1 x.2)) (by rw [List.getElem?_map, HXi.out]; rfl)
              simp only [Option.some.injEq, Addr.mk.injEq, and_true] at hgq'
              obtain ⟨rfl, rfl⟩ := hgq'
              have q0 : W3.cell? ⟨gq, offq + i, none⟩ = some (.pointer (some ⟨b, 0, none⟩)) := by simpa using hcq' 0 (.pointer (some ⟨b, 0, none⟩)) (by rw [HBi.out]; rfl)
              have hdr3 := HDR.out.below HW3.out
              have hbl3 := hdr3.lt
              obtain ⟨pp, hpp⟩ : ∃ f : Nat → Option Nat, f = fun m => M (x.1 + 1) (16 * x.2 + m) := ⟨_, rfl⟩
              have HPPX := Lib.hid hpp
              have dk : ∀ m, m < 16 → W3.cell? ⟨b, 16 + m, none⟩ = some (ptrO (pp m)) := fun m hm => by rw [hpp]; exact hdr3.cell (16 + m) _ (drC_kid hm)
              clear hpp hdr3 hcq'
              have dk0 : W3.cell? ⟨b, 16, none⟩ = some (ptrO (pp 0)) := dk 0 (by decide)
              have dk1 : W3.cell? ⟨b, 17, none⟩ = some (ptrO (pp 1)) := dk 1 (by decide)
              have dk2 : W3.cell? ⟨b, 18, none⟩ = some (ptrO (pp 2)) := dk 2 (by decide)
              have dk3 : W3.cell? ⟨b, 19, none⟩ = some (ptrO (pp 3)) := dk 3 (by decide)
              have dk4 : W3.cell? ⟨b, 20, none⟩ = some (ptrO (pp 4)) := dk 4 (by decide)
              have dk5 : W3.cell? ⟨b, 21, none⟩ = some (ptrO (pp 5)) := dk 5 (by decide)
              have dk6 : W3.cell? ⟨b, 22, none⟩ = some (ptrO (pp 6)) := dk 6 (by decide)
              have dk7 : W3.cell? ⟨b, 23, none⟩ = some (ptrO (pp 7)) := dk 7 (by decide)
              have dk8 : W3.cell? ⟨b, 24, none⟩ = some (ptrO (pp 8)) := dk 8 (by decide)
              have dk9 : W3.cell? ⟨b, 25, none⟩ = some (ptrO (pp 9)) := dk 9 (by decide)
              have dk10 : W3.cell? ⟨b, 26, none⟩ = some (ptrO (pp 10)) := dk 10 (by decide)
              have dk11 : W3.cell? ⟨b, 27, none⟩ = some (ptrO (pp 11)) := dk 11 (by decide)
              have dk12 : W3.cell? ⟨b, 28, none⟩ = some (ptrO (pp 12)) := dk 12 (by decide)
              have dk13 : W3.cell? ⟨b, 29, none⟩ = some (ptrO (pp 13)) := dk 13 (by decide)
              have dk14 : W3.cell? ⟨b, 30, none⟩ = some (ptrO (pp 14)) := dk 14 (by decide)
              have dk15 : W3.cell? ⟨b, 31, none⟩ = some (ptrO (pp 15)) := dk 15 (by decide)
              have hqnb : Value.ownBlock (.slice (some ⟨gq, offq, none⟩) n qc) ≠ some nb := fun e => by
                have h1 := (HT.out.qo.lt nb e).2
                have h2 := HNB.out
                omega
              have HQN := Lib.hid hqnb
              have HRW := Lib.hid (show RowsLow nb rows from HNB.out ▸ HT.out.low)
              have HON := Lib.hid (show Value.ownBlock (.slice oa i oc) ≠ some nb from fun e => by
                have h1 := (HT.out.oo.lt nb e).2
                have h2 := HNB.out
                omega)
              have HWN := Lib.hid (show W1.heap.size ≤ nb by rw [HNB.out]; exact HT.out.lo.size)
              clear dk hqnb hbl HDR HT HWY HB hgq hgl'
              go_wp2_with fail
              obtain ⟨arp, harp⟩ : ∃ A : Array Value, A = #[ptrO (pp 0), ptrO (pp 1), ptrO (pp 2), ptrO (pp 3), ptrO (pp 4), ptrO (pp 5), ptrO (pp 6), ptrO (pp 7), ptrO (pp 8), ptrO (pp 9), ptrO (pp 10), ptrO (pp 11), ptrO (pp 12), ptrO (pp 13), ptrO (pp 14), ptrO (pp 15)] := ⟨_, rfl⟩
              rw [← harp]
              have EI2 : Hid (∀ (m : Nat) (W : World), m < 16 → (Instr.index 105 (.agg arp) (.int .i64 m)).run Tryd.prog W = .ok (ptrO (pp m)) W) := fun m W hm => by
                rw [harp]
                exact idxP16 pp m W hm
              obtain ⟨Pk, hPk⟩ : ∃ P : Nat → Bool, P = fun m => nodeIn R (x.1 + 1) (16 * x.2 + m) := ⟨_, rfl⟩
              have HPK := Lib.hid hPk
              have HSM := Lib.hid (show ∀ m, (pp m).isSome = Pk m from fun m => by rw [HPPX.out, hPk]; exact HM.out.some_ _ _)
              clear harp hPk dk0 dk1 dk2 dk3 dk4 dk5 dk6 dk7 dk8 dk9 dk10 dk11 dk12 dk13 dk14 dk15 q0
              go_loopw [6, 67] (fun v6 v wq => ∃ k : Nat, k ≤ 16 ∧ v = .int .i64 k ∧ (∃ (qa : Option Addr) (nq qc kn : Nat) (ka : Option Addr) (kc : Nat), v6 = .slice qa nq qc ∧ kn ≤ k ∧ nq = n + kn ∧ Hid (kn = (pkB Pk k).length) ∧ Hid (Value.ownBlock (.slice qa nq qc) ≠ some nb) ∧ Hid (TrSt W1 wq R M i (.slice qa nq qc) (.slice oa i oc) (bq (nodeIn R) i ++ (pkB Pk k).map (fun m => (x.1 + 1, 16 * x.2 + m))) rows) ∧ Hid (NdSt wq nb (.int .u64 (sumB (innB (hopAt R) x) : Nat)) (.int .u64 (sumB (pkB Pk k) : Nat)) (.slice ha hn hc) (.slice ka kn kc) ((innB (hopAt R) x).map hh) ((List.range kn).map (fun m => n + m))))) (fun _ v _ => 16 - (intOf v).toNat)
              case atStart => exact ⟨0, by decide, rfl, _, n, qc, 0, none, 0, rfl, Nat.le_refl _, rfl, rfl, HQN, by simpa [pkB] using HT3, HS⟩
              case round =>
                obtain ⟨k, hk, rfl, qa2, nq, qc2, kn, ka, kc, rfl, hkn, hnq, HKN, HQN2, HT4, HS4⟩ := hrel
                by_cases hk16 : k < 16
                · have ei0 := fun W => EI2.out k W hk16
                  have hki : (k : Int) < 16 := by omega
                  have HNQ := Lib.hid hnq
                  have hnq9 : nq ≤ 497 := by omega
                  clear hnq
                  cases hpk : pp k with
                  | none =>
                    have HK0 := Lib.hid (show Pk k = false by rw [← HSM.out k, hpk]; rfl)
                    have HK1 := Lib.hid (pk_no HK0.out)
                    have ei : ∀ W : World, (Instr.index 105 (.agg arp) (.int .i64 k)).run Tryd.prog W = .ok (.pointer none) W := fun W => by rw [ei0, hpk]; rfl
                    clear ei0 hpk
                    go_wp2_with fail
                    go_roundw
                    case rel => exact ⟨k + 1, by omega, by go_num, qa2, nq, qc2, kn, ka, kc, rfl, by omega, HNQ.out, by rw [HK1.out]; exact HKN, HQN2, by rw [HK1.out]; exact HT4, by rw [HK1.out]; exact HS4⟩
                    case measure => simp [intOf]; omega
                  | some bk =>
                    have HK0 := Lib.hid (show Pk k = true by rw [← HSM.out k, hpk]; rfl)
                    have HOR := Lib.hid (sum_pk_or HK0.out hk16)
                    have HMK := Lib.hid (show M (x.1 + 1) (16 * x.2 + k) = some bk by have := congrFun HPPX.out k; rw [hpk] at this; exact this.symm)
                    have ei : ∀ W : World, (Instr.index 105 (.agg arp) (.int .i64 k)).run Tryd.prog W = .ok (.pointer (some ⟨bk, 0, none⟩)) W := fun W => by rw [ei0, hpk]; rfl
                    have nbl := HS4.out.rx.lt
                    clear ei0 hpk
                    go_wp2_with fail
                    clear ei
                    have s1 := HS4.out.rx.cell 1 _ rfl
                    go_still_tail 6, (by kernel_rfl)
                    change wpList _ _ _ _ _ wr.drew
                    clear s1
                    have HSX := Lib.hid (HS4.out.below (w' := wr.drew) (Below.drew (Below.refl _ _)))
                    have HTX := Lib.hid (HT4.out.below (w' := wr.drew) (Below.drew (Below.refl _ _)))
                    generalize wr.drew = X at *
                    have s1 := HSX.out.rx.cell 1 _ rfl
                    have f1 := HSX.out.rx.fz 1
                    have nbx := HSX.out.rx.lt
                    have s3 := HSX.out.rx.cell 3 _ rfl
                    go_wp2_with (at_builtin; refine stop_at ?_; intro G hG)
                    obtain ⟨X2, hX2⟩ : ∃ X2, X2 = X.setCell ⟨nb, 1, none⟩ (.int .u64 (bits .or .u64 (sumB (pkB Pk k) : Nat) (IntKind.u64.wrap (2 ^ k)))) := ⟨_, rfl⟩
                    obtain ⟨n1, n2⟩ := HSX.out.set1 (.int .u64 (bits .or .u64 (sumB (pkB Pk k) : Nat) (IntKind.u64.wrap (2 ^ k))))
                    have t1 := HTX.out.cell (o := 1) (u := .int .u64 (bits .or .u64 (sumB (pkB Pk k) : Nat) (IntKind.u64.wrap (2 ^ k)))) HQN2.out HON.out HRW.out HWN.out
                    rw [← hX2] at n1 n2 t1
                    rw [HOR.out] at n1
                    obtain ⟨Y2, hY2⟩ : ∃ Y2, Y2 = X2.alloc (.cells #[.int .i64 (nq : Nat)] 3) := ⟨_, rfl⟩
                    have hwY2 : Below X2.heap.size X2 Y2 := by rw [hY2]; exact (Below.refl _ _).alloc (Nat.le_refl _) _
                    have HS1 : Sl Y2 1 (.slice (some ⟨X2.heap.size, 0, none⟩) 1 1) (([nq] : List Nat).map nat1) := by
                      rw [hY2]
                      exact (own_one (W := X2) (B := X2.heap.size) (sz := 1) (c := [.int .i64 (nq : Nat)]) rfl (Nat.le_refl _) rfl rfl (by decide)).sl
                    have hxs : X.heap.size = X2.heap.size := by rw [hX2]; simp
                    rw [← hG.out]
                    clear hG G
                    rw [← hX2, hxs, ← hY2]
                    have NDY := n1.below hwY2
                    have TDY := t1.below hwY2
                    have hkn16 : kn ≤ 16 := by omega
                    refine wpList_append_at rfl _ _ 32 3 1 8 _ rfl eiNat1 (nb + 1) (.slice ka kn kc) (((List.range kn).map (fun m => n + m)).map nat1) rfl NDY.ok (.slice (some ⟨X2.heap.size, 0, none⟩) 1 1) (([nq] : List Nat).map nat1) rfl HS1 (by intro c hc; obtain ⟨r, _, rfl⟩ := List.mem_map.1 hc; exact nat1_one r) (by simp; omega) (by decide) NDY.sz (by simp) ?_
                    intro v5 w5 ho5 hg5 hb5 hat5
                    rw [← List.map_append] at ho5
                    have HK1 := Lib.hid (show (List.range (kn + 1)).map (fun m => n + m) = (List.range kn).map (fun m => n + m) ++ [nq] by rw [List.range_succ, List.map_append, HNQ.out]; rfl)
                    obtain ⟨m1, m2⟩ := NDY.app3 ho5 hg5 hat5
                    have hrx := NDY.rx.grown hg5 (fun g e => by have := (NDY.ok.lt g e).1; omega)
                    have t3 := hrx.cell 3 _ rfl
                    have g3 := hrx.fz 3
                    have nb5 := hrx.lt
                    have T5 := TDY.ints NDY.ok hg5 HRW.out HWN.out NDY.rx.lt
                    have T6 := T5.cell (o := 3) (u := v5) HQN2.out HON.out HRW.out HWN.out
                    obtain ⟨a5, c5, rfl⟩ := ho5.shape
                    have HNN := Lib.hid (show (((List.range kn).map (fun m => n + m) ++ [nq]).map nat1).length = kn + 1 by simp)
                    rw [HNN.out] at m1 m2 T6 ⊢
                    rw [← HK1.out] at m1
                    have HM1 := Lib.hid m1
                    have HT6 := Lib.hid T6
                    clear n1 n2 hX2 hY2 hwY2 HS1 hxs NDY TDY t1 ho5 hg5 hb5 hat5 m1 m2 hrx HSX HTX HS4 HT4 HOR s1 s3 f1 HK1 T5 T6 nbx nbl
                    go_wp2_with (at_builtin; refine stop_at ?_; intro G hG)
                    obtain ⟨X3, hX3⟩ : ∃ X3, X3 = w5.setCell ⟨nb, 3, none⟩ (.slice a5 (kn + 1) c5) := ⟨_, rfl⟩
                    rw [← hX3] at HM1 HT6
                    obtain ⟨Y3, hY3⟩ : ∃ Y3, Y3 = X3.alloc (.cells #[.pointer (some ⟨bk, 0, none⟩)] 103) := ⟨_, rfl⟩
                    have hwY3 : Below X3.heap.size X3 Y3 := by rw [hY3]; exact (Below.refl _ _).alloc (Nat.le_refl _) _
                    have HS3 : Sl Y3 1 (.slice (some ⟨X3.heap.size, 0, none⟩) 1 1) (([(x.1 + 1, 16 * x.2 + k)] : List (Nat × Nat)).map (fun x => ptr1 (M x.1 x.2))) := by
                      rw [hY3]
                      simp only [List.map_cons, List.map_nil, HMK.out]
                      exact (own_one (W := X3) (B := X3.heap.size) (sz := 1) (c := ptr1 (some bk)) rfl (Nat.le_refl _) rfl rfl (by decide)).sl
                    have hxs3 : w5.heap.size = X3.heap.size := by rw [hX3]; simp
                    rw [← hG.out]
                    clear hG G
                    rw [← hX3, hxs3, ← hY3]
                    have NDZ := HM1.out.below hwY3
                    have TDZ := HT6.out.below hwY3
                    have hq500 : (bq (nodeIn R) i).length ≤ 481 := by rw [← HN.out]; exact hn481
                    have hpl := pk_len Pk k
                    refine wpList_append_at rfl _ _ 109 103 1 8 _ rfl eiPtr1 W1.heap.size (.slice qa2 nq qc2) _ rfl TDZ.qo (.slice (some ⟨X3.heap.size, 0, none⟩) 1 1) (([(x.1 + 1, 16 * x.2 + k)] : List (Nat × Nat)).map (fun x => ptr1 (M x.1 x.2))) rfl HS3 (by intro c hc; obtain ⟨r, _, rfl⟩ := List.mem_map.1 hc; exact ptr1_one _) (by simp; omega) (by decide) TDZ.lo.size (by simp) ?_
                    intro v7 w7 ho7 hg7 hb7 hat7
                    rw [← List.map_append] at ho7
                    have T7 := TDZ.queue (x := (x.1 + 1, 16 * x.2 + k)) ho7 hg7
                    have N7 := NDZ.grow TDZ.qo ty_int_draft HQN2.out hg7
                    have hq7 : v7.ownBlock ≠ some nb := fun e => by
                      rcases hat7 with h | h
                      · rw [h] at e; exact HQN2.out e
                      · rw [h] at e
                        cases e
                        have := NDZ.rx.lt
                        omega
                    obtain ⟨a7, c7, rfl⟩ := ho7.shape
                    have HLL := Lib.hid (show ((bq (nodeIn R) i ++ (pkB Pk k).map (fun m => (x.1 + 1, 16 * x.2 + m)) ++ [(x.1 + 1, 16 * x.2 + k)]).map (fun x => ptr1 (M x.1 x.2))).length = nq + 1 by
                      have h1 := HN.out
                      have h2 := HKN.out
                      have h3 := HNQ.out
                      simp only [List.length_map, List.length_append, List.length_cons, List.length_nil]
                      omega)
                    rw [HLL.out] at T7 hq7 ⊢
                    have HQ7 := Lib.hid hq7
                    have HT7 : Hid (TrSt W1 w7 R M i (.slice a7 (nq + 1) c7) (.slice oa i oc) (bq (nodeIn R) i ++ (pkB Pk (k + 1)).map (fun m => (x.1 + 1, 16 * x.2 + m))) rows) := Lib.hid (by
                      rw [pk_yes HK0.out, List.map_append, ← List.append_assoc]
                      exact T7)
                    have HN7 := Lib.hid N7
                    have HKN2 := Lib.hid (show kn + 1 = (pkB Pk (k + 1)).length by rw [pk_yes HK0.out, List.length_append, ← HKN.out]; rfl)
                    have HNQ2 := Lib.hid (show nq + 1 = n + (kn + 1) by have := HNQ.out; omega)
                    clear HM1 HT6 hX3 hY3 hwY3 HS3 hxs3 NDZ TDZ hq500 hpl ho7 hg7 hb7 hat7 T7 N7 hq7 HLL HNN HNQ HKN HMK t3 g3
                    go_frame
                    go_wp2
                    go_roundw
                    case rel => (repeat apply Exists.intro); exact ⟨⟨k + 1, by omega, by go_num, a7, nq + 1, c7, kn + 1, a5, c5, rfl, by omega, HNQ2.out, HKN2, HQ7, HT7, HN7⟩, rfl⟩
                    case measure => simp [intOf]; omega
                · obtain rfl : k = 16 := by omega
                  have HOB := Lib.hid (show pkB Pk 16 = outB (nodeIn R) x by rw [HPK.out]; rfl)
                  rw [HOB.out] at HKN HT4 HS4
                  have HKQ := Lib.hid (show bq (nodeIn R) i ++ (outB (nodeIn R) x).map (fun m => (x.1 + 1, 16 * x.2 + m)) = bq (nodeIn R) (i + 1) by rw [bq_some HXi.out]; rfl)
                  rw [HKQ.out] at HT4
                  have HNQ := Lib.hid (show nq = (bq (nodeIn R) (i + 1)).length by rw [← HKQ.out, List.length_append, List.length_map, ← HN.out, ← HKN.out]; exact hnq)
                  have hnq481 : nq ≤ 481 := by rw [HNQ.out]; have := HQL.out (i + 1); omega
                  have hinq : i + 1 ≤ nq := by omega
                  have s0 := HS4.out.rx.cell 0 _ rfl
                  have s1 := HS4.out.rx.cell 1 _ rfl
                  have s2 := HS4.out.rx.cell 2 _ rfl
                  have s3 := HS4.out.rx.cell 3 _ rfl
                  have nbl := HS4.out.rx.lt
                  clear hnq hk16 hk EI2 HSM HPPX HQN HRW
                  go_wp2_with (at_builtin; refine stop_at ?_; intro G hG)
                  obtain ⟨r, hr⟩ : ∃ r : List Value, r = [.int .u64 (sumB (innB (hopAt R) x) : Nat), .int .u64 (sumB (outB (nodeIn R) x) : Nat), .slice ha hn hc, .slice ka kn kc] := ⟨_, rfl⟩
                  have HRO := Lib.hid (show RowOk wr W1.heap.size (nodeAt (nodeIn R) (hopAt R) x (bq (nodeIn R) i).length) r from by
                    have e1 : (nodeAt (nodeIn R) (hopAt R) x (bq (nodeIn R) i).length).hops.length = hn := by rw [HHN.out]; simp [nodeAt]
                    have e2 : (nodeAt (nodeIn R) (hopAt R) x (bq (nodeIn R) i).length).kids.length = kn := by rw [HKN.out]; simp [nodeAt]
                    refine ⟨ha, hc, ka, kc, by rw [e1, e2, hr]; rfl, ?_, ?_⟩
                    · rw [e1]
                      have := HS4.out.oh.base (B := W1.heap.size) (by have := HWN.out; omega)
                      rw [HHH.out] at this
                      exact this
                    · rw [e2]
                      have := HS4.out.ok.base (B := W1.heap.size) (by have := HWN.out; omega)
                      rw [HN.out, HKN.out] at this
                      rw [HKN.out]
                      exact this)
                  have hone : ∀ u ∈ r, u.oneCell' = true := by
                    intro u hu
                    rw [hr] at hu
                    simp at hu
                    rcases hu with rfl | rfl | rfl | rfl <;> rfl
                  obtain ⟨Y2, hY2⟩ : ∃ Y2, Y2 = wr.alloc (.cells #[.int .u64 (sumB (innB (hopAt R) x) : Nat), .int .u64 (sumB (outB (nodeIn R) x) : Nat), .slice ha hn hc, .slice ka kn kc] 34) := ⟨_, rfl⟩
                  have hwY2 : Below wr.heap.size wr Y2 := by rw [hY2]; exact (Below.refl _ _).alloc (Nat.le_refl _) _
                  have HS1 : Sl Y2 4 (.slice (some ⟨wr.heap.size, 0, none⟩) 1 1) [r] := by
                    rw [hY2]
                    exact (own_one (W := wr) (B := wr.heap.size) (sz := 4) (c := r) rfl (Nat.le_refl _) (by rw [hr]) (by rw [hr]; rfl) (by decide)).sl
                  rw [← hG.out]
                  clear hG G
                  rw [← hY2]
                  have TDY := HT4.out.below hwY2
                  have HROY := HRO.out.below hwY2
                  have hrl : rows.length = i := by rw [TDY.no.1, treeL_len]
                  refine wpList_append_at rfl _ _ 28 34 4 64 _ rfl eiNode W1.heap.size (.slice oa i oc) rows rfl TDY.oo (.slice (some ⟨wr.heap.size, 0, none⟩) 1 1) [r] rfl HS1 (by intro c hc; rw [List.mem_singleton.1 hc]; exact hone) (by rw [hrl]; simp; omega) (by decide) TDY.lo.size (by simp) ?_
                  intro v5 w5 ho5 hg5 hb5 hat5
                  have T5 := TDY.node HXi.out HROY ho5 hg5
                  obtain ⟨a5, c5, rfl⟩ := ho5.shape
                  have HRL := Lib.hid (show (rows ++ [r]).length = i + 1 by rw [List.length_append, hrl]; rfl)
                  rw [HRL.out] at T5 ⊢
                  have HT5 := Lib.hid T5
                  clear hr HRO hone hY2 hwY2 HS1 TDY HROY hrl ho5 hg5 hb5 hat5 T5 HS4 HT4 s0 s1 s2 s3 nbl HRL HKQ HOB HKN HHN
                  go_wp2
                  go_roundw
                  case rel => first | exact ⟨i + 1, by go_num, _, nq, _, _, _, _, rfl, rfl, hinq, hnq481, HNQ, HT5⟩ | exact ⟨_, _, _, _, _, _, _, _, _, ⟨i + 1, by go_num, _, nq, _, _, _, _, rfl, rfl, hinq, hnq481, HNQ, HT5⟩, rfl⟩ | (trace_state; fail)
                  case measure => simp [intOf]; omega
        · obtain rfl : i = n := by omega
          have HT1 := Lib.hid (bT_one HR.out HN.out.symm)
          have HRT := Lib.hid (show ∃ v, Value.slice oa i oc = v ∧ RetNodes w (treeOf R) v wr from ⟨_, rfl, rows, HT.out.oo.base hzr, by unfold treeOf; rw [← HT1.out]; exact ⟨HT.out.no.1, fun m nd r e1 e2 => by
            obtain ⟨a, c, a', c', e, h1, h2⟩ := HT.out.no.2 m nd r e1 e2
            exact ⟨a, c, a', c', e, h1.base hzr, h2.base hzr⟩⟩, HB.out.trans (HT.out.lo.mono hzr)⟩)
          clear HT HB
          go_wp2_with fail
          go_returns
          obtain ⟨v, rfl, h⟩ := HRT.out
          exact ⟨_, rfl, h⟩
end Go.Proofs.YtoecmoicaklbaaaDoor
