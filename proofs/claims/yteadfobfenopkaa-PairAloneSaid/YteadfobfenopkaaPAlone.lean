
/- PairAlone: the walk. -/
import Derived.Test.YteadfobfenopkaaPrY
import Derived.Test.YteadfobfenopkaaPrV
import Derived.Test.YteadfobfenopkaaAp
import Derived.Test.YteadfobfenopkaaGoes
set_option linter.unusedVariables false
set_option linter.unusedSimpArgs false
namespace Go.Proofs.Yteadfobfenopkaa
open Go Go.RowKit Go.Sort Wc Wk

/-- Asks of a writer, their acts, and four steps for each: three slices of the call's own. -/
structure Thr (B : Nat) (w : World) (va vb vp : Value) (bl : List AskD) (ps : List Nat) : Prop where
  oa : Wk.Own w B 79 14 va (bl.map askCells)
  ob : Wk.Own w B 35 9 vb ((bl.map (fun x => x.act)).map actCells)
  op : Wk.Own w B 3 1 vp (ps.map pickCells)
  ab : Apart va vb
  ap : Apart va vp
  bp : Apart vb vp
/-- The same, while the acts are one behind. -/
structure Thr2 (B : Nat) (w : World) (va vb vp : Value) (bl cl : List AskD) (ps : List Nat) : Prop where
  oa : Wk.Own w B 79 14 va (bl.map askCells)
  ob : Wk.Own w B 35 9 vb ((cl.map (fun x => x.act)).map actCells)
  op : Wk.Own w B 3 1 vp (ps.map pickCells)
  ab : Apart va vb
  ap : Apart va vp
  bp : Apart vb vp
theorem Thr.below {B : Nat} {w w' : World} {va vb vp : Value} {bl : List AskD} {ps : List Nat} (h : Thr B w va vb vp bl ps) (hb : Below w.heap.size w w') : Thr B w' va vb vp bl ps :=
  ⟨h.oa.below hb, h.ob.below hb, h.op.below hb, h.ab, h.ap, h.bp⟩
theorem drop_filter {α : Type} (p : α → Bool) (l : List α) {m : Nat} {x : α} (h : l[m]? = some x) : (l.take (m + 1)).filter p = (l.take m).filter p ++ if p x then [x] else [] := by
  rw [List.take_add_one, h]
  show ((l.take m) ++ [x]).filter p = _
  rw [List.filter_append]
  congr 1
  by_cases g : p x = true
  · rw [if_pos g]; simp [g]
  · rw [if_neg g]; simp [g]

set_option maxRecDepth 100000 in
set_option maxHeartbeats 8000000 in
theorem pairAlone_walk (a0 : Option Addr) (len0 cap0 : Nat) (z0 : List RawJ) (nn : Int) (w : World) (h0 : IsJobs w a0 len0 cap0 z0) (hk : -9223372036854775808 ≤ nn ∧ nn ≤ 9223372036854775807) :
    Calls Try.prog 17 #[.slice a0 len0 cap0, .int .i64 nn] w fun e w' => e = .returned (.bool true) ∧ Below w.heap.size w w' := by
  have H0 := Lib.hid h0
  have NR := Lib.hid (fun w => nearA_any nn w)
  have HFX := Lib.hid (nearA_fits nn)
  clear h0 hk
  go_enter Try.func17, Try.ntmps17
  go_wp2_with fail
  refine (asks_any a0 len0 cap0 z0 40 w H0.out (by decide)).mono ?_
  rintro e w1 ⟨v1, al, rfl, ho1, hok1, hl1, hb1⟩
  obtain ⟨aa, ac, rfl⟩ := ho1.shape
  rw [List.length_map] at ho1 ⊢
  have HA := Lib.hid ho1.sl
  have HOK := Lib.hid hok1
  have HW := Lib.hid hb1
  have ua := ho1.sl.lens.2.1
  have va := ho1.sl.lens.2.2
  clear ho1 hok1 hb1 H0
  obtain ⟨X, hX⟩ : ∃ X : World, X = w1 := ⟨_, rfl⟩
  subst hX
  go_wp2_with fail
  go_loopw [6, 7, 8, 9] (fun va vb vp i wr => ∃ m : Nat, m ≤ al.length ∧ i = .int .i64 m ∧ (∃ bl : List AskD, Hid (∀ x ∈ bl, x.ok) ∧ Hid (∀ x ∈ bl, x.rd = false) ∧ Hid (bl.length ≤ m) ∧ Hid (Thr X.heap.size wr va vb vp bl (List.replicate (4 * bl.length) 4))) ∧ Hid (Below X.heap.size X wr)) (fun _ _ _ i _ => al.length - (intOf i).toNat)
  case atStart => exact ⟨0, Nat.zero_le _, rfl, ⟨[], fun x h => (by cases h), fun x h => (by cases h), Nat.zero_le _, ⟨Wk.Own.nil _ _ _ _, Wk.Own.nil _ _ _ _, Wk.Own.nil _ _ _ _, Apart.nil none _, Apart.nil none _, Apart.nil none _⟩⟩, Below.refl _ _⟩
  case round =>
    obtain ⟨m, hm, rfl, ⟨bl, HBO, HBR, HBL, HT⟩, HB⟩ := hrel
    have hzr := HB.out.size
    by_cases hlt : m < al.length
    · obtain ⟨x, hx⟩ : ∃ x, al[m]? = some x := ⟨_, List.getElem?_eq_getElem hlt⟩
      have hk := HOK.out x (List.mem_of_getElem? hx)
      obtain ⟨b, off, rfl, hb, e0, e1, e2, e3, e4, e5, e6, e7, e8, e9, e10, e11, e12, e13⟩ := Sl.ask HA.out HB.out hx
      by_cases hr : x.rd = true
      · have ek : askKind x = 1 := by unfold askKind; rw [if_pos hr]
        rw [ek] at e0
        clear hr ek hk hx e1 e2 e3 e4 e5 e6 e7 e8 e9 e10 e11 e12 e13
        go_wp2_with fail
        go_roundw
        case rel => exact ⟨m + 1, by omega, by go_num, ⟨bl, HBO, HBR, Lib.hid (by have := HBL.out; omega), HT⟩, HB⟩
        case measure => simp [intOf]; omega
      · have hr0 : x.rd = false := by cases h : x.rd with
          | false => rfl
          | true => exact absurd h hr
        have c1 : (askKind x == 2) = true := by unfold askKind; rw [if_neg hr]; rfl
        have HBO2 := Lib.hid (show ∀ y ∈ bl ++ [x], y.ok from fun y hy => by
          rcases List.mem_append.1 hy with g | g
          · exact HBO.out y g
          · simp at g; subst g; exact hk)
        have HBR2 := Lib.hid (show ∀ y ∈ bl ++ [x], y.rd = false from fun y hy => by
          rcases List.mem_append.1 hy with g | g
          · exact HBR.out y g
          · simp at g; subst g; exact hr0)
        have HBL2 := Lib.hid (show (bl ++ [x]).length ≤ m + 1 by have := HBL.out; simp; omega)
        have HX := Lib.hid hx
        clear hr hk hx
        go_wp2_with (at_builtin; refine stop_at ?_; intro G hG)
        rw [← hG.out]; clear hG G
        refine wpList_append_at rfl _ _ 72 79 14 112 _ rfl eiAsk X.heap.size _ (bl.map askCells) rfl (HT.out.oa.alloc _) _ [askCells x] rfl (sl_new (c := askCells x) (by simp) rfl) (by intro c hc; simp at hc; subst hc; exact askCells_one x) (by have := HBL.out; simp; omega) (by decide) (by simp; omega) (by simp) ?_
        intro vA w5 hoA hgA hbA hatA
        rw [show bl.map askCells ++ [askCells x] = (bl ++ [x]).map askCells by simp] at hoA
        have HT5 := Lib.hid (show Thr2 X.heap.size w5 vA u7 u8 (bl ++ [x]) bl (List.replicate (4 * bl.length) 4) from ⟨hoA, (HT.out.ab.symm).keeps (HT.out.ob.alloc _) hgA, (HT.out.ap.symm).keeps (HT.out.op.alloc _) hgA, ((HT.out.ab.symm).grown (HT.out.ob.alloc _) hatA).symm, ((HT.out.ap.symm).grown (HT.out.op.alloc _) hatA).symm, HT.out.bp⟩)
        have HB5 : Hid (Below X.heap.size X w5) := Lib.hid ((HB.out.alloc hzr _).trans (hbA.mono (Nat.le_refl _)))
        have hz5 := HB5.out.size
        clear e0 e1 e2 e3 e4 e5 e6 e7 e8 e9 e10 e11 e12 e13
        obtain ⟨b', off', hh, _, e0, e1, e2, e3, e4, e5, e6, e7, e8, e9, e10, e11, e12, e13⟩ := Sl.ask HA.out HB5.out HX.out
        cases hh
        clear hoA hgA hbA hatA HT HB hzr
        go_wp2_with (at_builtin; refine stop_at ?_; intro G hG)
        rw [← hG.out]; clear hG G
        refine wpList_append_at rfl _ _ 28 35 9 72 _ rfl eiAct X.heap.size _ ((bl.map (fun x => x.act)).map actCells) rfl (HT5.out.ob.alloc _) _ [actCells x.act] rfl (sl_new (c := actCells x.act) (by simp) rfl) (by intro c hc; simp at hc; subst hc; exact actCells_one _) (by have := HBL.out; simp; omega) (by decide) (by simp; omega) (by simp) ?_
        intro vB w6 hoB hgB hbB hatB
        rw [show (bl.map (fun x => x.act)).map actCells ++ [actCells x.act] = ((bl ++ [x]).map (fun x => x.act)).map actCells by simp] at hoB
        have HT6 := Lib.hid (show Thr2 X.heap.size w6 vA vB u8 (bl ++ [x]) (bl ++ [x]) (List.replicate (4 * bl.length) 4) from ⟨HT5.out.ab.keeps (HT5.out.oa.alloc _) hgB, hoB, (HT5.out.bp.symm).keeps (HT5.out.op.alloc _) hgB, HT5.out.ab.grown (HT5.out.oa.alloc _) hatB, HT5.out.ap, ((HT5.out.bp.symm).grown (HT5.out.op.alloc _) hatB).symm⟩)
        have HB6 : Hid (Below X.heap.size X w6) := Lib.hid ((HB5.out.alloc hz5 _).trans (hbB.mono (Nat.le_refl _)))
        have hz6 := HB6.out.size
        clear e0 e1 e2 e3 e4 e5 e6 e7 e8 e9 e10 e11 e12 e13 hoB hgB hbB hatB HT5 HB5 hz5
        go_wp2_with (at_builtin; refine wpList_append_at rfl _ _ 57 3 1 8 _ rfl eiPick X.heap.size _ ((List.replicate (4 * bl.length) 4).map pickCells) rfl (HT6.out.op.alloc _) _ ([4, 4, 4, 4].map pickCells) rfl (sl_many (n := 4) (xs := [4, 4, 4, 4].map pickCells) rfl (by intro c hc; obtain ⟨j, _, rfl⟩ := List.mem_map.1 hc; rfl) rfl rfl (by decide)) (by intro c hc; obtain ⟨r, _, rfl⟩ := List.mem_map.1 hc; exact pickCells_one r) (by have := HBL.out; simp; omega) (by decide) (by simp; omega) (by simp) ?_; intro vC w7 hoC hgC hbC hatC; go_frame)
        rw [← List.map_append, show List.replicate (4 * bl.length) 4 ++ [4, 4, 4, 4] = List.replicate (4 * (bl ++ [x]).length) 4 by rw [show [4, 4, 4, 4] = List.replicate 4 4 from rfl, List.replicate_append_replicate]; congr 1; simp; omega] at hoC
        have HT7 := Lib.hid (show Thr X.heap.size w7 vA vB vC (bl ++ [x]) (List.replicate (4 * (bl ++ [x]).length) 4) from ⟨HT6.out.ap.keeps (HT6.out.oa.alloc _) hgC, HT6.out.bp.keeps (HT6.out.ob.alloc _) hgC, hoC, HT6.out.ab, HT6.out.ap.grown (HT6.out.oa.alloc _) hatC, HT6.out.bp.grown (HT6.out.ob.alloc _) hatC⟩)
        have HB7 : Hid (Below X.heap.size X w7) := Lib.hid ((HB6.out.alloc hz6 _).trans (hbC.mono (Nat.le_refl _)))
        clear hoC hgC hbC hatC HT6 HB6 hz6
        go_roundw
        case rel => exact ⟨m + 1, by omega, by go_num, ⟨bl ++ [x], HBO2, HBR2, HBL2, HT7⟩, HB7⟩
        case measure => simp [intOf]; omega
    · obtain rfl : m = al.length := by omega
      have hbl : bl.length ≤ 40 := by have := HBL.out; omega
      obtain ⟨q, hq⟩ : ∃ q : AskD, q = ⟨true, 2, nearA nn, actZ⟩ := ⟨_, rfl⟩
      have HLAW := Lib.hid (alone_law HBO.out HBR.out HFX.out)
      rw [← hq] at HLAW
      have hqok : ∀ x ∈ bl ++ [q], AskD.ok x := fun x hx => by
        rcases List.mem_append.1 hx with hx | hx
        · exact HBO.out x hx
        · simp at hx; subst hx; rw [hq]; exact .inl ⟨rfl, (by show 2 < 4; decide), HFX.out, rfl⟩
      have HQOK := Lib.hid hqok
      have HFIT := Lib.hid (show ∀ y ∈ bl.map (fun x => x.act), ActD.fit y from fun y hy => by
        obtain ⟨x, hx, rfl⟩ := List.mem_map.1 hy
        rcases HBO.out x hx with ⟨g, _⟩ | ⟨_, _, _, g⟩
        · rw [HBR.out x hx] at g; cases g
        · exact okA_fit g)
      have HQC := Lib.hid (show [askCells q] = [askCells ⟨true, 2, nearA nn, actZ⟩] by rw [hq])
      clear hq hqok HBL HBO HBR HA HOK
      obtain ⟨V, hV⟩ : ∃ V : World, V = wr := ⟨_, rfl⟩
      subst hV
      go_upto_region 13 with ((with_reducible refine (NR.out _).mono ?_); rintro e w4 ⟨rfl, hb4⟩; (repeat (with_reducible (replace hb4 := Below.undrew hb4))); obtain ⟨hc4, hf4⟩ := bcell hb4; have hz4 := hb4.size; (repeat (first | rw [World.size_alloc] at hz4 | rw [World.size_drew] at hz4 | rw [World.size_setCell] at hz4)); (try have : b < w4.heap.size := by omega); (try have : b < w4.heap.size + 1 := by omega); (try have : b < w4.heap.size + 1 + 1 := by omega); (try have : b < w4.heap.size + 1 + 1 + 1 := by omega); (try have : w.heap.size < w4.heap.size := by omega); (try have : w.heap.size < w4.heap.size + 1 := by omega); (try have : w.heap.size < w4.heap.size + 1 + 1 := by omega); (try have : w.heap.size < w4.heap.size + 1 + 1 + 1 := by omega); (try have : w1.heap.size < w4.heap.size := by omega); (try have : w1.heap.size < w4.heap.size + 1 := by omega); (try have : w1.heap.size < w4.heap.size + 1 + 1 := by omega); (try have : w1.heap.size < w4.heap.size + 1 + 1 + 1 := by omega); (try have : w2.heap.size < w4.heap.size := by omega); (try have : w2.heap.size < w4.heap.size + 1 := by omega); (try have : w2.heap.size < w4.heap.size + 1 + 1 := by omega); (try have : w2.heap.size < w4.heap.size + 1 + 1 + 1 := by omega); (try have : w3.heap.size < w4.heap.size := by omega); (try have : w3.heap.size < w4.heap.size + 1 := by omega); (try have : w3.heap.size < w4.heap.size + 1 + 1 := by omega); (try have : w3.heap.size < w4.heap.size + 1 + 1 + 1 := by omega); (try have : w3.heap.size + 1 < w4.heap.size := by omega); (try have : w3.heap.size + 1 < w4.heap.size + 1 := by omega); (try have : w3.heap.size + 1 < w4.heap.size + 1 + 1 := by omega); (try have : w3.heap.size + 1 < w4.heap.size + 1 + 1 + 1 := by omega); (try have : wr.heap.size < w4.heap.size := by omega); (try have : wr.heap.size < w4.heap.size + 1 := by omega); (try have : wr.heap.size < w4.heap.size + 1 + 1 := by omega); (try have : wr.heap.size < w4.heap.size + 1 + 1 + 1 := by omega))
      generalize nearA nn = ad at *
      have HT4 := Lib.hid (HT.out.below (w' := w4.alloc (.cells #[.bool false, .int .u64 (hiOf false ad), .int .u64 (loOf ad)] 31)) (hb4.alloc hb4.size _))
      have g0 : (w4.alloc (.cells #[.bool false, .int .u64 (hiOf false ad), .int .u64 (loOf ad)] 31)).cell? ⟨w4.heap.size, 0, none⟩ = some (.bool false) := by simp
      have g1 : (w4.alloc (.cells #[.bool false, .int .u64 (hiOf false ad), .int .u64 (loOf ad)] 31)).cell? ⟨w4.heap.size, 1, none⟩ = some (.int .u64 (hiOf false ad)) := by simp
      have g2 : (w4.alloc (.cells #[.bool false, .int .u64 (hiOf false ad), .int .u64 (loOf ad)] 31)).cell? ⟨w4.heap.size, 2, none⟩ = some (.int .u64 (loOf ad)) := by simp
      have HG := Lib.hid (show (w4.alloc (.cells #[.bool false, .int .u64 (hiOf false ad), .int .u64 (loOf ad)] 31)).cell? ⟨w4.heap.size, 0, none⟩ = some (.bool false) ∧ (w4.alloc (.cells #[.bool false, .int .u64 (hiOf false ad), .int .u64 (loOf ad)] 31)).cell? ⟨w4.heap.size, 1, none⟩ = some (.int .u64 (hiOf false ad)) ∧ (w4.alloc (.cells #[.bool false, .int .u64 (hiOf false ad), .int .u64 (loOf ad)] 31)).cell? ⟨w4.heap.size, 2, none⟩ = some (.int .u64 (loOf ad)) from ⟨g0, g1, g2⟩)
      have hPs : w4.heap.size < (w4.alloc (.cells #[.bool false, .int .u64 (hiOf false ad), .int .u64 (loOf ad)] 31)).heap.size := by simp
      have HPX := Lib.hid (show X.heap.size ≤ w4.heap.size from Nat.le_trans HB.out.size hb4.size)
      have HB4 := Lib.hid (show Below X.heap.size X (w4.alloc (.cells #[.bool false, .int .u64 (hiOf false ad), .int .u64 (loOf ad)] 31)) from (HB.out.trans (hb4.mono HB.out.size)).alloc (Nat.le_trans HB.out.size hb4.size) _)
      obtain ⟨P, hP⟩ : ∃ P, P = w4.heap.size := ⟨_, rfl⟩
      rw [← hP] at g0 g1 g2 hPs HG HPX ⊢
      have HNA := Lib.hid (show ∀ k, u6.ownBlock = some k → k ≠ P from fun k hk e => by
        have h1 := (HT.out.oa.lt k hk).2
        have h2 := hb4.size
        omega)
      have HNP := Lib.hid (show ∀ k, u8.ownBlock = some k → k ≠ P from fun k hk e => by
        have h1 := (HT.out.op.lt k hk).2
        have h2 := hb4.size
        omega)
      clear hP hb4 hc4 hf4 hz4 HB HT NR
      generalize w4.alloc (.cells #[.bool false, .int .u64 (hiOf false ad), .int .u64 (loOf ad)] 31) = Y at *
      obtain ⟨as_, has⟩ : ∃ l : List AskD, l = bl ++ [q] := ⟨_, rfl⟩
      obtain ⟨ps, hps⟩ : ∃ l : List Nat, l = List.replicate (4 * bl.length) 4 ++ [2, 2, 2, 2] := ⟨_, rfl⟩
      have hz := HB4.out.size
      go_wp2_with (at_builtin; refine stop_at ?_; intro G hG)
      rw [← hG.out]; clear hG G
      refine wpList_append_at rfl _ _ 72 79 14 112 _ rfl eiAsk X.heap.size _ (bl.map askCells) rfl (HT4.out.oa.alloc _) _ [askCells ⟨true, 2, ad, actZ⟩] rfl (sl_many (n := 1) (xs := [askCells ⟨true, 2, ad, actZ⟩]) rfl (by intro c hc; simp at hc; subst hc; rfl) rfl rfl (by decide)) (by intro c hc; simp at hc; subst hc; exact askCells_one _) (by simp; omega) (by decide) (by simp; omega) (by simp) ?_
      intro vA w5 hoA hgA hbA hatA
      rw [← HQC.out, show bl.map askCells ++ [askCells q] = as_.map askCells by rw [has]; simp] at hoA
      have HB5 := Lib.hid ((HB4.out.alloc hz (.cells (askCells ⟨true, 2, ad, actZ⟩).toArray 79)).trans (hbA.mono (Nat.le_refl _)))
      have hz5 := HB5.out.size
      have HT5 := Lib.hid (show Wk.Own w5 X.heap.size 35 9 u7 ((bl.map (fun x => x.act)).map actCells) ∧ Wk.Own w5 X.heap.size 3 1 u8 ((List.replicate (4 * bl.length) 4).map pickCells) ∧ Apart vA u8 ∧ Apart u7 u8 from ⟨(HT4.out.ab.symm).keeps (HT4.out.ob.alloc _) hgA, (HT4.out.ap.symm).keeps (HT4.out.op.alloc _) hgA, ((HT4.out.ap.symm).grown (HT4.out.op.alloc _) hatA).symm, HT4.out.bp⟩)
      have HOA := Lib.hid hoA
      have hP5 : ∀ o, w5.cell? ⟨P, o, none⟩ = Y.cell? ⟨P, o, none⟩ := fun o => (World.cell?_of_block (a := ⟨P, o, none⟩) (hgA.block P (by simp; omega) (fun e => HNA.out _ e.symm rfl))).trans (((Below.refl Y.heap.size Y).alloc (Nat.le_refl _) _).cell (p := ⟨P, o, none⟩) hPs)
      have HP5 := Lib.hid hP5
      have hPs5 : P < w5.heap.size := by have := hbA.size; simp at this; omega
      clear hoA hgA hbA hatA hP5 HT4 HB4 g0 g1 g2
      go_wp2_with (at_builtin; refine stop_at ?_; intro G hG)
      rw [← hG.out]; clear hG G
      refine wpList_append_at rfl _ _ 57 3 1 8 _ rfl eiPick X.heap.size _ ((List.replicate (4 * bl.length) 4).map pickCells) rfl (HT5.out.2.1.alloc _) _ ([2, 2, 2, 2].map pickCells) rfl (sl_many (n := 4) (xs := [2, 2, 2, 2].map pickCells) rfl (by intro c hc; obtain ⟨j, _, rfl⟩ := List.mem_map.1 hc; rfl) rfl rfl (by decide)) (by intro c hc; obtain ⟨r, _, rfl⟩ := List.mem_map.1 hc; exact pickCells_one r) (by simp; omega) (by decide) (by simp; omega) (by simp) ?_
      intro vC w6 hoC hgC hbC hatC
      rw [← List.map_append, ← hps] at hoC
      have HB6 := Lib.hid ((HB5.out.alloc hz5 (.cells #[.int .i64 2, .int .i64 2, .int .i64 2, .int .i64 2] 3)).trans (hbC.mono (Nat.le_refl _)))
      have hoB := HT5.out.2.2.2.keeps (HT5.out.1.alloc _) hgC
      have hoA := HT5.out.2.2.1.keeps (HOA.out.alloc _) hgC
      have hP6 : ∀ o, w6.cell? ⟨P, o, none⟩ = Y.cell? ⟨P, o, none⟩ := fun o => (World.cell?_of_block (a := ⟨P, o, none⟩) (hgC.block P (by simp; omega) (fun e => HNP.out _ e.symm rfl))).trans ((((Below.refl w5.heap.size w5).alloc (Nat.le_refl _) _).cell (p := ⟨P, o, none⟩) hPs5).trans (HP5.out o))
      have hPs6 : P < w6.heap.size := by have := hbC.size; simp at this; omega
      obtain ⟨aA, cA, rfl⟩ := hoA.shape
      obtain ⟨aB, cB, rfl⟩ := hoB.shape
      obtain ⟨aC, cC, rfl⟩ := hoC.shape
      rw [List.length_map] at hoA hoC
      rw [List.length_map, List.length_map] at hoB
      simp only [List.length_map]
      have HSA := Lib.hid hoA.sl
      have HSB := Lib.hid hoB.sl
      have HSC := Lib.hid hoC.sl
      have hal41 : as_.length ≤ 41 := by rw [has]; simp; omega
      have hps180 : ps.length ≤ 180 := by rw [hps]; simp; omega
      have uA := hoA.sl.lens.2.1
      have vA := hoA.sl.lens.2.2
      have uB := hoB.sl.lens.2.1
      have vB := hoB.sl.lens.2.2
      have uC := hoC.sl.lens.2.1
      have vC := hoC.sl.lens.2.2
      have HW6 := Lib.hid (HW.out.trans (HB6.out.mono HW.out.size))
      have HP6 := Lib.hid hP6
      rw [← has, ← hps] at HLAW
      rw [← has] at HQOK
      have HQ4 := Lib.hid (show ∀ x ∈ ps, x ≤ 4 from fun x hx => by
        rw [hps] at hx
        rcases List.mem_append.1 hx with g | g
        · rw [(List.mem_replicate.1 g).2]; exact Nat.le_refl _
        · simp at g; omega)
      clear hoA hoB hoC hgC hbC hatC hP6 HT5 HB5 HB6 HOA HP5 has hps hz5 hPs5 HQC HNA HNP hz hPs HPX
      go_wp2_with fail
      refine (paired_any aA aC cA cC as_ ps w6 HSA.out HSC.out (by omega) (by omega) HQOK.out HQ4.out).mono ?_
      rintro e w7 ⟨v7, rfl, ho7, hb7⟩
      obtain ⟨l1, l2, ln, l3⟩ := HLAW.out
      rw [l3] at ho7
      rw [l1]
      obtain ⟨aS, cS, rfl⟩ := ho7.shape
      have HSS := Lib.hid ho7.sl
      have HL2 := Lib.hid l2
      replace HSA := Lib.hid (HSA.out.below hb7)
      replace HSB := Lib.hid (HSB.out.below hb7)
      replace HSC := Lib.hid (HSC.out.below hb7)
      replace HW6 := Lib.hid (HW6.out.trans (hb7.mono HW6.out.size))
      replace HP6 := Lib.hid (fun o => (hb7.cell (p := ⟨P, o, none⟩) hPs6).trans (HP6.out o))
      have hPs7 : P < w7.heap.size := Nat.lt_of_lt_of_le hPs6 hb7.size
      clear ho7 hb7 l1 l2 l3 HLAW hPs6
      go_wp2_with (at_builtin; refine stop_at ?_; intro G hG)
      rw [← hG.out]; clear hG G
      refine wpList_append_any rfl _ _ 72 79 14 112 _ rfl eiAsk _ (.slice none 0 0) [] rfl (Wk.Own.nil _ _ _ _) (.slice aA as_.length cA) (as_.map askCells) rfl HSA.out (by intro c hc; obtain ⟨r, _, rfl⟩ := List.mem_map.1 hc; exact askCells_one r) (by simp; omega) (by decide) (Nat.le_refl _) ?_
      intro v8 w8 ho8 hb8
      rw [List.nil_append] at ho8
      obtain ⟨a8, c8, rfl⟩ := ho8.shape
      rw [List.length_map] at ho8 ⊢
      have HS8 := Lib.hid ho8.sl
      replace HSB := Lib.hid (HSB.out.below hb8)
      replace HSC := Lib.hid (HSC.out.below hb8)
      replace HSS := Lib.hid (HSS.out.below hb8)
      replace HW6 := Lib.hid (HW6.out.trans (hb8.mono HW6.out.size))
      replace HP6 := Lib.hid (fun o => (hb8.cell (p := ⟨P, o, none⟩) hPs7).trans (HP6.out o))
      have hPs8 : P < w8.heap.size := Nat.lt_of_lt_of_le hPs7 hb8.size
      clear ho8 hb8 HSA hPs7
      go_wp2_with (at_builtin; refine stop_at ?_; intro G hG)
      rw [← hG.out]; clear hG G
      refine wpList_append_any rfl _ _ 57 3 1 8 _ rfl eiPick _ (.slice none 0 0) [] rfl (Wk.Own.nil _ _ _ _) (.slice aC ps.length cC) (ps.map pickCells) rfl HSC.out (by intro c hc; obtain ⟨r, _, rfl⟩ := List.mem_map.1 hc; exact pickCells_one r) (by simp; omega) (by decide) (Nat.le_refl _) ?_
      intro v9 w9 ho9 hb9
      rw [List.nil_append] at ho9
      obtain ⟨a9, c9, rfl⟩ := ho9.shape
      rw [List.length_map] at ho9 ⊢
      have HS9 := Lib.hid ho9.sl
      replace HS8 := Lib.hid (HS8.out.below hb9)
      replace HSB := Lib.hid (HSB.out.below hb9)
      replace HSS := Lib.hid (HSS.out.below hb9)
      replace HW6 := Lib.hid (HW6.out.trans (hb9.mono HW6.out.size))
      replace HP6 := Lib.hid (fun o => (hb9.cell (p := ⟨P, o, none⟩) hPs8).trans (HP6.out o))
      have hPs9 : P < w9.heap.size := Nat.lt_of_lt_of_le hPs8 hb9.size
      clear ho9 hb9 HSC hPs8
      go_wp2_with fail
      refine (pFreed_any a8 a9 c8 c9 as_ ps w9 HS8.out HS9.out (by omega) (by omega) HQOK.out HQ4.out).mono ?_
      rintro e w10 ⟨rfl, hb10⟩
      rw [HL2.out]
      replace HSB := Lib.hid (HSB.out.below hb10)
      replace HSS := Lib.hid (HSS.out.below hb10)
      replace HW6 := Lib.hid (HW6.out.trans (hb10.mono HW6.out.size))
      replace HP6 := Lib.hid (fun o => (hb10.cell (p := ⟨P, o, none⟩) hPs9).trans (HP6.out o))
      have hPs10 : P < w10.heap.size := Nat.lt_of_lt_of_le hPs9 hb10.size
      clear hb10 HL2 HS8 HS9 hPs9
      go_wp2_with fail
      refine (routesOf_any aB cB bl.length (bl.map (fun x => x.act)) w10 (by rw [List.length_map]) HSB.out (by rw [List.length_map]; omega) HFIT.out).mono ?_
      rintro e w11 ⟨v11, rfl, ho11, hb11⟩
      obtain ⟨M, hM⟩ : ∃ M, M = tend [] (bl.map (fun x => x.act)) := ⟨_, rfl⟩
      have HTB := Lib.hid (tend_ok TabOk.nil HFIT.out)
      rw [← hM] at ho11 HSS HTB
      obtain ⟨aR, cR, rfl⟩ := ho11.shape
      rw [List.length_map] at ho11 ⊢
      have HR := Lib.hid ho11.sl
      replace HSS := Lib.hid (HSS.out.below hb11)
      replace HW6 := Lib.hid (HW6.out.trans (hb11.mono HW6.out.size))
      replace HP6 := Lib.hid (fun o => (hb11.cell (p := ⟨P, o, none⟩) hPs10).trans (HP6.out o))
      have hPs11 : P < w11.heap.size := Nat.lt_of_lt_of_le hPs10 hb11.size
      have uR := ho11.sl.lens.2.1
      have vR := ho11.sl.lens.2.2
      have HGO := Lib.hid (fun d os => goesTo_any aR cR M.length ad M (grow (redrawn w11 d) os) rfl (HR.out.below (below_regrown _ _ _)) (RtOk.of_tab HTB.out) HFX.out)
      rw [putAll_srt HTB.out] at HGO
      clear ho11 hb11 hM HSB hPs10 HTB HR HFIT
      obtain ⟨bs, os, rfl, hbs, _, s2, s4⟩ := Sl.seen HSS.out (Below.refl _ _) (i := 0) rfl
      dsimp only at s2 s4
      have p0 := (HP6.out 0).trans HG.out.1
      have p1 := (HP6.out 1).trans HG.out.2.1
      have p2 := (HP6.out 2).trans HG.out.2.2
      generalize (goesL M ad).1 = hop at *
      generalize M.length = mlen at *
      generalize bl.length = n at *
      obtain ⟨Z, hZ⟩ : ∃ Z : World, Z = w11 := ⟨_, rfl⟩
      subst hZ
      clear HSS HP6 HG HFX HQ4 HQOK
      go_upto_region 18 with fail
      refine wp_region_qb (by kernel_rfl) (by kernel_rfl) (fun kq => ?_)
      repeat (first | go_big_quiet_step (with_reducible exact Calls.regrown_of (HGO.out _ _)) | quiet_step (with_reducible exact Calls.regrown_of (HGO.out _ _)))
      clear kq
      refine wpQuiet_nil ?_; intro w12 hb12; (repeat (with_reducible (replace hb12 := Below.undrew hb12))); obtain ⟨hc12, hf12⟩ := bcell hb12; have hz12 := hb12.size; (repeat (first | rw [World.size_alloc] at hz12 | rw [World.size_drew] at hz12 | rw [World.size_setCell] at hz12)); (try have : b < w12.heap.size := by omega); (try have : b < w12.heap.size + 1 := by omega); (try have : b < w12.heap.size + 1 + 1 := by omega); (try have : b < w12.heap.size + 1 + 1 + 1 := by omega); (try have : w.heap.size < w12.heap.size := by omega); (try have : w.heap.size < w12.heap.size + 1 := by omega); (try have : w.heap.size < w12.heap.size + 1 + 1 := by omega); (try have : w.heap.size < w12.heap.size + 1 + 1 + 1 := by omega); (try have : w1.heap.size < w12.heap.size := by omega); (try have : w1.heap.size < w12.heap.size + 1 := by omega); (try have : w1.heap.size < w12.heap.size + 1 + 1 := by omega); (try have : w1.heap.size < w12.heap.size + 1 + 1 + 1 := by omega); (try have : w2.heap.size < w12.heap.size := by omega); (try have : w2.heap.size < w12.heap.size + 1 := by omega); (try have : w2.heap.size < w12.heap.size + 1 + 1 := by omega); (try have : w2.heap.size < w12.heap.size + 1 + 1 + 1 := by omega); (try have : w3.heap.size < w12.heap.size := by omega); (try have : w3.heap.size < w12.heap.size + 1 := by omega); (try have : w3.heap.size < w12.heap.size + 1 + 1 := by omega); (try have : w3.heap.size < w12.heap.size + 1 + 1 + 1 := by omega); (try have : w3.heap.size + 1 < w12.heap.size := by omega); (try have : w3.heap.size + 1 < w12.heap.size + 1 := by omega); (try have : w3.heap.size + 1 < w12.heap.size + 1 + 1 := by omega); (try have : w3.heap.size + 1 < w12.heap.size + 1 + 1 + 1 := by omega); (try have : wr.heap.size < w12.heap.size := by omega); (try have : wr.heap.size < w12.heap.size + 1 := by omega); (try have : wr.heap.size < w12.heap.size + 1 + 1 := by omega); (try have : wr.heap.size < w12.heap.size + 1 + 1 + 1 := by omega)
      go_wp2_with fail
      go_returns
      exact ⟨rfl, HW6.out.trans (hb12.mono HW6.out.size)⟩
end Go.Proofs.Yteadfobfenopkaa
