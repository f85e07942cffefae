
/- ImageLong: the walk. -/
import Derived.Test.YteadfobfenopkaaIm2
set_option linter.unusedVariables false
set_option linter.unusedSimpArgs false
namespace Go.Proofs.Yteadfobfenopkaa
open Go Go.RowKit Go.Sort Wc Wk

theorem run_byte_take (g p n c : Nat) (h1 : p ≤ n) (h2 : n ≤ c) (h3 : c ≤ 9223372036854775807) (W : World) : (Instr.slice 64 (.slice (some ⟨g, 0, none⟩) n c) none (some (.int .i64 (p : Int))) none).run Try.prog W = .ok (.slice (some ⟨g, 0, none⟩) p c) W := by
  have h4 : p ≤ c := by omega
  have h5 : (0 : Int) ≤ p := by omega
  go_simp
set_option maxRecDepth 100000 in
theorem byte_take {w : World} {B : Nat} {a : Option Addr} {n c : Nat} {xs : List Nat} (h : Wk.Own w B 5 1 (.slice a n c) (xs.map byteCells)) (p : Nat) (hp : p ≤ n) :
    (∀ W : World, (Instr.slice 64 (.slice a n c) none (some (.int .i64 (p : Int))) none).run Try.prog W = .ok (.slice a p c) W) ∧ Sl w 1 (.slice a p c) ((xs.take p).map byteCells) := by
  obtain ⟨hl, hc1, hc2⟩ := h.sl.lens
  rw [List.length_map] at hl
  refine ⟨fun W => ?_, by rw [List.map_take]; exact h.sl.take p (by rw [List.length_map]; omega)⟩
  rcases h.2.2 with ⟨hv, h0⟩ | ⟨g, cap, cur, hv, _⟩
  · simp only [Value.slice.injEq] at hv
    obtain ⟨rfl, rfl, rfl⟩ := hv
    obtain rfl : p = 0 := by omega
    first | rfl | kernel_rfl
  · simp only [Value.slice.injEq] at hv
    obtain ⟨rfl, _, rfl⟩ := hv
    exact run_byte_take g p n c hp hc1 hc2 W
def kfold (l : List Nat) : Nat := l.foldl (fun k x => 256 * k + x) 0
theorem kfold_snoc (l : List Nat) (x : Nat) : kfold (l ++ [x]) = 256 * kfold l + x := by unfold kfold; rw [List.foldl_append]; rfl
theorem kfold_be4 (V : Nat) (h : V < 4294967296) : kfold (be4 V) = V := by
  show 256 * (256 * (256 * (256 * 0 + V / 16777216 % 256) + V / 65536 % 256) + V / 256 % 256) + V % 256 = V
  omega
theorem kfold_lt (V m : Nat) (h : m ≤ 4) : kfold ((be4 V).take m) < 4294967296 := by
  match m, h with
  | 0, _ => show 0 < 4294967296; decide
  | 1, _ => show 256 * 0 + V / 16777216 % 256 < _; omega
  | 2, _ => show 256 * (256 * 0 + V / 16777216 % 256) + V / 65536 % 256 < _; omega
  | 3, _ => show 256 * (256 * (256 * 0 + V / 16777216 % 256) + V / 65536 % 256) + V / 256 % 256 < _; omega
  | 4, _ => show 256 * (256 * (256 * (256 * 0 + V / 16777216 % 256) + V / 65536 % 256) + V / 256 % 256) + V % 256 < _; omega
theorem saveB_len (L : List (Nat × Nat × Nat)) : (saveB L).length = 8 + (bodyB L).length := by
  unfold saveB headB be4
  simp
  omega

set_option maxRecDepth 100000 in
set_option maxHeartbeats 4000000 in
theorem imageLong_walk (a0 : Option Addr) (len0 cap0 : Nat) (z0 : List RawJ) (w : World) (h0 : IsJobs w a0 len0 cap0 z0) :
    Calls Try.prog 10 #[.slice a0 len0 cap0] w fun e w' => e = .returned (.bool true) ∧ Below w.heap.size w w' := by
  have H0 := Lib.hid h0
  clear h0
  go_enter Try.func10, Try.ntmps10
  go_wp2_with fail
  refine (acts_any a0 len0 cap0 z0 60 w H0.out (by decide)).mono ?_
  rintro e w1 ⟨v1, rfl, ho1, hb1⟩
  have HFT := Lib.hid (fun x (hx : x ∈ actsOf z0 60) => actsOf_fit x hx)
  have hn : (actsOf z0 60).length ≤ 60 := actsOf_len z0 60
  generalize actsOf z0 60 = al at *
  obtain ⟨va, vc, rfl⟩ := ho1.shape
  rw [List.length_map] at ho1 ⊢
  have HS1 := Lib.hid ho1.sl
  have HW := Lib.hid hb1
  clear ho1 hb1 H0
  go_wp2_with fail
  refine (routesOf_any va vc al.length al w1 rfl HS1.out (by omega) HFT.out).mono ?_
  rintro e w3 ⟨v3, rfl, ho3, hb3⟩
  have HT := Lib.hid (tend_ok TabOk.nil HFT.out)
  generalize tend [] al = L at *
  obtain ⟨ra, rc, rfl⟩ := ho3.shape
  rw [List.length_map] at ho3 ⊢
  have HR := Lib.hid ho3.sl
  have u3 := ho3.sl.lens.2.1
  have v3 := ho3.sl.lens.2.2
  replace HW := Lib.hid (HW.out.trans (hb3.mono HW.out.size))
  have h60 := HT.out.len
  obtain ⟨n, hN⟩ : ∃ n, n = L.length := ⟨_, rfl⟩
  rw [← hN] at HR u3 h60 ⊢
  have HN := Lib.hid hN
  clear ho3 hb3 HS1 HFT hn hN
  go_wp2_with (at_builtin; refine stop_at ?_; intro G hG)
  rw [← hG.out]; clear hG G
  refine wpList_append_any rfl _ _ 41 53 5 40 _ rfl eiRoute _ (.slice none 0 0) [] rfl (Wk.Own.nil _ _ _ _) (.slice ra n rc) (L.map routeCells) rfl HR.out (by intro c hc; obtain ⟨r, _, rfl⟩ := List.mem_map.1 hc; exact routeCells_one r) (by have := HN.out; simp; omega) (by decide) (Nat.le_refl _) ?_
  intro v4 w4 ho4 hb4
  rw [List.nil_append] at ho4
  obtain ⟨a4, c4, rfl⟩ := ho4.shape
  rw [List.length_map, ← HN.out] at ho4 ⊢
  have HC := Lib.hid ho4.sl
  replace HR := Lib.hid (HR.out.below hb4)
  replace HW := Lib.hid (HW.out.trans (hb4.mono HW.out.size))
  clear ho4 hb4
  go_wp2_with fail
  refine (iSave_any a4 c4 n L w4 HN.out HC.out (RtOk.of_tab HT.out) (by rw [putAll_srt HT.out]; exact HT.out)).mono ?_
  rintro e w5 ⟨v5, rfl, ho5, hb5⟩
  rw [putAll_srt HT.out] at ho5
  obtain ⟨a5, c5, rfl⟩ := ho5.shape
  rw [List.length_map] at ho5 ⊢
  replace HR := Lib.hid (HR.out.below hb5)
  replace HW := Lib.hid (HW.out.trans (hb5.mono HW.out.size))
  have u5 := ho5.sl.lens.2.1
  have v5 := ho5.sl.lens.2.2
  have hb8 := bodyB_le (L := L) (fun y hy => (HT.out.vp y hy).2.1)
  have hsl := saveB_len L
  have hsv : saveB L = (headB L ++ bodyB L) ++ be4 (sumV (headB L ++ bodyB L)) := rfl
  have h256 : ∀ y ∈ headB L ++ bodyB L, y < 256 := fun y hy => by
    rcases List.mem_append.1 hy with g | g
    · exact headB_lt (by have := HN.out; omega) y g
    · exact bodyB_lt (fun z hz => (HT.out.vp z hz).2.1) y g
  have hPl : (headB L ++ bodyB L).length = 4 + (bodyB L).length := by rw [List.length_append]; rfl
  obtain ⟨P, hP⟩ : ∃ P, P = headB L ++ bodyB L := ⟨_, rfl⟩
  rw [← hP] at hsv h256 hPl
  obtain ⟨Bt, hBt⟩ : ∃ b, b = saveB L := ⟨_, rfl⟩
  rw [← hBt] at ho5 hsl hsv u5 ⊢
  have HO5 := Lib.hid ho5
  have HSV := Lib.hid hsv
  have H256 := Lib.hid h256
  have HPL := Lib.hid hPl
  have HBN := Lib.hid hsl
  obtain ⟨bl, hbl⟩ : ∃ b, b = (bodyB L).length := ⟨_, rfl⟩
  rw [← hbl] at hb8 HPL HBN
  have HBL := Lib.hid hbl
  have hbl480 : bl ≤ 480 := by have := HN.out; omega
  clear ho5 hb5 hsl hsv h256 hPl hP hBt hbl HC hb8
  obtain ⟨X, hX⟩ : ∃ X : World, X = w5 := ⟨_, rfl⟩
  subst hX
  obtain ⟨N, hN⟩ : ∃ N, N = Bt.length := ⟨_, rfl⟩
  rw [← hN] at HO5 HBN u5 ⊢
  have HNB := Lib.hid hN
  have hN8 : N = 8 + bl := HBN.out
  clear hN
  go_wp2_with fail
  go_loopw [7, 8] (fun kv i wr => ∃ m : Nat, m ≤ n ∧ i = .int .i64 m ∧ kv = .int .i64 ((8 + (bodyB (L.take m)).length : Nat) : Int) ∧ wr = X) (fun _ i _ => n - (intOf i).toNat)
  case atStart => exact ⟨0, Nat.zero_le _, rfl, rfl, rfl⟩
  case round =>
    obtain ⟨m, hm, rfl, rfl, rfl⟩ := hrel
    by_cases hlt : m < n
    · obtain ⟨x, hx⟩ : ∃ x, L[m]? = some x := ⟨_, List.getElem?_eq_getElem (by have := HN.out; omega)⟩
      obtain ⟨b, off, rfl, hb, d0, d1, d2, d3, d4⟩ := Sl.route HR.out (Below.refl _ _) hx
      have hk32 : x.2.1 ≤ 32 := (HT.out.vp x (List.mem_of_getElem? hx)).2.1
      have hbt := bodyB_le (L := L.take m) (fun y hy => (HT.out.vp y (List.mem_of_mem_take hy)).2.1)
      rw [List.length_take] at hbt
      have HST := Lib.hid (show (bodyB (L.take (m + 1))).length = (bodyB (L.take m)).length + (4 + wide8 x.2.1) by rw [bodyB_snoc hx, List.length_append, routeB_len])
      obtain ⟨t, ht⟩ : ∃ t, t = (bodyB (L.take m)).length := ⟨_, rfl⟩
      rw [← ht] at hbt HST ⊢
      have ht480 : t ≤ 480 := by omega
      have hqq2 := (wide_div x.2.1).2.1
      have hq4 := (wide_div x.2.1).2.2 hk32
      obtain ⟨k, hk⟩ : ∃ k, k = x.2.1 := ⟨_, rfl⟩
      rw [← hk] at hqq2 hq4 hk32 HST d3
      generalize wide8 k = q at *
      clear hx hbt ht d0 d1 d2 d4
      go_wp2_with fail
      go_roundw
      case rel => exact ⟨m + 1, by omega, by go_num, by rw [HST.out]; go_num, trivial⟩
      case measure => simp [intOf]; omega
    · obtain rfl : m = n := by omega
      have e1 : L.take m = L := List.take_of_length_le (by have := HN.out; omega)
      rw [e1, ← HBL.out]
      have hd1 : decide (((8 + bl : Nat) : Int) < 8) = false := decide_eq_false (by omega)
      have hNe : (N : Int) = 8 + (bl : Int) := by omega
      obtain ⟨htk, hsk⟩ := byte_take HO5.out (4 + bl) (by omega)
      have hP4 : Bt.take (4 + bl) = P := by rw [HSV.out, List.take_append_of_le_length (by rw [HPL.out]; exact Nat.le_refl _), List.take_of_length_le (by rw [HPL.out]; exact Nat.le_refl _)]
      rw [hP4] at hsk
      have HSK := Lib.hid hsk
      have e4 : (N : Int) - 4 = ((4 + bl : Nat) : Int) := by omega
      clear hlt e1 hP4 hsk
      subst hN8
      go_wp2_with (at_builtin; refine stop_at ?_; intro G hG)
      rw [← hG.out]; clear hG G
      rw [show 8 + bl - 4 = 4 + bl by omega]
      refine wpList_append_any rfl _ _ 64 5 1 1 _ rfl eiByte _ (.slice none 0 0) [] rfl (Wk.Own.nil _ _ _ _) (.slice a5 (4 + bl) c5) (P.map byteCells) rfl HSK.out (by intro c hc; obtain ⟨r, _, rfl⟩ := List.mem_map.1 hc; exact byteCells_one r) (by have := HPL.out; simp; omega) (by decide) (Nat.le_refl _) ?_
      intro v6 w6 ho6 hb6
      rw [List.nil_append] at ho6
      obtain ⟨a6, c6, rfl⟩ := ho6.shape
      rw [List.length_map, HPL.out] at ho6 ⊢
      have SM := Lib.hid (isum_any a6 c6 (4 + bl) P w6 HPL.out.symm ho6.sl H256.out (by omega))
      have HO6 := Lib.hid (HO5.out.below hb6)
      have HW6 := Lib.hid (HW.out.trans (hb6.mono HW.out.size))
      have HVL := Lib.hid (sumV_lt P)
      have HBV := Lib.hid (show ∀ m, m < 4 → Bt[4 + bl + m]? = (be4 (sumV P))[m]? from fun m hm => by rw [HSV.out, List.getElem?_append_right (by rw [HPL.out]; omega), HPL.out]; congr 1; omega)
      clear ho6 hb6 htk hd1 hNe e4 HSK H256 HPL
      go_wp2_with ((with_reducible refine SM.out.mono ?_); rintro e w' ⟨rfl, rfl⟩)
      obtain ⟨V, hV⟩ : ∃ V, V = sumV P := ⟨_, rfl⟩
      rw [← hV] at HVL HBV ⊢
      clear hV SM
      obtain ⟨Y, hY⟩ : ∃ Y : World, Y = w6 := ⟨_, rfl⟩
      subst hY
      go_loopw [11, 12] (fun kv i wr => ∃ m : Nat, m ≤ 4 ∧ i = .int .i64 ((4 + bl + m : Nat) : Int) ∧ kv = .int .i64 (kfold ((be4 V).take m) : Nat) ∧ wr = Y) (fun _ i _ => 8 + bl - (intOf i).toNat)
      case atStart => exact ⟨0, Nat.zero_le _, by congr 1; omega, rfl, rfl⟩
      case round =>
        obtain ⟨m, hm, rfl, rfl, rfl⟩ := hrel
        by_cases hlt : m < 4
        · obtain ⟨x, hx⟩ : ∃ x, (be4 V)[m]? = some x := ⟨_, List.getElem?_eq_getElem (by exact hlt)⟩
          have hx256 := be4_lt V x (List.mem_of_getElem? hx)
          obtain ⟨b, off, rfl, hb, c0⟩ := Sl.byte HO6.out.sl (Below.refl _ _) ((HBV.out m hlt).trans hx)
          have hkl := kfold_lt V m hm
          have hkl2 := kfold_lt V (m + 1) hlt
          have hks : kfold ((be4 V).take (m + 1)) = 256 * kfold ((be4 V).take m) + x := by rw [List.take_add_one, hx]; exact kfold_snoc _ _
          rw [hks] at hkl2
          have HKS := Lib.hid hks
          generalize kfold ((be4 V).take m) = kk at *
          clear hx hks
          go_wp2_with fail
          go_roundw
          case rel => exact ⟨m + 1, by omega, by go_num, by rw [HKS.out]; go_num, trivial⟩
          case measure => simp [intOf]; omega
        · obtain rfl : m = 4 := by omega
          have e1 : kfold ((be4 V).take 4) = V := kfold_be4 V HVL.out
          rw [e1]
          go_wp2_with fail
          go_returns
          exact ⟨rfl, HW6.out⟩
end Go.Proofs.Yteadfobfenopkaa
