
/- Contracts of package image: Load. -/
import Derived.Test.YteadfobfenopkaaIm5
import Derived.Laws.BytesString
set_option linter.unusedVariables false
set_option linter.unusedSimpArgs false
namespace Go.Proofs.Yteadfobfenopkaa
open Go Go.RowKit Go.Sort Wc Wk

theorem run_byte_low (g off p n c : Nat) (h1 : p ≤ n) (h2 : n ≤ c) (h3 : c ≤ 9223372036854775807) (hne : c ≠ p) (W : World) : (Instr.slice 64 (.slice (some ⟨g, off, none⟩) n c) (some (.int .i64 (p : Int))) none none).run Try.prog W = .ok (.slice (some ⟨g, off + p, none⟩) (n - p) (c - p)) W := by
  have h4 : p ≤ c := by omega
  have h5 : (0 : Int) ≤ p := by omega
  go_simp
theorem run_byte_high (g off p n c : Nat) (h1 : p ≤ n) (h2 : n ≤ c) (h3 : c ≤ 9223372036854775807) (W : World) : (Instr.slice 64 (.slice (some ⟨g, off, none⟩) n c) none (some (.int .i64 (p : Int))) none).run Try.prog W = .ok (.slice (some ⟨g, off, none⟩) p c) W := by
  have h4 : p ≤ c := by omega
  have h5 : (0 : Int) ≤ p := by omega
  go_simp
theorem run_byte_mid (g off p n c : Nat) (h0 : 3 ≤ p) (h1 : p ≤ n) (h2 : n ≤ c) (h3 : c ≤ 9223372036854775807) (hne : c ≠ 3) (W : World) : (Instr.slice 64 (.slice (some ⟨g, off, none⟩) n c) (some (.int .i64 3)) (some (.int .i64 (p : Int))) none).run Try.prog W = .ok (.slice (some ⟨g, off + 3, none⟩) (p - 3) (c - 3)) W := by
  have h4 : p ≤ c := by omega
  have h5 : (0 : Int) ≤ p := by omega
  have h6 : (3 : Int) ≤ p := by omega
  go_simp
  try (intro h; omega)
def junkC (lo kk hp : Nat) : List Value := [.bool false, .int .u64 0, .int .u64 (lo : Int), .int .i64 (kk : Int), .int .i64 (hp : Int)]
theorem junkC_one (lo kk hp : Nat) : ∀ u ∈ junkC lo kk hp, u.oneCell' = true := by
  intro u hu
  simp [junkC] at hu
  rcases hu with rfl | rfl | rfl | rfl | rfl <;> rfl
def strOf (l : List Nat) : ByteArray := (l.map (fun n : Nat => (n : Int))).foldl (fun r n => r.push (UInt8.ofNat n.toNat)) ByteArray.empty
theorem bytes_string {W : World} {b off n c : Nat} {l : List Nat} (hs : Sl W 1 (.slice (some ⟨b, off, none⟩) n c) (l.map byteCells)) (hn : n = l.length) :
    (convert 64 9 (.slice (some ⟨b, off, none⟩) n c)).run Try.prog W = .ok (.string (strOf l)) W := by
  rw [run_convert_bytes_string W 64 9 5 _ n c (by kernel_rfl) (by kernel_rfl) (by kernel_rfl)]
  refine run_bytesToString W _ n c (l.map (fun n : Nat => (n : Int))) ?_
  have h := run_loadCells_list (P := Try.prog) W ⟨b, off, none⟩ ((l.map (fun n : Nat => (n : Int))).map (Value.int .u8)) (fun j v hv => by
    rw [List.getElem?_map, List.getElem?_map] at hv
    cases hx : l[j]? with
    | none => rw [hx] at hv; cases hv
    | some x =>
      rw [hx] at hv
      cases hv
      obtain ⟨b', off', hh, _, hc⟩ := Sl.byte hs (Below.refl _ _) hx
      cases hh
      rw [addr_add_none]
      exact hc)
  rw [List.length_map, List.length_map, ← hn] at h
  exact h
theorem own_other {w w' : World} {B sz R : Nat} {e : TypeId} {v : Value} {xs : List (List Value)} (ho : Wk.Own w B e sz v xs) (hg : w.grownBy w' (some R)) (hR : R < B) : Wk.Own w' B e sz v xs :=
  ho.kept (show w.grownBy w' (Value.ownBlock (.slice (some ⟨R, 0, none⟩) 1 1)) from hg) (fun _ he => by
    have := (ho.lt R he).1
    omega)
/-- What Load answers. -/
def RetLoad (w : World) (l : List Nat) (L : List (Nat × Nat × Nat)) (e : Ending) (w' : World) : Prop :=
  ∃ (v : Value) (code : Nat), e = .returned (.tuple #[v, .int .i64 (code : Int)]) ∧ Below w.heap.size w w' ∧
    ((v = .slice none 0 0 ∧ ((l.length < 8 ∧ code = 11) ∨ (8 ≤ l.length ∧ kfold (l.drop (l.length - 4)) ≠ sumV (l.take (l.length - 4)) ∧ code = 12) ∨ (8 ≤ l.length ∧ kfold (l.drop (l.length - 4)) = sumV (l.take (l.length - 4)) ∧ l ≠ saveB L ∧ code = 4))) ∨
     (l = saveB L ∧ code = 0 ∧ Wk.Own w' w.heap.size 53 5 v (L.map routeCells)))

set_option maxRecDepth 100000 in
set_option maxHeartbeats 8000000 in
theorem load_any (a : Option Addr) (cap N : Nat) (l : List Nat) (L : List (Nat × Nat × Nat)) (w : World) (hn : N = l.length) (hs : Sl w 1 (.slice a N cap) (l.map byteCells)) (h256 : ∀ x ∈ l, x < 256) (hN : N ≤ 3600) (hT : TabOk L)
    (hyp : 8 ≤ l.length → kfold (l.drop (l.length - 4)) = sumV (l.take (l.length - 4)) → ∃ J, J ≤ (bodyB L).length ∧ l.take (l.length - 4) = headB L ++ (bodyB L).take J ∧ (J = (bodyB L).length → l = saveB L)) :
    Calls Try.prog 30 #[.slice a N cap] w (RetLoad w l L) := by
  have HS := Lib.hid hs
  have HN := Lib.hid hn
  have H256 := Lib.hid h256
  have HT := Lib.hid hT
  have HY := Lib.hid hyp
  have u1 := hs.lens.2.1
  have u2 := hs.lens.2.2
  clear hs hn h256 hT hyp
  go_enter Try.func30, Try.ntmps30
  by_cases h8 : N < 8
  · have hd : ((N : Int) - 4 < 4) = True := by simp; omega
    go_wp2_with fail
    go_returns
    exact ⟨_, 11, rfl, Below.refl _ _, .inl ⟨rfl, .inl ⟨by rw [← HN.out]; exact h8, rfl⟩⟩⟩
  · obtain ⟨K, hK⟩ : ∃ K, K = N - 4 := ⟨_, rfl⟩
    obtain rfl : N = K + 4 := by omega
    have hK4 : 4 ≤ K := by omega
    obtain ⟨x0, hx0⟩ : ∃ x, l[0]? = some x := ⟨_, List.getElem?_eq_getElem (by have := HN.out; omega)⟩
    obtain ⟨b, off, rfl, hb, _⟩ := Sl.byte HS.out (Below.refl _ _) hx0
    have r1 := run_byte_low b off K (K + 4) cap (by omega) u1 u2 (by omega)
    have r2 := run_byte_high b off K (K + 4) cap (by omega) u1 u2
    have r3 := run_byte_mid b off K (K + 4) cap (by omega) (by omega) u1 u2 (by omega)
    rw [show K + 4 - K = 4 by omega] at r1
    have eK : (K : Int) + 4 - 4 = (K : Int) := by omega
    have hd : ¬ (K : Int) < 4 := by omega
    have hd2 : ¬ (3600 : Int) < (K : Int) + 4 := by omega
    have HTL := Lib.hid (show l.length - 4 = K by rw [← HN.out]; omega)
    have HDR := Lib.hid (show (l.drop K).length = 4 by rw [List.length_drop, ← HN.out]; omega)
    have HCELL := Lib.hid (fun (m x : Nat) (hm : (l.drop K)[m]? = some x) (wr : World) (hB : Below w.heap.size w wr) => by
      rw [List.getElem?_drop] at hm
      obtain ⟨b', off', hh, hb', hc⟩ := Sl.byte HS.out hB hm
      cases hh
      exact (show wr.cell? ⟨b, off + K + m, none⟩ = some (.int .u8 x) by rw [show off + K + m = off + (K + m) by omega]; exact hc))
    clear hx0 h8 hK
    go_wp2_with fail
    go_loopw [5, 27] (fun nv i wr => ∃ m : Nat, m ≤ 4 ∧ i = .int .i64 m ∧ nv = .int .u32 (kfold ((l.drop K).take m) : Nat) ∧ wr = w) (fun _ i _ => 4 - (intOf i).toNat)
    case atStart => exact ⟨0, Nat.zero_le _, rfl, rfl, rfl⟩
    case round =>
      obtain ⟨m, hm, rfl, rfl, rfl⟩ := hrel
      by_cases hlt : m < 4
      · obtain ⟨x, hx⟩ : ∃ x, (l.drop K)[m]? = some x := ⟨_, List.getElem?_eq_getElem (by rw [HDR.out]; exact hlt)⟩
        have hx256 := H256.out x (List.mem_of_mem_drop (List.mem_of_getElem? hx))
        have c0 := HCELL.out m x hx _ (Below.refl _ _)
        have hkl := kfold_bytes (l := (l.drop K).take m) (fun y hy => H256.out y (List.mem_of_mem_drop (List.mem_of_mem_take hy))) (by rw [List.length_take]; omega)
        have HKS := Lib.hid (show kfold ((l.drop K).take (m + 1)) = kfold ((l.drop K).take m) * 256 + x by rw [List.take_add_one, hx, Nat.mul_comm]; exact kfold_snoc _ _)
        generalize kfold ((l.drop K).take m) = kk at *
        have eo := or_u32b kk x hkl hx256
        clear hx r1 r2 r3
        go_wp2_with fail
        go_roundw
        case rel => exact ⟨m + 1, by omega, by go_num, by rw [HKS.out]; rfl, trivial⟩
        case measure => simp [intOf]; omega
      · obtain rfl : m = 4 := by omega
        obtain ⟨W0, hW0⟩ : ∃ W0 : World, W0 = wr := ⟨_, rfl⟩
        subst hW0
        have e1 : (l.drop K).take 4 = l.drop K := List.take_of_length_le (by rw [HDR.out]; exact Nat.le_refl _)
        rw [e1]
        have htk : Sl W0 1 (.slice (some ⟨b, off, none⟩) K cap) ((l.take K).map byteCells) := by rw [List.map_take]; exact HS.out.take K (by rw [List.length_map, ← HN.out]; omega)
        have SM := Lib.hid (sum_any (some ⟨b, off, none⟩) cap K (l.take K) W0 (by rw [List.length_take, ← HN.out]; omega) htk (fun y hy => H256.out y (List.mem_of_mem_take hy)))
        obtain ⟨KF, hKF⟩ : ∃ k, k = kfold (l.drop K) := ⟨_, rfl⟩
        obtain ⟨SV, hSV⟩ : ∃ s, s = sumV (l.take K) := ⟨_, rfl⟩
        rw [← hKF]
        rw [← hSV] at SM
        have HKF := Lib.hid hKF
        have HSV := Lib.hid hSV
        have HTK := Lib.hid htk
        clear e1 htk hKF hSV HCELL HDR
        by_cases hne : KF = SV
        · have hE : ((KF : Int) == (SV : Int)) = true := by rw [hne]; simp
          have HEQ := Lib.hid hne
          obtain ⟨J, hJ, hpre, hfull⟩ := HY.out (by rw [← HN.out]; omega) (by rw [HTL.out, ← HKF.out, ← HSV.out]; exact hne)
          rw [HTL.out] at hpre
          have hrd : (l.take K).drop 3 = rdL L J := by rw [hpre]; rfl
          have hbl := bodyB_le (L := L) (fun y hy => (HT.out.vp y hy).2.1)
          have h60 := HT.out.len
          have hKJ : K = 4 + J := by
            have := congrArg List.length hpre
            rw [List.length_take, ← HN.out, List.length_append, List.length_take] at this
            have e4 : (headB L).length = 4 := rfl
            omega
          have HFULL := Lib.hid hfull
          have HJ := Lib.hid hJ
          have HKJ := Lib.hid hKJ
          have hrl : (rdL L J).length = 1 + J := by unfold rdL; rw [List.length_cons, List.length_take]; omega
          have HRL := Lib.hid hrl
          have hrd256 : ∀ y ∈ rdL L J, y < 256 := fun y hy => by rw [← hrd] at hy; exact H256.out y (List.mem_of_mem_take (List.mem_of_mem_drop hy))
          have hdr := HTK.out.drop 3 (by rw [List.length_map, List.length_take, ← HN.out]; omega)
          rw [← List.map_drop, hrd, Nat.mul_one] at hdr
          have HSTEP := Lib.hid (fun (m : Nat) (x : Nat × Nat × Nat) (h : L[m]? = some x) => rd_step hJ h (HT.out.vp x (List.mem_of_getElem? h)) (HT.out.top x (List.mem_of_getElem? h)))
          have HNE := Lib.hid (show l = saveB L → False ∨ J = (bodyB L).length from fun h => .inr (by
            have h1 := saveB_len L
            rw [← h, ← HN.out] at h1
            omega))
          obtain ⟨rd, hrdd⟩ : ∃ r, r = rdL L J := ⟨_, rfl⟩
          rw [← hrdd] at hrl HRL hrd256 hdr HSTEP
          have HR256 := Lib.hid hrd256
          have hr0 : rd.getD 0 0 = L.length := by rw [hrdd]; rfl
          have HR0V := Lib.hid hr0
          have hbR : b < W0.heap.size := hb
          clear hpre hfull hbl hrd hrdd hr0 hrd256 hJ hKJ hrl hne
          go_upto_region 15 with ((with_reducible refine SM.out.mono ?_); rintro e w' ⟨rfl, rfl⟩)
          have HY0 : Hid (RdAt (W0.alloc (.cells #[.slice (some ⟨b, off + 3, none⟩) (K - 3) (cap - 3), .bool false] 125)) W0.heap.size rd false 0) := Lib.hid ⟨by simp, some ⟨b, off + 3, none⟩, cap - 3, ⟨by simp, fun n hn => by
              rw [World.cell?_alloc_new]
              match n, hn with
              | 0, _ => (have := HKJ.out; simp; rw [HRL.out]; omega)
              | 1, _ => simp, fun n hn => by simp⟩, by
              have := hdr.below ((Below.refl W0.heap.size W0).alloc (Nat.le_refl _) (.cells #[.slice (some ⟨b, off + 3, none⟩) (K - 3) (cap - 3), .bool false] 125))
              rw [List.drop_zero, HRL.out, ← show K - 3 = 1 + J by have := HKJ.out; omega]
              exact this, fun x hx => by cases hx; exact hbR⟩
          have HB0 : Hid (Below W0.heap.size W0 (W0.alloc (.cells #[.slice (some ⟨b, off + 3, none⟩) (K - 3) (cap - 3), .bool false] 125))) := Lib.hid ((Below.refl _ _).alloc (Nat.le_refl _) _)
          have hRY : W0.heap.size < (W0.alloc (.cells #[.slice (some ⟨b, off + 3, none⟩) (K - 3) (cap - 3), .bool false] 125)).heap.size := by simp
          generalize W0.alloc (.cells #[.slice (some ⟨b, off + 3, none⟩) (K - 3) (cap - 3), .bool false] 125) = Y at *
          obtain ⟨R, hR⟩ : ∃ R, R = W0.heap.size := ⟨_, rfl⟩
          have HRW := Lib.hid (show W0.heap.size ≤ R by omega)
          rw [← hR] at HY0 hRY ⊢
          clear hR hdr SM
          have tk0 := take_at R rd false 0 Y HY0.out HR256.out
          rw [HR0V.out] at tk0
          have TK0 := Lib.hid tk0
          clear tk0
          go_wp2_with ((with_reducible refine TK0.out.mono ?_); rintro e w2 ⟨rfl, hr2, hg2⟩)
          have hzY := HB0.out.size
          have HB2 := Lib.hid (HB0.out.grown hg2 hzY (fun k hk => by cases hk; exact HRW.out))
          have HR2 := Lib.hid hr2
          have hzY2 : Y.heap.size ≤ w2.heap.size := hg2.size
          have hR2 : R < w2.heap.size := Nat.lt_of_lt_of_le hRY hg2.size
          clear hr2 hg2 TK0 HY0 HB0 r1 r2 r3 eK hd hd2
          go_loopw [9, 10] (fun v i wr => ∃ m r c : Nat, m + r = L.length ∧ i = .int .i64 r ∧ (∃ xs : List (List Value), Hid (Wk.Own wr Y.heap.size 53 5 v xs) ∧ Hid (xs.length ≤ m) ∧ Hid ((c = 1 + (bodyB (L.take m)).length ∧ (bodyB (L.take m)).length ≤ J ∧ xs = (L.take m).map routeCells) ∨ (rd.length < c ∧ J < (bodyB L).length))) ∧ Hid (RdAt wr R rd false c) ∧ R < wr.heap.size ∧ Y.heap.size ≤ wr.heap.size ∧ Hid (Below W0.heap.size W0 wr)) (fun _ i _ => (intOf i).toNat)
          case atStart => exact ⟨0, L.length, 1, by omega, rfl, ⟨[], Wk.Own.nil _ _ _ _, Nat.le_refl _, .inl ⟨rfl, Nat.zero_le _, rfl⟩⟩, HR2, hR2, hzY2, HB2⟩
          case round =>
            clear HR2 hR2 hzY2 HB2
            obtain ⟨m, r, c, hmr, rfl, ⟨xs, HO, HXL, HALT⟩, HR, hRq, hYq, HB⟩ := hrel
            have HMR := Lib.hid hmr
            obtain ⟨ra, rc, hbx, _, _⟩ := HR.out.b
            have cb : wr.cell? ⟨R, 1, none⟩ = some (.bool (decide (rd.length < c))) := by
              have := hbx.c 1 (by decide)
              rw [if_neg (by decide), Bool.false_or] at this
              exact this
            have h60 := HT.out.len
            clear hbx
            rcases HALT.out with ⟨hc, hbJ, hxs⟩ | ⟨hbad, hJb⟩
            · rw [show decide (rd.length < c) = false from decide_eq_false (by rw [HRL.out]; omega)] at cb
              cases r with
              | succ r =>
                obtain ⟨x, hx⟩ : ∃ x, L[m]? = some x := ⟨_, List.getElem?_eq_getElem (by omega)⟩
                obtain ⟨s0, s1, s2⟩ := HSTEP.out m x hx c hc
                have RC := Lib.hid (route_any R rd false c wr HR.out HR256.out s0 s1)
                have HXS := Lib.hid hxs
                have HTKM := Lib.hid (show L.take (m + 1) = L.take m ++ [x] by rw [List.take_add_one, hx]; rfl)
                have hmono : (bodyB (L.take (m + 1))).length ≤ (bodyB L).length := by
                  conv => rhs; rw [bodyB_split hx, List.length_append, List.length_append]
                  rw [bodyB_snoc hx, List.length_append]
                  omega
                obtain ⟨kk, hkk⟩ : ∃ k, k = rd.getD (c + 1) 0 := ⟨_, rfl⟩
                rw [← hkk] at RC s2
                obtain ⟨lo, hlo⟩ : ∃ z, z = loF (fun i => rd.getD (c + i) 0) (wide8 kk) 4 := ⟨_, rfl⟩
                obtain ⟨hp, hhp⟩ : ∃ z, z = rd.getD (c + 2 + wide8 kk) 0 * 256 + rd.getD (c + 3 + wide8 kk) 0 := ⟨_, rfl⟩
                rw [← hlo, ← hhp] at RC
                have HS2 := Lib.hid s2
                have HMONO := Lib.hid hmono
                have HLO := Lib.hid hlo
                have HHP := Lib.hid hhp
                clear s0 s1 s2 hkk hlo hhp hx hmono hc hbJ hxs
                go_wp2_with (first | ((with_reducible refine RC.out.mono ?_); rintro e w5 ⟨rfl, hr5, hg5⟩; have hz5 := hg5.size) | (at_builtin; refine wpList_append_at rfl _ _ 41 53 5 40 _ rfl eiRoute Y.heap.size _ xs rfl ((own_other HO.out hg5 hRY).alloc _) _ [junkC lo kk hp] rfl (sl_many (n := 1) (xs := [junkC lo kk hp]) rfl (by intro c hc; simp at hc; subst hc; rfl) rfl rfl (by decide)) (by intro c hc; simp at hc; subst hc; exact junkC_one _ _ _) (by have := HXL.out; simp; omega) (by decide) (by simp; omega) (by simp) ?_; intro v' w6 ho6 hg6 hb6 hat6; go_frame))
                have hR6 : RdAt w6 R rd false (c + 4 + wide8 kk) := Rdr.below' (Rdr.below' hr5 ((Below.refl _ _).alloc (Nat.le_refl _) _) (by omega)) hb6 hRY
                have HR6 := Lib.hid hR6
                have HO6 := Lib.hid ho6
                have HB6 : Hid (Below W0.heap.size W0 w6) := Lib.hid (((HB.out.grown hg5 HB.out.size (fun k hk => by cases hk; exact HRW.out)).alloc (Nat.le_trans HB.out.size hz5) _).trans (hb6.mono (by have := HRW.out; omega)))
                have hRq6 : R < w6.heap.size := by have := hb6.size; simp at this; omega
                have hYq6 : Y.heap.size ≤ w6.heap.size := by have := hb6.size; simp at this; omega
                have HXL6 := Lib.hid (show (xs ++ [junkC lo kk hp]).length ≤ m + 1 by have := HXL.out; simp; omega)
                have HALT6 : Hid ((c + 4 + wide8 kk = 1 + (bodyB (L.take (m + 1))).length ∧ (bodyB (L.take (m + 1))).length ≤ J ∧ xs ++ [junkC lo kk hp] = (L.take (m + 1)).map routeCells) ∨ (rd.length < c + 4 + wide8 kk ∧ J < (bodyB L).length)) := Lib.hid (by
                  rcases HS2.out with ⟨q1, q2, q3, q4, q5⟩ | ⟨q1, q2⟩
                  · left
                    have el := HLO.out
                    have eh := HHP.out
                    rw [q2] at el eh ⊢
                    rw [q3] at el
                    rw [q4] at eh
                    refine ⟨q5, q1, ?_⟩
                    rw [HXS.out, HTKM.out, List.map_append, el, eh]
                    congr 1
                    have hv := HT.out.vp x (by
                      have : x ∈ L.take (m + 1) := by rw [HTKM.out]; simp
                      exact List.mem_of_mem_take this)
                    have hnn : x.1 < 4294967296 := by have := hv.1; unfold Fits wd at this; simpa using this
                    have e2 : loOf x.1 = (x.1 : Int) := by unfold loOf; omega
                    show [junkC x.1 x.2.1 x.2.2] = [routeCells x]
                    unfold routeCells junkC
                    rw [e2]
                    rfl
                  · right
                    have := HMONO.out
                    exact ⟨q2, by omega⟩)
                clear hr5 hg5 hz5 ho6 hg6 hb6 hat6 hR6 RC
                go_roundw
                case rel => exact ⟨m + 1, r, c + 4 + wide8 kk, by omega, by go_num, ⟨_, HO6, HXL6, HALT6⟩, HR6, hRq6, hYq6, HB6⟩
                case measure => simp [intOf]
              | zero =>
                have hmL : m = L.length := by omega
                have eT : L.take m = L := List.take_of_length_le (by omega)
                rw [eT] at hbJ hxs
                have hJ2 : J = (bodyB L).length := by have := HJ.out; omega
                have HLS := Lib.hid (HFULL.out hJ2)
                rw [hxs] at HO
                obtain ⟨va, vc, rfl⟩ := HO.out.shape
                rw [List.length_map] at HO ⊢
                have uv := HO.out.sl.lens.2.1
                have vv := HO.out.sl.lens.2.2
                have hRt := RtOk.of_tab HT.out
                have hPt := putAll_srt HT.out
                have CH := Lib.hid (check_any va vc L.length L wr rfl HO.out.sl hRt)
                have HSL := Lib.hid (HS.out.below HB.out)
                have hbr : b < wr.heap.size := Nat.lt_of_lt_of_le hbR HB.out.size
                clear hmL eT hxs hbJ hJ2 HALT hc HXL hmr HMR
                go_upto_region 22 with ((with_reducible refine CH.out.mono ?_); rintro e w5 ⟨rfl, hb5⟩; (repeat (with_reducible (replace hb5 := Below.undrew hb5))); obtain ⟨hc5, hf5⟩ := bcell hb5; have hz5 := hb5.size; (repeat (first | rw [World.size_alloc] at hz5 | rw [World.size_drew] at hz5 | rw [World.size_setCell] at hz5)); (try have : b < w5.heap.size := by omega); (try have : b < w5.heap.size + 1 := by omega); (try have : b < w5.heap.size + 1 + 1 := by omega); (try have : b < w5.heap.size + 1 + 1 + 1 := by omega); (try have : w.heap.size < w5.heap.size := by omega); (try have : w.heap.size < w5.heap.size + 1 := by omega); (try have : w.heap.size < w5.heap.size + 1 + 1 := by omega); (try have : w.heap.size < w5.heap.size + 1 + 1 + 1 := by omega); (try have : wr.heap.size < w5.heap.size := by omega); (try have : wr.heap.size < w5.heap.size + 1 := by omega); (try have : wr.heap.size < w5.heap.size + 1 + 1 := by omega); (try have : wr.heap.size < w5.heap.size + 1 + 1 + 1 := by omega))
                have SV2 := Lib.hid (iSave_any va vc L.length L w5 rfl (HO.out.sl.below hb5) hRt (by rw [hPt]; exact HT.out))
                rw [hPt] at SV2
                have HO5 := Lib.hid (HO.out.below hb5)
                have HSL5 := Lib.hid (HSL.out.below hb5)
                have HB5 := Lib.hid (HB.out.trans (hb5.mono HB.out.size))
                clear hb5 hc5 hf5 hz5 CH hRt hPt HO HSL cb hRq
                go_upto_region 23 with ((with_reducible refine SV2.out.mono ?_); rintro e w6 ⟨v6, rfl, ho6, hb6⟩)
                have HO6 := Lib.hid (HO5.out.below hb6)
                have hs6 := HSL5.out.below hb6
                obtain ⟨a6, c6, rfl⟩ := ho6.shape
                rw [List.length_map] at ho6 ⊢
                rw [← HLS.out] at ho6 ⊢
                rw [← HN.out] at ho6 ⊢
                obtain ⟨x6, hx6⟩ : ∃ x, l[0]? = some x := ⟨_, List.getElem?_eq_getElem (by have := HN.out; omega)⟩
                obtain ⟨b6, o6, rfl, _, _⟩ := Sl.byte ho6.sl (Below.refl _ _) hx6
                have k1 := bytes_string ho6.sl HN.out
                have k2 := bytes_string hs6 HN.out
                have HB6 := Lib.hid (HB5.out.trans (hb6.mono HB5.out.size))
                clear ho6 hs6 hb6 SV2 HO5 HSL5 hx6
                go_wp2_with fail
                go_returns
                exact ⟨_, 0, rfl, HB6.out, .inr ⟨HLS.out, rfl, HO6.out.base (by omega)⟩⟩
            · rw [show decide (rd.length < c) = true from decide_eq_true hbad] at cb
              have HJB := Lib.hid hJb
              have hfin : l ≠ saveB L := fun h => by
                rcases HNE.out h with g | g
                · exact g
                · have := HJB.out; omega
              have HFIN := Lib.hid hfin
              clear hJb hbad hfin
              cases r with
              | zero =>
                go_wp2_with fail
                go_returns
                exact ⟨_, 4, rfl, HB.out, .inl ⟨rfl, .inr (.inr ⟨by rw [← HN.out]; omega, by rw [HTL.out, ← HKF.out, ← HSV.out]; exact HEQ.out, HFIN.out, rfl⟩)⟩⟩
              | succ r =>
                go_wp2_with fail
                go_returns
                exact ⟨_, 4, rfl, HB.out, .inl ⟨rfl, .inr (.inr ⟨by rw [← HN.out]; omega, by rw [HTL.out, ← HKF.out, ← HSV.out]; exact HEQ.out, HFIN.out, rfl⟩)⟩⟩
        · have hE : ((KF : Int) == (SV : Int)) = false := by rw [beq_eq_false_iff_ne]; omega
          have HNE := Lib.hid hne
          clear hne
          go_wp2_with ((with_reducible refine SM.out.mono ?_); rintro e w' ⟨rfl, rfl⟩)
          go_returns
          exact ⟨_, 12, rfl, Below.refl _ _, .inl ⟨rfl, .inr (.inl ⟨by rw [← HN.out]; omega, by rw [HTL.out, ← HKF.out, ← HSV.out]; exact HNE.out, rfl⟩)⟩⟩
end Go.Proofs.Yteadfobfenopkaa
