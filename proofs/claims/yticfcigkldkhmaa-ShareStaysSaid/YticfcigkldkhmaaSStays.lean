
/- ShareStays: the walk. -/
import Derived.Test.YticfcigkldkhmaaSSpread
import Derived.Deep.DeepCutAuto
set_option linter.unusedVariables false
set_option linter.unusedSimpArgs false
namespace Go.Proofs.Yticfcigkldkhmaa
open Go Go.RowKit Go.Sort Wc Wk


theorem same_eq : ∀ xs zs : List Nat, xs.length = zs.length → same2 xs zs = xs.length → xs = zs
  | [], [], _, _ => rfl
  | [], _ :: _, h, _ => by simp at h
  | _ :: _, [], h, _ => by simp at h
  | x :: xs, z :: zs, hl, hs => by
    have h1 := same_le xs zs
    have hs : (if x = z then 1 else 0) + same2 xs zs = xs.length + 1 := hs
    by_cases e : x = z
    · rw [if_pos e] at hs
      rw [e, same_eq xs zs (by simpa using hl) (by omega)]
    · rw [if_neg e] at hs
      omega
/-- Without a change no bucket moves. -/
theorem turn_same {l : List (Nat × Nat)} (hok : ShOk l) (n : Nat) : turnL (l.map (·.1)) (partsL (l.map (·.2)) n) (dealtL l n) = dealtL l n := by
  have hT := turn_law hok (dealtL l n)
  rw [dealt_len hok] at hT
  have hpo := parts_ok (l.map (·.2)) n (by have := sum_wt hok.wt; have := hok.one; omega)
  have hl : (dealtL l n).length = (turnL (l.map (·.1)) (partsL (l.map (·.2)) n) (dealtL l n)).length := hT.len.symm
  refine (same_eq _ _ hl ?_).symm
  rw [same_sum hok.keys _ _ hl hT.mem, dealt_len hok]
  have e : (l.map (·.1)).map (fun h => both2 h (dealtL l n) (turnL (l.map (·.1)) (partsL (l.map (·.2)) n) (dealtL l n))) = partsL (l.map (·.2)) n := by
    refine list_ext (m := l.length) (by simp) (by rw [hpo.len]; simp) (fun k hk => ?_)
    have hx : l[k]? = some l[k] := List.getElem?_eq_getElem hk
    have ex : (l.map (·.1)).getD k 0 = l[k].1 := by rw [List.getD_eq_getElem?_getD, List.getElem?_map, hx]; rfl
    have h1 := hT.stay k (by simpa using hk)
    rw [ex, deal_law hok n hx, Nat.min_self] at h1
    rw [← h1, List.getD_eq_getElem?_getD, List.getElem?_map, List.getElem?_map, hx]
    rfl
  rw [e, hpo.sum]


set_option maxHeartbeats 2000000 in
set_option maxRecDepth 100000 in
theorem shareStays_walk (a1 : Option Addr) (len1 cap1 : Nat) (zs1 : List Int) (many : Int) (six : Bool) (hi lo : Int) (six' : Bool) (hi' lo' : Int) (w : World) (h1 : IsRow .i64 w a1 len1 cap1 zs1) (hm : -9223372036854775808 ≤ many ∧ many ≤ 9223372036854775807)
    (h3 : 0 ≤ hi ∧ hi < 18446744073709551616) (h4 : 0 ≤ lo ∧ lo < 18446744073709551616) (h5 : 0 ≤ hi' ∧ hi' < 18446744073709551616) (h6 : 0 ≤ lo' ∧ lo' < 18446744073709551616) :
    Calls Try.prog 17 #[.slice a1 len1 cap1, .int .i64 many, .agg #[.bool six, .int .u64 hi, .int .u64 lo], .agg #[.bool six', .int .u64 hi', .int .u64 lo']] w fun e w' => e = .returned (.bool true) ∧ Below w.heap.size w w' := by
  obtain ⟨r, hr⟩ := Int.eq_ofNat_of_zero_le (Int.emod_nonneg many (show (64 : Int) ≠ 0 by decide))
  have hr1 := Int.emod_lt_of_pos many (show (0 : Int) < 64 by decide)
  have P := Lib.hid (fun w => picked_any many 64 w (by decide) (by decide))
  rw [hr] at P hr1
  have SH1 : Hid (∀ W, Below w.heap.size w W → Calls Try.prog 31 #[.slice a1 len1 cap1, .int .i64 16] W (RetSh W 16)) := fun W hb => shares_any a1 len1 cap1 zs1 16 W (row_below h1 hb) (by omega) (by omega)
  obtain ⟨n, hn⟩ : ∃ n, n = 1 + r := ⟨_, rfl⟩
  have n1 : 1 ≤ n := by omega
  have n2 : n ≤ 64 := by omega
  have e1 : (1 : Int) + (r : Int) = (n : Int) := by omega
  have e2 : wrap64 (n : Int) = (n : Int) := wrap64_in (by omega) (by omega)
  have A1 := Lib.hid (fun w => addrOf_any six hi lo w h3 h4)
  have A2 := Lib.hid (fun w => addrOf_any six hi' lo' w h5 h6)
  have V1 := rawN_fits six hi lo h3 h4
  have V2 := rawN_fits six hi' lo' h5 h6
  generalize rawN six hi lo = N1 at *
  generalize rawN six hi' lo' = N2 at *
  clear hr hr1 hm h1 hn h3 h4 h5 h6
  go_enter Try.func17, Try.ntmps17
  go_wp2_with ((with_reducible refine (SH1.out _ (by (repeat' (first | (with_reducible exact Below.refl _ _) | (with_reducible assumption) | (with_reducible refine Below.alloc ?_ ?_ _) | (with_reducible refine Below.drew ?_) | (with_reducible refine Below.stepG ?_ (by assumption) ?_) | (with_reducible refine Below.setCell ?_ ?_ _) | omega | (dsimp only; omega) | (simp; done) | (simp; omega))))).mono ?_); rintro e w2 ⟨v2, sa, rfl, hb2, ho2, hoka, hsa⟩; refine stop_at ?_; intro G hG)
  obtain ⟨aa, ca, rfl⟩ := ho2.shape
  rw [List.length_map] at ho2 hG
  have HA := Lib.hid ho2.sl
  have HO2 := Lib.hid ho2
  have hown2 : w.heap.size + 2 ≤ ((w.alloc (.cells #[.bool six, .int .u64 hi, .int .u64 lo] 45)).alloc (.cells #[.bool six', .int .u64 hi', .int .u64 lo'] 45)).heap.size := by simp
  have HOKA := Lib.hid hoka
  have hla := (own_lens ho2).2
  have D1 := Lib.hid (dealt_any aa ca sa.length sa n w2 rfl HA.out HOKA.out n1 n2)
  obtain ⟨P6, hP6⟩ : ∃ p, p = w.heap.size := ⟨_, rfl⟩
  have hbw : Below w.heap.size w w2 := by (repeat' (first | (with_reducible exact Below.refl _ _) | (with_reducible assumption) | (with_reducible refine Below.alloc ?_ ?_ _) | (with_reducible refine Below.drew ?_) | (with_reducible refine Below.stepG ?_ (by assumption) ?_) | (with_reducible refine Below.setCell ?_ ?_ _) | omega | (dsimp only; omega) | (simp; done) | (simp; omega)))
  have HBW := Lib.hid hbw
  have q0 : w2.cell? ⟨P6, 0, none⟩ = some (.bool six) := (hb2.cell (p := ⟨P6, 0, none⟩) (by simp; omega)).trans (by rw [hP6]; simp)
  have q1 : w2.cell? ⟨P6, 1, none⟩ = some (.int .u64 hi) := (hb2.cell (p := ⟨P6, 1, none⟩) (by simp; omega)).trans (by rw [hP6]; simp)
  have q2 : w2.cell? ⟨P6, 2, none⟩ = some (.int .u64 lo) := (hb2.cell (p := ⟨P6, 2, none⟩) (by simp; omega)).trans (by rw [hP6]; simp)
  have r0 : w2.cell? ⟨P6 + 1, 0, none⟩ = some (.bool six') := (hb2.cell (p := ⟨P6 + 1, 0, none⟩) (by simp; omega)).trans (by rw [hP6]; simp)
  have r1 : w2.cell? ⟨P6 + 1, 1, none⟩ = some (.int .u64 hi') := (hb2.cell (p := ⟨P6 + 1, 1, none⟩) (by simp; omega)).trans (by rw [hP6]; simp)
  have r2 : w2.cell? ⟨P6 + 1, 2, none⟩ = some (.int .u64 lo') := (hb2.cell (p := ⟨P6 + 1, 2, none⟩) (by simp; omega)).trans (by rw [hP6]; simp)
  have rf : w2.frozen? ⟨P6 + 1, 0, none⟩ = false := (hb2.frozen (p := ⟨P6 + 1, 0, none⟩) (by simp; omega)).trans (by rw [hP6]; simp)
  have lp : P6 + 1 < w2.heap.size := by have := hb2.size; simp at this; omega
  rw [← hP6] at hG
  have HP6 := Lib.hid hP6
  clear hP6 hb2 ho2 hoka SH1 hbw
  rw [← hG.out]
  clear hG G
  go_wp2_with (first | ((with_reducible refine (P.out _).mono ?_); rintro e w' ⟨rfl, rfl⟩) | ((with_reducible refine D1.out.mono ?_); rintro e w3 ⟨v3, rfl, hb3, ho3⟩; obtain ⟨ax, cx, rfl⟩ := ho3.shape; rw [List.length_map, dealt_len HOKA.out] at ho3 ⊢; refine stop_at ?_; intro G hG))
  have hlx := (own_lens ho3).2
  obtain ⟨X, hX⟩ : ∃ X, X = dealtL sa n := ⟨_, rfl⟩
  rw [← hX] at ho3
  have HXL := Lib.hid (show X.length = n by rw [hX]; exact dealt_len HOKA.out n)
  have HXD := Lib.hid hX
  have HX3 := Lib.hid ho3
  have HB3 := Lib.hid hb3
  rw [← hG.out]
  clear hG G hb3 hX D1 ho3
  go_wp2_with (at_builtin; refine stop_at ?_; intro G hG)
  rw [← hG.out]; clear hG G
  refine wpList_append_any rfl _ _ 44 3 1 8 _ rfl eiNat w3.heap.size _ ((([] : List Nat)).map nC) rfl (Own.nil _ _ _ _) _ ((X).map nC) rfl (HX3.out.sl) (by intro c hc; obtain ⟨r, _, rfl⟩ := List.mem_map.1 hc; exact nC_one r) (by have := HXL.out; first | omega | (simp; omega)) (by decide) (by first | omega | (simp; done) | (simp; omega)) ?_
  intro v4 w4 hown4 hb4
  rw [← List.map_append] at hown4
  obtain ⟨xs4, hxs4⟩ : ∃ x : List Nat, x = (([] : List Nat)) ++ (X) := ⟨_, rfl⟩
  rw [← hxs4] at hown4
  have hl4 : xs4.length = (([] : List Nat)).length + (X).length := by rw [hxs4, List.length_append]
  have HX4 := Lib.hid hxs4
  clear hxs4
  have HL4 := Lib.hid hl4
  clear hl4
  obtain ⟨a4, cap4, rfl⟩ := hown4.shape
  rw [List.length_map] at hown4 ⊢
  have HO4 := Lib.hid hown4
  clear hown4
  obtain ⟨hc4, hf4⟩ := bcellB hb4; have hz4 := hb4.size; (repeat (first | rw [World.size_alloc] at hz4 | rw [World.size_drew] at hz4 | rw [World.size_setCell] at hz4))
  have hx4 : xs4 = X := HX4.out
  subst hx4
  have HB4 := Lib.hid hb4
  have hsa16 : sa.length ≤ 16 := hsa
  clear hc4 hf4
  go_wp2_with (at_builtin; refine stop_at ?_; intro G hG)
  rw [← hG.out]; clear hG G
  refine wpList_append_any rfl _ _ 66 73 2 16 _ rfl eiShare w4.heap.size _ ((([] : List (Nat × Nat))).map shCells) rfl (Own.nil _ _ _ _) _ ((sa).map shCells) rfl ((HA.out.below HB3.out).below HB4.out) (by intro c hc; obtain ⟨r, _, rfl⟩ := List.mem_map.1 hc; exact shCells_one r) (by skip; first | omega | (simp; omega)) (by decide) (by first | omega | (simp; done) | (simp; omega)) ?_
  intro v5 w5 hown5 hb5
  rw [← List.map_append] at hown5
  obtain ⟨xs5, hxs5⟩ : ∃ x : List (Nat × Nat), x = (([] : List (Nat × Nat))) ++ (sa) := ⟨_, rfl⟩
  rw [← hxs5] at hown5
  have hl5 : xs5.length = (([] : List (Nat × Nat))).length + (sa).length := by rw [hxs5, List.length_append]
  have HX5 := Lib.hid hxs5
  clear hxs5
  have HL5 := Lib.hid hl5
  clear hl5
  obtain ⟨a5, cap5, rfl⟩ := hown5.shape
  rw [List.length_map] at hown5 ⊢
  have HO5 := Lib.hid hown5
  clear hown5
  obtain ⟨hc5, hf5⟩ := bcellB hb5; have hz5 := hb5.size; (repeat (first | rw [World.size_alloc] at hz5 | rw [World.size_drew] at hz5 | rw [World.size_setCell] at hz5))
  have hx5 : xs5 = sa := HX5.out
  have HX5b := Lib.hid hx5
  have HB5 := Lib.hid hb5
  have HS5 := Lib.hid (show Sl w5 2 (.slice a5 xs5.length cap5) (sa.map shCells) by have := HO5.out.sl; rw [hx5] at this ⊢; exact this)
  have TN := Lib.hid (turn_any a4 cap4 xs4.length xs4 a5 cap5 xs5.length sa w5 rfl (HO4.out.sl.below HB5.out) (by rw [HXD.out]; exact dealt_buck HOKA.out n1 n2) (by rw [hx5]) HS5.out HOKA.out)
  have tsame := turn_same HOKA.out n
  rw [← HXD.out] at tsame
  have HTS := Lib.hid tsame
  clear hc5 hf5 hb4 hb5 hx5 tsame
  go_wp2_with ((with_reducible refine TN.out.mono ?_); rintro e w6 ⟨gz, rfl, hb6, ho6⟩; rw [HXL.out, HTS.out] at ho6; rw [HXL.out]; refine stop_at ?_; intro G hG)
  obtain ⟨X, hXX⟩ : ∃ X, X = xs4 := ⟨_, rfl⟩
  subst hXX
  have HB26 := bt HB3.out (bt HB4.out (bt HB5.out hb6))
  have hz3 := HB26.size
  have h56 : w2.heap.size ≤ w5.heap.size := (bt HB3.out (bt HB4.out HB5.out)).size
  have hwp : w.heap.size ≤ P6 + 1 := by rw [HP6.out]; exact Nat.le_succ _
  have k := fun o i (h : o < w2.heap.size) => HB26.cell (p := ⟨o, i, none⟩) h
  have lp0 : P6 < w2.heap.size := Nat.lt_of_succ_lt lp
  have s0 := (k P6 0 lp0).trans q0
  have s1 := (k P6 1 lp0).trans q1
  have s2 := (k P6 2 lp0).trans q2
  have t0 := (k (P6 + 1) 0 lp).trans r0
  have t1 := (k (P6 + 1) 1 lp).trans r1
  have t2 := (k (P6 + 1) 2 lp).trans r2
  have tf : w6.frozen? ⟨P6 + 1, 0, none⟩ = false := (HB26.frozen (p := ⟨P6 + 1, 0, none⟩) lp).trans rf
  have lp3 : P6 + 1 < w6.heap.size := Nat.lt_of_lt_of_le lp hz3
  have HXY := Lib.hid (own_grown (((HX3.out.below HB4.out).below HB5.out).below hb6) (grown_set w6 (P6 + 1) 0 (.bool six)) (fun e => by have := (HX3.out.lt _ e).1; omega))
  have HZY := Lib.hid (own_grown ho6 (grown_set w6 (P6 + 1) 0 (.bool six)) (fun e => by have := (ho6.lt _ e).1; omega))
  have HBY := Lib.hid ((bt HBW.out HB26).setCell (p := ⟨P6 + 1, 0, none⟩) hwp (.bool six))
  have y0 : (w6.setCell ⟨P6 + 1, 0, none⟩ (.bool six)).cell? ⟨P6, 0, none⟩ = some (.bool six) := by simp [s0, go_sem]
  have y1 : (w6.setCell ⟨P6 + 1, 0, none⟩ (.bool six)).cell? ⟨P6, 1, none⟩ = some (.int .u64 hi) := by simp [s1, go_sem]
  have y2 : (w6.setCell ⟨P6 + 1, 0, none⟩ (.bool six)).cell? ⟨P6, 2, none⟩ = some (.int .u64 lo) := by simp [s2, go_sem]
  have z0 : (w6.setCell ⟨P6 + 1, 0, none⟩ (.bool six)).cell? ⟨P6 + 1, 0, none⟩ = some (.bool six) := by simp [t0, go_sem]
  have z1 : (w6.setCell ⟨P6 + 1, 0, none⟩ (.bool six)).cell? ⟨P6 + 1, 1, none⟩ = some (.int .u64 hi') := by simp [t1, go_sem]
  have z2 : (w6.setCell ⟨P6 + 1, 0, none⟩ (.bool six)).cell? ⟨P6 + 1, 2, none⟩ = some (.int .u64 lo') := by simp [t2, go_sem]
  have lpy : P6 + 1 < (w6.setCell ⟨P6 + 1, 0, none⟩ (.bool six)).heap.size := by rw [World.size_setCell]; exact lp3
  rw [← hG.out]
  clear hG G ho6 hb6 k HO2 HBW q0 q1 q2 r0 r1 r2 rf hown2 HA hz3 h56 lp lp0 hwp HB26 HB3 HB4 HB5 HX3 HO4 HO5 HS5 TN HX4 HX5 HX5b HL4 HL5 hz4 hz5
  go_upto_region 6 with fail
  clear s0 s1 s2 t0 t1 t2 tf lp3
  generalize w6.setCell ⟨P6 + 1, 0, none⟩ (.bool six) = Y at *
  have L0 : ∀ w', Below Y.heap.size Y w' → w'.cell? ⟨P6, 0, none⟩ = some (.bool six) := fun w' hb => (hb.cell (p := ⟨P6, 0, none⟩) (Nat.lt_of_succ_lt lpy)).trans y0
  have L1 : ∀ w', Below Y.heap.size Y w' → w'.cell? ⟨P6, 1, none⟩ = some (.int .u64 hi) := fun w' hb => (hb.cell (p := ⟨P6, 1, none⟩) (Nat.lt_of_succ_lt lpy)).trans y1
  have L2 : ∀ w', Below Y.heap.size Y w' → w'.cell? ⟨P6, 2, none⟩ = some (.int .u64 lo) := fun w' hb => (hb.cell (p := ⟨P6, 2, none⟩) (Nat.lt_of_succ_lt lpy)).trans y2
  have L3 : ∀ w', Below Y.heap.size Y w' → w'.cell? ⟨P6 + 1, 0, none⟩ = some (.bool six) := fun w' hb => (hb.cell (p := ⟨P6 + 1, 0, none⟩) lpy).trans z0
  have L4 : ∀ w', Below Y.heap.size Y w' → w'.cell? ⟨P6 + 1, 1, none⟩ = some (.int .u64 hi') := fun w' hb => (hb.cell (p := ⟨P6 + 1, 1, none⟩) lpy).trans z1
  have L5 : ∀ w', Below Y.heap.size Y w' → w'.cell? ⟨P6 + 1, 2, none⟩ = some (.int .u64 lo') := fun w' hb => (hb.cell (p := ⟨P6 + 1, 2, none⟩) lpy).trans z2
  clear y0 y1 y2 z0 z1 z2
  go_cut [15] (fun v wx => ∃ b, v = .pointer (some ⟨b, 0, none⟩) ∧ Hid (F6 wx b six (hiOf six N1) (loOf N1) six (hiOf six N2) (loOf N2)) ∧ Hid (Below Y.heap.size Y wx))
  case first =>
    refine wp_region_held_drew (S := (fun w' => Below Y.heap.size Y w')) (by kernel_rfl) ?rwS1 (fun hHeld => ?rwR1)
    case rwS1 => ((try dsimp only); (first | exact HWB.alloc HWB.size _ | exact Below.drew (HWB.alloc HWB.size _) | exact HWB | exact Below.setCell (Below.setCell (Below.setCell (Below.setCell (Below.setCell (Below.setCell HWB (by first | exact Nat.le_refl _ | exact HWA.size) _) (by first | exact Nat.le_refl _ | exact HWA.size) _) (by first | exact Nat.le_refl _ | exact HWA.size) _) (by first | exact Nat.le_refl _ | exact HWA.size) _) (by first | exact Nat.le_refl _ | exact HWA.size) _) (by first | exact Nat.le_refl _ | exact HWA.size) _ | exact bt hHeld hbB | exact bt hHeld (Below.undrew hbB) | exact bt hHeld hbA | exact bt hHeld (Below.undrew hbA) | exact hHeld.alloc hHeld.size _ | exact Below.drew (hHeld.alloc hHeld.size _) | exact Below.refl _ _ | exact Below.drew (Below.refl _ _) | exact Below.drew hHeld | exact hHeld))
    (refine wpAnyH_take (i := 0) (oi := _) (v := ?_) (by simp only [List.getElem?_toArray, List.getElem?_cons_zero, List.getElem?_cons_succ]; rfl) (by kernel_rfl) (by decide +kernel) (by decide +kernel) (by exact fun _ _ _ h => h) (Or.inl ⟨by rfl, ?_⟩) (by assumption) ?_; rotate_left; (· ((intro w hSw); (try dsimp only at hSw); go_simp; (try with_reducible rfl))); (try simp only [Act.put, List.setIfInBounds_toArray, List.set_cons_zero, List.set_cons_succ]))
    (refine wpAnyH_take (i := 2) (oi := _) (v := ?_) (by simp only [List.getElem?_toArray, List.getElem?_cons_zero, List.getElem?_cons_succ]; rfl) (by kernel_rfl) (by decide +kernel) (by decide +kernel) (by exact fun _ _ _ h => h) (Or.inl ⟨by rfl, ?_⟩) (by assumption) ?_; rotate_left; (· ((intro w hSw); (try dsimp only at hSw); go_simp; (try with_reducible rfl))); (try simp only [Act.put, List.setIfInBounds_toArray, List.set_cons_zero, List.set_cons_succ]))
    repeat' (first
      | (refine wpAnyH_take (i := 4) (oi := _) (v := ?_) (by simp only [List.getElem?_toArray, List.getElem?_cons_zero, List.getElem?_cons_succ]; rfl) (by kernel_rfl) (by decide +kernel) (by decide +kernel) (by exact fun _ _ _ h => h) (Or.inl ⟨by rfl, ?_⟩) (by assumption) ?_; rotate_left; (· ((intro w hSw); (try dsimp only at hSw); go_simp; (try with_reducible rfl))); (try simp only [Act.put, List.setIfInBounds_toArray, List.set_cons_zero, List.set_cons_succ]))
      | (refine wpAnyH_ready (rs := [1, 5]) (by decide +kernel) (by simp) (AllReadyH.cons (by simp only [List.getElem?_toArray, List.getElem?_cons_zero, List.getElem?_cons_succ]; rfl) (fun K hK => ?_) (AllReadyH.cons (by simp only [List.getElem?_toArray, List.getElem?_cons_zero, List.getElem?_cons_succ]; rfl) (fun K hK => ?_) AllReadyH.nil)); all_goals ((first | fail | (go_simp; (first | (first | ((with_reducible refine (A1.out _).mono ?_); rintro e wA ⟨rfl, hbA⟩; (have HWA : Below Y.heap.size Y wA := by (first | exact bt hHeld hbA | exact bt hHeld (Below.undrew hbA))); (try (clear L0 L1 L2 L3 L4 L5)); (try (first | have FA6 := ((f6_new _ _ false 0 0 false 0 0).below (Below.drew (Below.refl _ _))).below hbA | have FA6 := (f6_new _ _ false 0 0 false 0 0).below hbA))) | ((with_reducible refine (A2.out _).mono ?_); rintro e wB ⟨rfl, hbB⟩; (have HWB : Below Y.heap.size Y wB := by (first | exact bt hHeld hbB | exact bt hHeld (Below.undrew hbB))); (try ((first | have FB6 := FA6.below hbB | have FB6 := FA6.below (Below.undrew hbB) | have FB6 := ((f6_new _ _ false 0 0 false 0 0).below (Below.drew (Below.refl _ _))).below hbB | have FB6 := (f6_new _ _ false 0 0 false 0 0).below hbB); have xB0 := FB6.c0; have xB1 := FB6.c1; have xB2 := FB6.c2; have xB3 := FB6.c3; have xB4 := FB6.c4; have xB5 := FB6.c5; have xBf0 := FB6.f0; have xBf1 := FB6.f1; have xBf2 := FB6.f2; have xBf3 := FB6.f3; have xBf4 := FB6.f4; have xBf5 := FB6.f5; have xBl := FB6.lt)))) | skip))); (refine hK.out _ _ ?_ (fun hHeld => ?_)); (· ((try dsimp only); (first | exact HWB.alloc HWB.size _ | exact Below.drew (HWB.alloc HWB.size _) | exact HWB | exact Below.setCell (Below.setCell (Below.setCell (Below.setCell (Below.setCell (Below.setCell HWB (by first | exact Nat.le_refl _ | exact HWA.size) _) (by first | exact Nat.le_refl _ | exact HWA.size) _) (by first | exact Nat.le_refl _ | exact HWA.size) _) (by first | exact Nat.le_refl _ | exact HWA.size) _) (by first | exact Nat.le_refl _ | exact HWA.size) _) (by first | exact Nat.le_refl _ | exact HWA.size) _ | exact bt hHeld hbB | exact bt hHeld (Below.undrew hbB) | exact bt hHeld hbA | exact bt hHeld (Below.undrew hbA) | exact hHeld.alloc hHeld.size _ | exact Below.drew (hHeld.alloc hHeld.size _) | exact Below.refl _ _ | exact Below.drew (Below.refl _ _) | exact Below.drew hHeld | exact hHeld))); (clear hK K; (try simp only [Act.put, List.setIfInBounds_toArray, List.set_cons_zero, List.set_cons_succ]))))
      | (refine wpAnyH_ready (rs := [3, 5]) (by decide +kernel) (by simp) (AllReadyH.cons (by simp only [List.getElem?_toArray, List.getElem?_cons_zero, List.getElem?_cons_succ]; rfl) (fun K hK => ?_) (AllReadyH.cons (by simp only [List.getElem?_toArray, List.getElem?_cons_zero, List.getElem?_cons_succ]; rfl) (fun K hK => ?_) AllReadyH.nil)); all_goals ((first | fail | (go_simp; (first | (first | ((with_reducible refine (A1.out _).mono ?_); rintro e wA ⟨rfl, hbA⟩; (have HWA : Below Y.heap.size Y wA := by (first | exact bt hHeld hbA | exact bt hHeld (Below.undrew hbA))); (try (clear L0 L1 L2 L3 L4 L5)); (try (first | have FA6 := ((f6_new _ _ false 0 0 false 0 0).below (Below.drew (Below.refl _ _))).below hbA | have FA6 := (f6_new _ _ false 0 0 false 0 0).below hbA))) | ((with_reducible refine (A2.out _).mono ?_); rintro e wB ⟨rfl, hbB⟩; (have HWB : Below Y.heap.size Y wB := by (first | exact bt hHeld hbB | exact bt hHeld (Below.undrew hbB))); (try ((first | have FB6 := FA6.below hbB | have FB6 := FA6.below (Below.undrew hbB) | have FB6 := ((f6_new _ _ false 0 0 false 0 0).below (Below.drew (Below.refl _ _))).below hbB | have FB6 := (f6_new _ _ false 0 0 false 0 0).below hbB); have xB0 := FB6.c0; have xB1 := FB6.c1; have xB2 := FB6.c2; have xB3 := FB6.c3; have xB4 := FB6.c4; have xB5 := FB6.c5; have xBf0 := FB6.f0; have xBf1 := FB6.f1; have xBf2 := FB6.f2; have xBf3 := FB6.f3; have xBf4 := FB6.f4; have xBf5 := FB6.f5; have xBl := FB6.lt)))) | skip))); (refine hK.out _ _ ?_ (fun hHeld => ?_)); (· ((try dsimp only); (first | exact HWB.alloc HWB.size _ | exact Below.drew (HWB.alloc HWB.size _) | exact HWB | exact Below.setCell (Below.setCell (Below.setCell (Below.setCell (Below.setCell (Below.setCell HWB (by first | exact Nat.le_refl _ | exact HWA.size) _) (by first | exact Nat.le_refl _ | exact HWA.size) _) (by first | exact Nat.le_refl _ | exact HWA.size) _) (by first | exact Nat.le_refl _ | exact HWA.size) _) (by first | exact Nat.le_refl _ | exact HWA.size) _) (by first | exact Nat.le_refl _ | exact HWA.size) _ | exact bt hHeld hbB | exact bt hHeld (Below.undrew hbB) | exact bt hHeld hbA | exact bt hHeld (Below.undrew hbA) | exact hHeld.alloc hHeld.size _ | exact Below.drew (hHeld.alloc hHeld.size _) | exact Below.refl _ _ | exact Below.drew (Below.refl _ _) | exact Below.drew hHeld | exact hHeld))); (clear hK K; (try simp only [Act.put, List.setIfInBounds_toArray, List.set_cons_zero, List.set_cons_succ]))))
      | (refine wpAnyH_ready (rs := [1]) (by decide +kernel) (by simp) (AllReadyH.cons (by simp only [List.getElem?_toArray, List.getElem?_cons_zero, List.getElem?_cons_succ]; rfl) (fun K hK => ?_) AllReadyH.nil); all_goals ((first | fail | (go_simp; (first | (first | ((with_reducible refine (A1.out _).mono ?_); rintro e wA ⟨rfl, hbA⟩; (have HWA : Below Y.heap.size Y wA := by (first | exact bt hHeld hbA | exact bt hHeld (Below.undrew hbA))); (try (clear L0 L1 L2 L3 L4 L5)); (try (first | have FA6 := ((f6_new _ _ false 0 0 false 0 0).below (Below.drew (Below.refl _ _))).below hbA | have FA6 := (f6_new _ _ false 0 0 false 0 0).below hbA))) | ((with_reducible refine (A2.out _).mono ?_); rintro e wB ⟨rfl, hbB⟩; (have HWB : Below Y.heap.size Y wB := by (first | exact bt hHeld hbB | exact bt hHeld (Below.undrew hbB))); (try ((first | have FB6 := FA6.below hbB | have FB6 := FA6.below (Below.undrew hbB) | have FB6 := ((f6_new _ _ false 0 0 false 0 0).below (Below.drew (Below.refl _ _))).below hbB | have FB6 := (f6_new _ _ false 0 0 false 0 0).below hbB); have xB0 := FB6.c0; have xB1 := FB6.c1; have xB2 := FB6.c2; have xB3 := FB6.c3; have xB4 := FB6.c4; have xB5 := FB6.c5; have xBf0 := FB6.f0; have xBf1 := FB6.f1; have xBf2 := FB6.f2; have xBf3 := FB6.f3; have xBf4 := FB6.f4; have xBf5 := FB6.f5; have xBl := FB6.lt)))) | skip))); (refine hK.out _ _ ?_ (fun hHeld => ?_)); (· ((try dsimp only); (first | exact HWB.alloc HWB.size _ | exact Below.drew (HWB.alloc HWB.size _) | exact HWB | exact Below.setCell (Below.setCell (Below.setCell (Below.setCell (Below.setCell (Below.setCell HWB (by first | exact Nat.le_refl _ | exact HWA.size) _) (by first | exact Nat.le_refl _ | exact HWA.size) _) (by first | exact Nat.le_refl _ | exact HWA.size) _) (by first | exact Nat.le_refl _ | exact HWA.size) _) (by first | exact Nat.le_refl _ | exact HWA.size) _) (by first | exact Nat.le_refl _ | exact HWA.size) _ | exact bt hHeld hbB | exact bt hHeld (Below.undrew hbB) | exact bt hHeld hbA | exact bt hHeld (Below.undrew hbA) | exact hHeld.alloc hHeld.size _ | exact Below.drew (hHeld.alloc hHeld.size _) | exact Below.refl _ _ | exact Below.drew (Below.refl _ _) | exact Below.drew hHeld | exact hHeld))); (clear hK K; (try simp only [Act.put, List.setIfInBounds_toArray, List.set_cons_zero, List.set_cons_succ]))))
      | (refine wpAnyH_ready (rs := [3]) (by decide +kernel) (by simp) (AllReadyH.cons (by simp only [List.getElem?_toArray, List.getElem?_cons_zero, List.getElem?_cons_succ]; rfl) (fun K hK => ?_) AllReadyH.nil); all_goals ((first | fail | (go_simp; (first | (first | ((with_reducible refine (A1.out _).mono ?_); rintro e wA ⟨rfl, hbA⟩; (have HWA : Below Y.heap.size Y wA := by (first | exact bt hHeld hbA | exact bt hHeld (Below.undrew hbA))); (try (clear L0 L1 L2 L3 L4 L5)); (try (first | have FA6 := ((f6_new _ _ false 0 0 false 0 0).below (Below.drew (Below.refl _ _))).below hbA | have FA6 := (f6_new _ _ false 0 0 false 0 0).below hbA))) | ((with_reducible refine (A2.out _).mono ?_); rintro e wB ⟨rfl, hbB⟩; (have HWB : Below Y.heap.size Y wB := by (first | exact bt hHeld hbB | exact bt hHeld (Below.undrew hbB))); (try ((first | have FB6 := FA6.below hbB | have FB6 := FA6.below (Below.undrew hbB) | have FB6 := ((f6_new _ _ false 0 0 false 0 0).below (Below.drew (Below.refl _ _))).below hbB | have FB6 := (f6_new _ _ false 0 0 false 0 0).below hbB); have xB0 := FB6.c0; have xB1 := FB6.c1; have xB2 := FB6.c2; have xB3 := FB6.c3; have xB4 := FB6.c4; have xB5 := FB6.c5; have xBf0 := FB6.f0; have xBf1 := FB6.f1; have xBf2 := FB6.f2; have xBf3 := FB6.f3; have xBf4 := FB6.f4; have xBf5 := FB6.f5; have xBl := FB6.lt)))) | skip))); (refine hK.out _ _ ?_ (fun hHeld => ?_)); (· ((try dsimp only); (first | exact HWB.alloc HWB.size _ | exact Below.drew (HWB.alloc HWB.size _) | exact HWB | exact Below.setCell (Below.setCell (Below.setCell (Below.setCell (Below.setCell (Below.setCell HWB (by first | exact Nat.le_refl _ | exact HWA.size) _) (by first | exact Nat.le_refl _ | exact HWA.size) _) (by first | exact Nat.le_refl _ | exact HWA.size) _) (by first | exact Nat.le_refl _ | exact HWA.size) _) (by first | exact Nat.le_refl _ | exact HWA.size) _) (by first | exact Nat.le_refl _ | exact HWA.size) _ | exact bt hHeld hbB | exact bt hHeld (Below.undrew hbB) | exact bt hHeld hbA | exact bt hHeld (Below.undrew hbA) | exact hHeld.alloc hHeld.size _ | exact Below.drew (hHeld.alloc hHeld.size _) | exact Below.refl _ _ | exact Below.drew (Below.refl _ _) | exact Below.drew hHeld | exact hHeld))); (clear hK K; (try simp only [Act.put, List.setIfInBounds_toArray, List.set_cons_zero, List.set_cons_succ]))))
      | (refine wpAnyH_ready (rs := [5]) (by decide +kernel) (by simp) (AllReadyH.cons (by simp only [List.getElem?_toArray, List.getElem?_cons_zero, List.getElem?_cons_succ]; rfl) (fun K hK => ?_) AllReadyH.nil); all_goals ((first | fail | (go_simp; (first | (first | ((with_reducible refine (A1.out _).mono ?_); rintro e wA ⟨rfl, hbA⟩; (have HWA : Below Y.heap.size Y wA := by (first | exact bt hHeld hbA | exact bt hHeld (Below.undrew hbA))); (try (clear L0 L1 L2 L3 L4 L5)); (try (first | have FA6 := ((f6_new _ _ false 0 0 false 0 0).below (Below.drew (Below.refl _ _))).below hbA | have FA6 := (f6_new _ _ false 0 0 false 0 0).below hbA))) | ((with_reducible refine (A2.out _).mono ?_); rintro e wB ⟨rfl, hbB⟩; (have HWB : Below Y.heap.size Y wB := by (first | exact bt hHeld hbB | exact bt hHeld (Below.undrew hbB))); (try ((first | have FB6 := FA6.below hbB | have FB6 := FA6.below (Below.undrew hbB) | have FB6 := ((f6_new _ _ false 0 0 false 0 0).below (Below.drew (Below.refl _ _))).below hbB | have FB6 := (f6_new _ _ false 0 0 false 0 0).below hbB); have xB0 := FB6.c0; have xB1 := FB6.c1; have xB2 := FB6.c2; have xB3 := FB6.c3; have xB4 := FB6.c4; have xB5 := FB6.c5; have xBf0 := FB6.f0; have xBf1 := FB6.f1; have xBf2 := FB6.f2; have xBf3 := FB6.f3; have xBf4 := FB6.f4; have xBf5 := FB6.f5; have xBl := FB6.lt)))) | skip))); (refine hK.out _ _ ?_ (fun hHeld => ?_)); (· ((try dsimp only); (first | exact HWB.alloc HWB.size _ | exact Below.drew (HWB.alloc HWB.size _) | exact HWB | exact Below.setCell (Below.setCell (Below.setCell (Below.setCell (Below.setCell (Below.setCell HWB (by first | exact Nat.le_refl _ | exact HWA.size) _) (by first | exact Nat.le_refl _ | exact HWA.size) _) (by first | exact Nat.le_refl _ | exact HWA.size) _) (by first | exact Nat.le_refl _ | exact HWA.size) _) (by first | exact Nat.le_refl _ | exact HWA.size) _) (by first | exact Nat.le_refl _ | exact HWA.size) _ | exact bt hHeld hbB | exact bt hHeld (Below.undrew hbB) | exact bt hHeld hbA | exact bt hHeld (Below.undrew hbA) | exact hHeld.alloc hHeld.size _ | exact Below.drew (hHeld.alloc hHeld.size _) | exact Below.refl _ _ | exact Below.drew (Below.refl _ _) | exact Below.drew hHeld | exact hHeld))); (clear hK K; (try simp only [Act.put, List.setIfInBounds_toArray, List.set_cons_zero, List.set_cons_succ]))))
      | (refine wpAnyH_done (by decide +kernel) ?_ _)
      | fail)
    all_goals (refine wpAnyH_ready (rs := [6]) (by decide +kernel) (by simp) (AllReadyH.cons (by simp only [List.getElem?_toArray, List.getElem?_cons_zero, List.getElem?_cons_succ]; rfl) (fun K hK => ?_) AllReadyH.nil))
    · go_simp
      refine hK.out _ _ ?_ (fun hHeld2 => ?_)
      · exact HWB.alloc HWB.size _
      · clear hK K
        try simp only [Act.put, List.setIfInBounds_toArray, List.set_cons_zero, List.set_cons_succ]
        refine wpAnyH_done (by decide +kernel) ?_ _
        go_wp2_with fail
        go_meet
        exact ⟨_, rfl, Lib.hid (f6_new _ _ _ _ _ _ _ _), Lib.hid (HWB.alloc HWB.size _)⟩
    · go_simp
      refine hK.out _ _ ?_ (fun hHeld2 => ?_)
      · exact six_below HWB HWA.size _ _ _ _ _ _
      · clear hK K
        try simp only [Act.put, List.setIfInBounds_toArray, List.set_cons_zero, List.set_cons_succ]
        refine wpAnyH_done (by decide +kernel) ?_ _
        go_wp2_with fail
        go_meet
        exact ⟨_, rfl, Lib.hid (F6.set FB6 _ _ _ _ _ _), Lib.hid (six_below HWB HWA.size _ _ _ _ _ _)⟩
    · go_simp
      refine hK.out _ _ ?_ (fun hHeld2 => ?_)
      · exact six_below HWB (Nat.le_refl _) _ _ _ _ _ _
      · clear hK K
        try simp only [Act.put, List.setIfInBounds_toArray, List.set_cons_zero, List.set_cons_succ]
        refine wpAnyH_done (by decide +kernel) ?_ _
        go_wp2_with fail
        go_meet
        exact ⟨_, rfl, Lib.hid (F6.set FB6 _ _ _ _ _ _), Lib.hid (six_below HWB (Nat.le_refl _) _ _ _ _ _ _)⟩
  case rest =>
    clear L0 L1 L2 L3 L4 L5
    obtain ⟨b, rfl, HF, HBX⟩ := hcut
    obtain ⟨wx, rfl⟩ : ∃ x, x = wc := ⟨_, rfl⟩
    have HXW := Lib.hid (HXY.out.sl.below HBX.out)
    have HZW := Lib.hid (HZY.out.sl.below HBX.out)
    have HBW := Lib.hid (bt HBY.out HBX.out)
    have HBK := Lib.hid (show BuckOk X by rw [HXD.out]; exact dealt_buck HOKA.out n1 n2)
    have HV1 := Lib.hid V1
    have HV2 := Lib.hid V2
    obtain ⟨pk, hpk⟩ : ∃ p, p = pickN X six N1 N2 := ⟨_, rfl⟩
    have HPK := Lib.hid hpk
    clear V1 V2 HXY HZY HBX HBY hpk lpy A1 A2
    have L0 : ∀ w', Below wx.heap.size wx w' → w'.cell? ⟨b, 0, none⟩ = some (.bool six) := fun w' hb => (hb.cell (p := ⟨b, 0, none⟩) HF.out.lt).trans HF.out.c0
    have L1 : ∀ w', Below wx.heap.size wx w' → w'.cell? ⟨b, 1, none⟩ = some (.int .u64 (hiOf six N1)) := fun w' hb => (hb.cell (p := ⟨b, 1, none⟩) HF.out.lt).trans HF.out.c1
    have L2 : ∀ w', Below wx.heap.size wx w' → w'.cell? ⟨b, 2, none⟩ = some (.int .u64 (loOf N1)) := fun w' hb => (hb.cell (p := ⟨b, 2, none⟩) HF.out.lt).trans HF.out.c2
    have L3 : ∀ w', Below wx.heap.size wx w' → w'.cell? ⟨b, 3, none⟩ = some (.bool six) := fun w' hb => (hb.cell (p := ⟨b, 3, none⟩) HF.out.lt).trans HF.out.c3
    have L4 : ∀ w', Below wx.heap.size wx w' → w'.cell? ⟨b, 4, none⟩ = some (.int .u64 (hiOf six N2)) := fun w' hb => (hb.cell (p := ⟨b, 4, none⟩) HF.out.lt).trans HF.out.c4
    have L5 : ∀ w', Below wx.heap.size wx w' → w'.cell? ⟨b, 5, none⟩ = some (.int .u64 (loOf N2)) := fun w' hb => (hb.cell (p := ⟨b, 5, none⟩) HF.out.lt).trans HF.out.c5
    go_upto_region 7 with fail
    go_cut [16, 17] (fun v1 v2 wy => v1 = .int .i64 (pk : Nat) ∧ v2 = .int .i64 0 ∧ Hid (Below wx.heap.size wx wy))
    case first =>
      refine wp_region_held_drew (S := (fun w' => Below wx.heap.size wx w')) (by kernel_rfl) ?rwS2 (fun hHeld => ?rwR2)
      case rwS2 => ((try dsimp only); (first | exact bt hHeld hbA | exact bt hHeld (Below.undrew hbA) | exact bt hHeld hbD | exact bt hHeld (Below.undrew hbD) | exact Below.refl _ _ | exact Below.drew (Below.refl _ _) | exact Below.drew hHeld | exact hHeld))
      (refine wpAnyH_take (i := 0) (oi := _) (v := ?_) (by simp only [List.getElem?_toArray, List.getElem?_cons_zero, List.getElem?_cons_succ]; rfl) (by kernel_rfl) (by decide +kernel) (by decide +kernel) (by exact fun _ _ _ h => h) (Or.inl ⟨by rfl, ?_⟩) (by assumption) ?_; rotate_left; (· ((intro w hSw); (try dsimp only at hSw); go_simp; (try with_reducible rfl))); (try simp only [Act.put, List.setIfInBounds_toArray, List.set_cons_zero, List.set_cons_succ]))
      (refine wpAnyH_take (i := 2) (oi := _) (v := ?_) (by simp only [List.getElem?_toArray, List.getElem?_cons_zero, List.getElem?_cons_succ]; rfl) (by kernel_rfl) (by decide +kernel) (by decide +kernel) (by exact fun _ _ _ h => h) (Or.inl ⟨by rfl, ?_⟩) (by assumption) ?_; rotate_left; (· ((intro w hSw); (try dsimp only at hSw); go_simp; (try with_reducible rfl))); (try simp only [Act.put, List.setIfInBounds_toArray, List.set_cons_zero, List.set_cons_succ]))
      repeat' (first
        | (refine wpAnyH_take (i := 4) (oi := _) (v := ?_) (by simp only [List.getElem?_toArray, List.getElem?_cons_zero, List.getElem?_cons_succ]; rfl) (by kernel_rfl) (by decide +kernel) (by decide +kernel) (by exact fun _ _ _ h => h) (Or.inl ⟨by rfl, ?_⟩) (by assumption) ?_; rotate_left; (· ((intro w hSw); (try dsimp only at hSw); go_simp; (try with_reducible rfl))); (try simp only [Act.put, List.setIfInBounds_toArray, List.set_cons_zero, List.set_cons_succ]))
        | (refine wpAnyH_take (i := 5) (oi := _) (v := ?_) (by simp only [List.getElem?_toArray, List.getElem?_cons_zero, List.getElem?_cons_succ]; rfl) (by kernel_rfl) (by decide +kernel) (by decide +kernel) (by exact fun _ _ _ h => h) (Or.inl ⟨by rfl, ?_⟩) (by assumption) ?_; rotate_left; (· ((intro w hSw); (try dsimp only at hSw); go_simp; (try with_reducible rfl))); (try simp only [Act.put, List.setIfInBounds_toArray, List.set_cons_zero, List.set_cons_succ]))
        | (refine wpAnyH_take (i := 6) (oi := _) (v := ?_) (by simp only [List.getElem?_toArray, List.getElem?_cons_zero, List.getElem?_cons_succ]; rfl) (by kernel_rfl) (by decide +kernel) (by decide +kernel) (by exact fun _ _ _ h => h) (Or.inl ⟨by rfl, ?_⟩) (by assumption) ?_; rotate_left; (· ((intro w hSw); (try dsimp only at hSw); go_simp; (try with_reducible rfl))); (try simp only [Act.put, List.setIfInBounds_toArray, List.set_cons_zero, List.set_cons_succ]))
        | (refine wpAnyH_take (i := 7) (oi := _) (v := ?_) (by simp only [List.getElem?_toArray, List.getElem?_cons_zero, List.getElem?_cons_succ]; rfl) (by kernel_rfl) (by decide +kernel) (by decide +kernel) (by exact fun _ _ _ h => h) (Or.inl ⟨by rfl, ?_⟩) (by assumption) ?_; rotate_left; (· ((intro w hSw); (try dsimp only at hSw); go_simp; (try with_reducible rfl))); (try simp only [Act.put, List.setIfInBounds_toArray, List.set_cons_zero, List.set_cons_succ]))
        | (refine wpAnyH_take (i := 8) (oi := _) (v := ?_) (by simp only [List.getElem?_toArray, List.getElem?_cons_zero, List.getElem?_cons_succ]; rfl) (by kernel_rfl) (by decide +kernel) (by decide +kernel) (by exact fun _ _ _ h => h) (Or.inl ⟨by rfl, ?_⟩) (by assumption) ?_; rotate_left; (· ((intro w hSw); (try dsimp only at hSw); go_simp; (try with_reducible rfl))); (try simp only [Act.put, List.setIfInBounds_toArray, List.set_cons_zero, List.set_cons_succ]))
        | (refine wpAnyH_ready (rs := [1]) (by decide +kernel) (by simp) (AllReadyH.cons (by simp only [List.getElem?_toArray, List.getElem?_cons_zero, List.getElem?_cons_succ]; rfl) (fun K hK => ?_) AllReadyH.nil); all_goals ((first | (refine step_append_any rfl (.const (.slice none 0 0)) (.tmp 48) 44 3 1 8 _ rfl eiNat _ (.slice none 0 0) [] rfl (Wk.Own.nil _ _ _ _) (.slice ax n cx) (X.map nC) rfl (by first | exact HXW.out | exact HXW.out.below (Below.drew (Below.refl _ _)) | exact HXW.out.below hHeld) (by intro c hc; obtain ⟨r, _, rfl⟩ := List.mem_map.1 hc; exact nC_one r) (by have := HXL.out; simp; omega) (by decide) (Nat.le_refl _) ?_; intro vA wA hownA hbA; obtain ⟨aA, cA, hshA⟩ := hownA.shape; subst hshA) | (go_simp; (first | (refine (pick_any aA cA _ X six N1 N2 _ (by simp) (by first | simpa using hownA.sl | simpa using hownA.sl.below (Below.drew (Below.refl _ _))) HBK.out HV1.out HV2.out).mono ?_; rintro e wD ⟨rfl, hbD⟩) | skip))); (refine hK.out _ _ ?_ (fun hHeld => ?_)); (· ((try dsimp only); (first | exact bt hHeld hbA | exact bt hHeld (Below.undrew hbA) | exact bt hHeld hbD | exact bt hHeld (Below.undrew hbD) | exact Below.refl _ _ | exact Below.drew (Below.refl _ _) | exact Below.drew hHeld | exact hHeld))); (clear hK K; (try simp only [Act.put, List.setIfInBounds_toArray, List.set_cons_zero, List.set_cons_succ]))))
        | (refine wpAnyH_ready (rs := [3]) (by decide +kernel) (by simp) (AllReadyH.cons (by simp only [List.getElem?_toArray, List.getElem?_cons_zero, List.getElem?_cons_succ]; rfl) (fun K hK => ?_) AllReadyH.nil); all_goals ((first | (refine step_append_any rfl (.const (.slice none 0 0)) (.tmp 48) 44 3 1 8 _ rfl eiNat _ (.slice none 0 0) [] rfl (Wk.Own.nil _ _ _ _) (.slice ax n cx) (X.map nC) rfl (by first | exact HXW.out | exact HXW.out.below (Below.drew (Below.refl _ _)) | exact HXW.out.below hHeld) (by intro c hc; obtain ⟨r, _, rfl⟩ := List.mem_map.1 hc; exact nC_one r) (by have := HXL.out; simp; omega) (by decide) (Nat.le_refl _) ?_; intro vA wA hownA hbA; obtain ⟨aA, cA, hshA⟩ := hownA.shape; subst hshA) | (go_simp; (first | (refine (pick_any aA cA _ X six N1 N2 _ (by simp) (by first | simpa using hownA.sl | simpa using hownA.sl.below (Below.drew (Below.refl _ _))) HBK.out HV1.out HV2.out).mono ?_; rintro e wD ⟨rfl, hbD⟩) | skip))); (refine hK.out _ _ ?_ (fun hHeld => ?_)); (· ((try dsimp only); (first | exact bt hHeld hbA | exact bt hHeld (Below.undrew hbA) | exact bt hHeld hbD | exact bt hHeld (Below.undrew hbD) | exact Below.refl _ _ | exact Below.drew (Below.refl _ _) | exact Below.drew hHeld | exact hHeld))); (clear hK K; (try simp only [Act.put, List.setIfInBounds_toArray, List.set_cons_zero, List.set_cons_succ]))))
        | (refine wpAnyH_done (by decide +kernel) ?_ _)
        | fail)
      all_goals (try rw [← HPK.out])
      all_goals go_wp2_with fail
      all_goals go_meet
      all_goals exact ⟨rfl, rfl, Lib.hid hHeld⟩
    case rest =>
      clear L0 L1 L2 L3 L4 L5
      obtain ⟨rfl, rfl, HBZ⟩ := hcut
      obtain ⟨wy, rfl⟩ : ∃ x, x = wc := ⟨_, rfl⟩
      have HF2 := Lib.hid (HF.out.below HBZ.out)
      have HXW2 := Lib.hid (HXW.out.below HBZ.out)
      have HZW2 := Lib.hid (HZW.out.below HBZ.out)
      have HBW2 := Lib.hid (bt HBW.out HBZ.out)
      clear HXW HZW HBW HBZ HF
      have HF := HF2
      have HXW := HZW2
      clear HF2 HZW2
      have L0 : ∀ w', Below wy.heap.size wy w' → w'.cell? ⟨b, 0, none⟩ = some (.bool six) := fun w' hb => (hb.cell (p := ⟨b, 0, none⟩) HF.out.lt).trans HF.out.c0
      have L1 : ∀ w', Below wy.heap.size wy w' → w'.cell? ⟨b, 1, none⟩ = some (.int .u64 (hiOf six N1)) := fun w' hb => (hb.cell (p := ⟨b, 1, none⟩) HF.out.lt).trans HF.out.c1
      have L2 : ∀ w', Below wy.heap.size wy w' → w'.cell? ⟨b, 2, none⟩ = some (.int .u64 (loOf N1)) := fun w' hb => (hb.cell (p := ⟨b, 2, none⟩) HF.out.lt).trans HF.out.c2
      have L3 : ∀ w', Below wy.heap.size wy w' → w'.cell? ⟨b, 3, none⟩ = some (.bool six) := fun w' hb => (hb.cell (p := ⟨b, 3, none⟩) HF.out.lt).trans HF.out.c3
      have L4 : ∀ w', Below wy.heap.size wy w' → w'.cell? ⟨b, 4, none⟩ = some (.int .u64 (hiOf six N2)) := fun w' hb => (hb.cell (p := ⟨b, 4, none⟩) HF.out.lt).trans HF.out.c4
      have L5 : ∀ w', Below wy.heap.size wy w' → w'.cell? ⟨b, 5, none⟩ = some (.int .u64 (loOf N2)) := fun w' hb => (hb.cell (p := ⟨b, 5, none⟩) HF.out.lt).trans HF.out.c5
      go_upto_region 8 with fail
      go_cut [18, 19] (fun v1 v2 wz => v1 = .int .i64 (pk : Nat) ∧ v2 = .int .i64 0 ∧ Hid (Below wy.heap.size wy wz))
      case first =>
        refine wp_region_held_drew (S := (fun w' => Below wy.heap.size wy w')) (by kernel_rfl) ?rwS3 (fun hHeld => ?rwR3)
        case rwS3 => ((try dsimp only); (first | exact bt hHeld hbA | exact bt hHeld (Below.undrew hbA) | exact bt hHeld hbD | exact bt hHeld (Below.undrew hbD) | exact Below.refl _ _ | exact Below.drew (Below.refl _ _) | exact Below.drew hHeld | exact hHeld))
        (refine wpAnyH_take (i := 0) (oi := _) (v := ?_) (by simp only [List.getElem?_toArray, List.getElem?_cons_zero, List.getElem?_cons_succ]; rfl) (by kernel_rfl) (by decide +kernel) (by decide +kernel) (by exact fun _ _ _ h => h) (Or.inl ⟨by rfl, ?_⟩) (by assumption) ?_; rotate_left; (· ((intro w hSw); (try dsimp only at hSw); go_simp; (try with_reducible rfl))); (try simp only [Act.put, List.setIfInBounds_toArray, List.set_cons_zero, List.set_cons_succ]))
        (refine wpAnyH_take (i := 2) (oi := _) (v := ?_) (by simp only [List.getElem?_toArray, List.getElem?_cons_zero, List.getElem?_cons_succ]; rfl) (by kernel_rfl) (by decide +kernel) (by decide +kernel) (by exact fun _ _ _ h => h) (Or.inl ⟨by rfl, ?_⟩) (by assumption) ?_; rotate_left; (· ((intro w hSw); (try dsimp only at hSw); go_simp; (try with_reducible rfl))); (try simp only [Act.put, List.setIfInBounds_toArray, List.set_cons_zero, List.set_cons_succ]))
        repeat' (first
          | (refine wpAnyH_take (i := 4) (oi := _) (v := ?_) (by simp only [List.getElem?_toArray, List.getElem?_cons_zero, List.getElem?_cons_succ]; rfl) (by kernel_rfl) (by decide +kernel) (by decide +kernel) (by exact fun _ _ _ h => h) (Or.inl ⟨by rfl, ?_⟩) (by assumption) ?_; rotate_left; (· ((intro w hSw); (try dsimp only at hSw); go_simp; (try with_reducible rfl))); (try simp only [Act.put, List.setIfInBounds_toArray, List.set_cons_zero, List.set_cons_succ]))
          | (refine wpAnyH_take (i := 5) (oi := _) (v := ?_) (by simp only [List.getElem?_toArray, List.getElem?_cons_zero, List.getElem?_cons_succ]; rfl) (by kernel_rfl) (by decide +kernel) (by decide +kernel) (by exact fun _ _ _ h => h) (Or.inl ⟨by rfl, ?_⟩) (by assumption) ?_; rotate_left; (· ((intro w hSw); (try dsimp only at hSw); go_simp; (try with_reducible rfl))); (try simp only [Act.put, List.setIfInBounds_toArray, List.set_cons_zero, List.set_cons_succ]))
          | (refine wpAnyH_take (i := 6) (oi := _) (v := ?_) (by simp only [List.getElem?_toArray, List.getElem?_cons_zero, List.getElem?_cons_succ]; rfl) (by kernel_rfl) (by decide +kernel) (by decide +kernel) (by exact fun _ _ _ h => h) (Or.inl ⟨by rfl, ?_⟩) (by assumption) ?_; rotate_left; (· ((intro w hSw); (try dsimp only at hSw); go_simp; (try with_reducible rfl))); (try simp only [Act.put, List.setIfInBounds_toArray, List.set_cons_zero, List.set_cons_succ]))
          | (refine wpAnyH_take (i := 7) (oi := _) (v := ?_) (by simp only [List.getElem?_toArray, List.getElem?_cons_zero, List.getElem?_cons_succ]; rfl) (by kernel_rfl) (by decide +kernel) (by decide +kernel) (by exact fun _ _ _ h => h) (Or.inl ⟨by rfl, ?_⟩) (by assumption) ?_; rotate_left; (· ((intro w hSw); (try dsimp only at hSw); go_simp; (try with_reducible rfl))); (try simp only [Act.put, List.setIfInBounds_toArray, List.set_cons_zero, List.set_cons_succ]))
          | (refine wpAnyH_take (i := 8) (oi := _) (v := ?_) (by simp only [List.getElem?_toArray, List.getElem?_cons_zero, List.getElem?_cons_succ]; rfl) (by kernel_rfl) (by decide +kernel) (by decide +kernel) (by exact fun _ _ _ h => h) (Or.inl ⟨by rfl, ?_⟩) (by assumption) ?_; rotate_left; (· ((intro w hSw); (try dsimp only at hSw); go_simp; (try with_reducible rfl))); (try simp only [Act.put, List.setIfInBounds_toArray, List.set_cons_zero, List.set_cons_succ]))
          | (refine wpAnyH_ready (rs := [1]) (by decide +kernel) (by simp) (AllReadyH.cons (by simp only [List.getElem?_toArray, List.getElem?_cons_zero, List.getElem?_cons_succ]; rfl) (fun K hK => ?_) AllReadyH.nil); all_goals ((first | (refine step_append_any rfl (.const (.slice none 0 0)) (.tmp 55) 44 3 1 8 _ rfl eiNat _ (.slice none 0 0) [] rfl (Wk.Own.nil _ _ _ _) (.slice (some ⟨gz, 0, none⟩) n n) (X.map nC) rfl (by first | exact HXW.out | exact HXW.out.below (Below.drew (Below.refl _ _)) | exact HXW.out.below hHeld) (by intro c hc; obtain ⟨r, _, rfl⟩ := List.mem_map.1 hc; exact nC_one r) (by have := HXL.out; simp; omega) (by decide) (Nat.le_refl _) ?_; intro vA wA hownA hbA; obtain ⟨aA, cA, hshA⟩ := hownA.shape; subst hshA) | (go_simp; (first | (refine (pick_any aA cA _ X six N1 N2 _ (by simp) (by first | simpa using hownA.sl | simpa using hownA.sl.below (Below.drew (Below.refl _ _))) HBK.out HV1.out HV2.out).mono ?_; rintro e wD ⟨rfl, hbD⟩) | skip))); (refine hK.out _ _ ?_ (fun hHeld => ?_)); (· ((try dsimp only); (first | exact bt hHeld hbA | exact bt hHeld (Below.undrew hbA) | exact bt hHeld hbD | exact bt hHeld (Below.undrew hbD) | exact Below.refl _ _ | exact Below.drew (Below.refl _ _) | exact Below.drew hHeld | exact hHeld))); (clear hK K; (try simp only [Act.put, List.setIfInBounds_toArray, List.set_cons_zero, List.set_cons_succ]))))
          | (refine wpAnyH_ready (rs := [3]) (by decide +kernel) (by simp) (AllReadyH.cons (by simp only [List.getElem?_toArray, List.getElem?_cons_zero, List.getElem?_cons_succ]; rfl) (fun K hK => ?_) AllReadyH.nil); all_goals ((first | (refine step_append_any rfl (.const (.slice none 0 0)) (.tmp 55) 44 3 1 8 _ rfl eiNat _ (.slice none 0 0) [] rfl (Wk.Own.nil _ _ _ _) (.slice (some ⟨gz, 0, none⟩) n n) (X.map nC) rfl (by first | exact HXW.out | exact HXW.out.below (Below.drew (Below.refl _ _)) | exact HXW.out.below hHeld) (by intro c hc; obtain ⟨r, _, rfl⟩ := List.mem_map.1 hc; exact nC_one r) (by have := HXL.out; simp; omega) (by decide) (Nat.le_refl _) ?_; intro vA wA hownA hbA; obtain ⟨aA, cA, hshA⟩ := hownA.shape; subst hshA) | (go_simp; (first | (refine (pick_any aA cA _ X six N1 N2 _ (by simp) (by first | simpa using hownA.sl | simpa using hownA.sl.below (Below.drew (Below.refl _ _))) HBK.out HV1.out HV2.out).mono ?_; rintro e wD ⟨rfl, hbD⟩) | skip))); (refine hK.out _ _ ?_ (fun hHeld => ?_)); (· ((try dsimp only); (first | exact bt hHeld hbA | exact bt hHeld (Below.undrew hbA) | exact bt hHeld hbD | exact bt hHeld (Below.undrew hbD) | exact Below.refl _ _ | exact Below.drew (Below.refl _ _) | exact Below.drew hHeld | exact hHeld))); (clear hK K; (try simp only [Act.put, List.setIfInBounds_toArray, List.set_cons_zero, List.set_cons_succ]))))
          | (refine wpAnyH_done (by decide +kernel) ?_ _)
          | fail)
        all_goals (try rw [← HPK.out])
        all_goals go_wp2_with fail
        all_goals go_meet
        all_goals exact ⟨rfl, rfl, Lib.hid hHeld⟩
      case rest =>
        clear L0 L1 L2 L3 L4 L5
        obtain ⟨rfl, rfl, HBZ⟩ := hcut
        obtain ⟨wz, rfl⟩ : ∃ x, x = wc := ⟨_, rfl⟩
        have HX3 := Lib.hid (HXW2.out.below HBZ.out)
        have HZ3 := Lib.hid (HXW.out.below HBZ.out)
        have HB3 := Lib.hid (bt HBW2.out HBZ.out)
        have hmem : 0 < X.count pk := by
          have h1 := pick_mem (xs := X) HBK.out.one six N1 N2
          rw [← HPK.out] at h1
          exact List.count_pos_iff.2 h1
        have n64 : n ≤ 1000 := Nat.le_trans n2 (by decide)
        have SM := Lib.hid (same_any ax (some ⟨gz, 0, none⟩) cx n n X wz HXL.out.symm HX3.out HZ3.out n64)
        have CN := Lib.hid (fun W (hb : Below wz.heap.size wz W) => counted_any ax cx n pk X W HXL.out.symm (HX3.out.below hb) n64)
        generalize X.count pk = K at *
        clear HBW2 HBZ HXW HXW2 HF
        go_wp2_with (first | ((with_reducible refine SM.out.mono ?_); rintro e w9 ⟨rfl, hb9⟩) | ((with_reducible refine (CN.out _ hb9).mono ?_); rintro e w' ⟨rfl, rfl⟩))
        go_returns
        exact ⟨by first | rfl | simp | (simp; omega), bt HB3.out hb9⟩
end Go.Proofs.Yticfcigkldkhmaa
