
/- ShareSpread: the walk. -/
import Derived.Test.YticfcigkldkhmaaSh15
import Derived.Deep.DeepCutAuto
set_option linter.unusedVariables false
set_option linter.unusedSimpArgs false
namespace Go.Proofs.Yticfcigkldkhmaa
open Go Go.RowKit Go.Sort Wc Wk

/-- A flow in a block of its own. -/
structure F6 (w : World) (o : Nat) (s1 : Bool) (p1 q1 : Int) (s2 : Bool) (p2 q2 : Int) : Prop where
  lt : o < w.heap.size
  c0 : w.cell? ⟨o, 0, none⟩ = some (.bool s1)
  c1 : w.cell? ⟨o, 1, none⟩ = some (.int .u64 p1)
  c2 : w.cell? ⟨o, 2, none⟩ = some (.int .u64 q1)
  c3 : w.cell? ⟨o, 3, none⟩ = some (.bool s2)
  c4 : w.cell? ⟨o, 4, none⟩ = some (.int .u64 p2)
  c5 : w.cell? ⟨o, 5, none⟩ = some (.int .u64 q2)
  f0 : w.frozen? ⟨o, 0, none⟩ = false
  f1 : w.frozen? ⟨o, 1, none⟩ = false
  f2 : w.frozen? ⟨o, 2, none⟩ = false
  f3 : w.frozen? ⟨o, 3, none⟩ = false
  f4 : w.frozen? ⟨o, 4, none⟩ = false
  f5 : w.frozen? ⟨o, 5, none⟩ = false
theorem f6_new (w : World) (E : TypeId) (s1 : Bool) (p1 q1 : Int) (s2 : Bool) (p2 q2 : Int) : F6 (w.alloc (.cells #[.bool s1, .int .u64 p1, .int .u64 q1, .bool s2, .int .u64 p2, .int .u64 q2] E)) w.heap.size s1 p1 q1 s2 p2 q2 := by constructor <;> simp
theorem F6.below {w w' : World} {o : Nat} {s1 : Bool} {p1 q1 : Int} {s2 : Bool} {p2 q2 : Int} (h : F6 w o s1 p1 q1 s2 p2 q2) (hb : Below w.heap.size w w') : F6 w' o s1 p1 q1 s2 p2 q2 :=
  have g := fun i => hb.cell (p := ⟨o, i, none⟩) h.lt
  have k := fun i => hb.frozen (p := ⟨o, i, none⟩) h.lt
  ⟨Nat.lt_of_lt_of_le h.lt hb.size, (g 0).trans h.c0, (g 1).trans h.c1, (g 2).trans h.c2, (g 3).trans h.c3, (g 4).trans h.c4, (g 5).trans h.c5, (k 0).trans h.f0, (k 1).trans h.f1, (k 2).trans h.f2, (k 3).trans h.f3, (k 4).trans h.f4, (k 5).trans h.f5⟩

theorem F6.set {w : World} {o : Nat} {s1' : Bool} {p1' q1' : Int} {s2' : Bool} {p2' q2' : Int} (h : F6 w o s1' p1' q1' s2' p2' q2') (s1 : Bool) (p1 q1 : Int) (s2 : Bool) (p2 q2 : Int) : F6 ((((((w.setCell ⟨o, 0, none⟩ (.bool s1)).setCell ⟨o, 1, none⟩ (.int .u64 p1)).setCell ⟨o, 2, none⟩ (.int .u64 q1)).setCell ⟨o, 3, none⟩ (.bool s2)).setCell ⟨o, 4, none⟩ (.int .u64 p2)).setCell ⟨o, 5, none⟩ (.int .u64 q2)) o s1 p1 q1 s2 p2 q2 := by
  have k0 := h.c0
  have k1 := h.c1
  have k2 := h.c2
  have k3 := h.c3
  have k4 := h.c4
  have k5 := h.c5
  have g0 := h.f0
  have g1 := h.f1
  have g2 := h.f2
  have g3 := h.f3
  have g4 := h.f4
  have g5 := h.f5
  have l := h.lt
  constructor <;> simp [*, go_sem]
theorem six_below {Y w : World} {o : Nat} (h : Below Y.heap.size Y w) (ho : Y.heap.size ≤ o) (s1 : Bool) (p1 q1 : Int) (s2 : Bool) (p2 q2 : Int) : Below Y.heap.size Y ((((((w.setCell ⟨o, 0, none⟩ (.bool s1)).setCell ⟨o, 1, none⟩ (.int .u64 p1)).setCell ⟨o, 2, none⟩ (.int .u64 q1)).setCell ⟨o, 3, none⟩ (.bool s2)).setCell ⟨o, 4, none⟩ (.int .u64 p2)).setCell ⟨o, 5, none⟩ (.int .u64 q2)) :=
  (((((h.setCell (p := ⟨o, 0, none⟩) ho _).setCell (p := ⟨o, 1, none⟩) ho _).setCell (p := ⟨o, 2, none⟩) ho _).setCell (p := ⟨o, 3, none⟩) ho _).setCell (p := ⟨o, 4, none⟩) ho _).setCell (p := ⟨o, 5, none⟩) ho _


set_option maxHeartbeats 2000000 in
set_option maxRecDepth 100000 in
theorem shareSpread_walk (a1 : Option Addr) (len1 cap1 : Nat) (zs1 : List Int) (many : Int) (six : Bool) (hi lo : Int) (six' : Bool) (hi' lo' : Int) (w : World) (h1 : IsRow .i64 w a1 len1 cap1 zs1) (hm : -9223372036854775808 ≤ many ∧ many ≤ 9223372036854775807)
    (h3 : 0 ≤ hi ∧ hi < 18446744073709551616) (h4 : 0 ≤ lo ∧ lo < 18446744073709551616) (h5 : 0 ≤ hi' ∧ hi' < 18446744073709551616) (h6 : 0 ≤ lo' ∧ lo' < 18446744073709551616) :
    Calls Try.prog 12 #[.slice a1 len1 cap1, .int .i64 many, .agg #[.bool six, .int .u64 hi, .int .u64 lo], .agg #[.bool six', .int .u64 hi', .int .u64 lo']] w fun e w' => e = .returned (.bool true) ∧ Below w.heap.size w w' := by
  obtain ⟨r, hr⟩ := Int.eq_ofNat_of_zero_le (Int.emod_nonneg many (show (64 : Int) ≠ 0 by decide))
  have hr1 := Int.emod_lt_of_pos many (show (0 : Int) < 64 by decide)
  have P := Lib.hid (fun w => picked_any many 64 w (by decide) (by decide))
  rw [hr] at P hr1
  have SH1 : Hid (∀ W, Below w.heap.size w W → Calls Try.prog 31 #[.slice a1 len1 cap1, .int .i64 16] W (RetSh W 16)) := fun W hb => shares_any a1 len1 cap1 zs1 16 W (row_below h1 hb) (by omega) (by omega)
  obtain ⟨n, hn⟩ : ∃ n, n = 1 + r := ⟨_, rfl⟩
  have n1 : 1 ≤ n := by omega
  have n2 : n ≤ 64 := by omega
  have e1 : (1 : Int) + (r : Int) = (n : Int) := by omega
  have e2 : wrap64 (n : Int) = (n : Int) := wrap64_in (by omega) (by omega)
  have A1 := Lib.hid (fun w => addrOf_any six hi lo w h3 h4)
  have A2 := Lib.hid (fun w => addrOf_any six hi' lo' w h5 h6)
  have V1 := rawN_fits six hi lo h3 h4
  have V2 := rawN_fits six hi' lo' h5 h6
  generalize rawN six hi lo = N1 at *
  generalize rawN six hi' lo' = N2 at *
  clear hr hr1 hm h1 hn h3 h4 h5 h6
  go_enter Try.func12, Try.ntmps12
  go_wp2_with ((with_reducible refine (SH1.out _ (by (repeat' (first | (with_reducible exact Below.refl _ _) | (with_reducible assumption) | (with_reducible refine Below.alloc ?_ ?_ _) | (with_reducible refine Below.drew ?_) | (with_reducible refine Below.stepG ?_ (by assumption) ?_) | (with_reducible refine Below.setCell ?_ ?_ _) | omega | (dsimp only; omega) | (simp; done) | (simp; omega))))).mono ?_); rintro e w2 ⟨v2, sa, rfl, hb2, ho2, hoka, hsa⟩; refine stop_at ?_; intro G hG)
  obtain ⟨aa, ca, rfl⟩ := ho2.shape
  rw [List.length_map] at ho2 hG
  have HA := Lib.hid ho2.sl
  have HO2 := Lib.hid ho2
  have hown2 : w.heap.size + 2 ≤ ((w.alloc (.cells #[.bool six, .int .u64 hi, .int .u64 lo] 45)).alloc (.cells #[.bool six', .int .u64 hi', .int .u64 lo'] 45)).heap.size := by simp
  have HOKA := Lib.hid hoka
  have hla := (own_lens ho2).2
  have D1 := Lib.hid (dealt_any aa ca sa.length sa n w2 rfl HA.out HOKA.out n1 n2)
  obtain ⟨P6, hP6⟩ : ∃ p, p = w.heap.size := ⟨_, rfl⟩
  have hbw : Below w.heap.size w w2 := by (repeat' (first | (with_reducible exact Below.refl _ _) | (with_reducible assumption) | (with_reducible refine Below.alloc ?_ ?_ _) | (with_reducible refine Below.drew ?_) | (with_reducible refine Below.stepG ?_ (by assumption) ?_) | (with_reducible refine Below.setCell ?_ ?_ _) | omega | (dsimp only; omega) | (simp; done) | (simp; omega)))
  have HBW := Lib.hid hbw
  have q0 : w2.cell? ⟨P6, 0, none⟩ = some (.bool six) := (hb2.cell (p := ⟨P6, 0, none⟩) (by simp; omega)).trans (by rw [hP6]; simp)
  have q1 : w2.cell? ⟨P6, 1, none⟩ = some (.int .u64 hi) := (hb2.cell (p := ⟨P6, 1, none⟩) (by simp; omega)).trans (by rw [hP6]; simp)
  have q2 : w2.cell? ⟨P6, 2, none⟩ = some (.int .u64 lo) := (hb2.cell (p := ⟨P6, 2, none⟩) (by simp; omega)).trans (by rw [hP6]; simp)
  have r0 : w2.cell? ⟨P6 + 1, 0, none⟩ = some (.bool six') := (hb2.cell (p := ⟨P6 + 1, 0, none⟩) (by simp; omega)).trans (by rw [hP6]; simp)
  have r1 : w2.cell? ⟨P6 + 1, 1, none⟩ = some (.int .u64 hi') := (hb2.cell (p := ⟨P6 + 1, 1, none⟩) (by simp; omega)).trans (by rw [hP6]; simp)
  have r2 : w2.cell? ⟨P6 + 1, 2, none⟩ = some (.int .u64 lo') := (hb2.cell (p := ⟨P6 + 1, 2, none⟩) (by simp; omega)).trans (by rw [hP6]; simp)
  have rf : w2.frozen? ⟨P6 + 1, 0, none⟩ = false := (hb2.frozen (p := ⟨P6 + 1, 0, none⟩) (by simp; omega)).trans (by rw [hP6]; simp)
  have lp : P6 + 1 < w2.heap.size := by have := hb2.size; simp at this; omega
  rw [← hP6] at hG
  have HP6 := Lib.hid hP6
  clear hP6 hb2 ho2 hoka SH1 hbw
  rw [← hG.out]
  clear hG G
  go_wp2_with (first | ((with_reducible refine (P.out _).mono ?_); rintro e w' ⟨rfl, rfl⟩) | ((with_reducible refine D1.out.mono ?_); rintro e w3 ⟨v3, rfl, hb3, ho3⟩; obtain ⟨ax, cx, rfl⟩ := ho3.shape; rw [List.length_map, dealt_len HOKA.out] at ho3 ⊢; refine stop_at ?_; intro G hG))
  have hlx := (own_lens ho3).2
  have hz3 := hb3.size
  have hwp : w.heap.size ≤ P6 + 1 := by rw [HP6.out]; exact Nat.le_succ _
  have k := fun o i (h : o < w2.heap.size) => hb3.cell (p := ⟨o, i, none⟩) h
  have lp0 : P6 < w2.heap.size := Nat.lt_of_succ_lt lp
  have s0 := (k P6 0 lp0).trans q0
  have s1 := (k P6 1 lp0).trans q1
  have s2 := (k P6 2 lp0).trans q2
  have t0 := (k (P6 + 1) 0 lp).trans r0
  have t1 := (k (P6 + 1) 1 lp).trans r1
  have t2 := (k (P6 + 1) 2 lp).trans r2
  have tf : w3.frozen? ⟨P6 + 1, 0, none⟩ = false := (hb3.frozen (p := ⟨P6 + 1, 0, none⟩) lp).trans rf
  have lp3 : P6 + 1 < w3.heap.size := Nat.lt_of_lt_of_le lp hz3
  have HXY := Lib.hid (own_grown ho3 (grown_set w3 (P6 + 1) 0 (.bool six)) (fun e => by have := (ho3.lt _ e).1; omega))
  have HOY := Lib.hid (own_grown (HO2.out.below hb3) (grown_set w3 (P6 + 1) 0 (.bool six)) (fun e => by have := (HO2.out.lt _ e).1; have := HP6.out; omega))
  have HBY := Lib.hid ((bt HBW.out hb3).setCell (p := ⟨P6 + 1, 0, none⟩) hwp (.bool six))
  have y0 : (w3.setCell ⟨P6 + 1, 0, none⟩ (.bool six)).cell? ⟨P6, 0, none⟩ = some (.bool six) := by simp [s0, go_sem]
  have y1 : (w3.setCell ⟨P6 + 1, 0, none⟩ (.bool six)).cell? ⟨P6, 1, none⟩ = some (.int .u64 hi) := by simp [s1, go_sem]
  have y2 : (w3.setCell ⟨P6 + 1, 0, none⟩ (.bool six)).cell? ⟨P6, 2, none⟩ = some (.int .u64 lo) := by simp [s2, go_sem]
  have z0 : (w3.setCell ⟨P6 + 1, 0, none⟩ (.bool six)).cell? ⟨P6 + 1, 0, none⟩ = some (.bool six) := by simp [t0, go_sem]
  have z1 : (w3.setCell ⟨P6 + 1, 0, none⟩ (.bool six)).cell? ⟨P6 + 1, 1, none⟩ = some (.int .u64 hi') := by simp [t1, go_sem]
  have z2 : (w3.setCell ⟨P6 + 1, 0, none⟩ (.bool six)).cell? ⟨P6 + 1, 2, none⟩ = some (.int .u64 lo') := by simp [t2, go_sem]
  have lpy : P6 + 1 < (w3.setCell ⟨P6 + 1, 0, none⟩ (.bool six)).heap.size := by rw [World.size_setCell]; exact lp3
  obtain ⟨X, hX⟩ : ∃ X, X = dealtL sa n := ⟨_, rfl⟩
  rw [← hX] at HXY
  have HXL := Lib.hid (show X.length = n by rw [hX]; exact dealt_len HOKA.out n)
  have HXD := Lib.hid hX
  rw [← hG.out]
  clear hG G ho3 hb3 k HO2 HBW q0 q1 q2 r0 r1 r2 rf hown2 hX D1 HA hz3 lp lp0 hwp
  go_upto_region 5 with fail
  clear s0 s1 s2 t0 t1 t2 tf lp3
  generalize w3.setCell ⟨P6 + 1, 0, none⟩ (.bool six) = Y at *
  have L0 : ∀ w', Below Y.heap.size Y w' → w'.cell? ⟨P6, 0, none⟩ = some (.bool six) := fun w' hb => (hb.cell (p := ⟨P6, 0, none⟩) (Nat.lt_of_succ_lt lpy)).trans y0
  have L1 : ∀ w', Below Y.heap.size Y w' → w'.cell? ⟨P6, 1, none⟩ = some (.int .u64 hi) := fun w' hb => (hb.cell (p := ⟨P6, 1, none⟩) (Nat.lt_of_succ_lt lpy)).trans y1
  have L2 : ∀ w', Below Y.heap.size Y w' → w'.cell? ⟨P6, 2, none⟩ = some (.int .u64 lo) := fun w' hb => (hb.cell (p := ⟨P6, 2, none⟩) (Nat.lt_of_succ_lt lpy)).trans y2
  have L3 : ∀ w', Below Y.heap.size Y w' → w'.cell? ⟨P6 + 1, 0, none⟩ = some (.bool six) := fun w' hb => (hb.cell (p := ⟨P6 + 1, 0, none⟩) lpy).trans z0
  have L4 : ∀ w', Below Y.heap.size Y w' → w'.cell? ⟨P6 + 1, 1, none⟩ = some (.int .u64 hi') := fun w' hb => (hb.cell (p := ⟨P6 + 1, 1, none⟩) lpy).trans z1
  have L5 : ∀ w', Below Y.heap.size Y w' → w'.cell? ⟨P6 + 1, 2, none⟩ = some (.int .u64 lo') := fun w' hb => (hb.cell (p := ⟨P6 + 1, 2, none⟩) lpy).trans z2
  clear y0 y1 y2 z0 z1 z2
  go_cut [13] (fun v wx => ∃ b, v = .pointer (some ⟨b, 0, none⟩) ∧ Hid (F6 wx b six (hiOf six N1) (loOf N1) six (hiOf six N2) (loOf N2)) ∧ Hid (Below Y.heap.size Y wx))
  case first =>
    refine wp_region_held_drew (S := (fun w' => Below Y.heap.size Y w')) (by kernel_rfl) ?rwS1 (fun hHeld => ?rwR1)
    case rwS1 => ((try dsimp only); (first | exact HWB.alloc HWB.size _ | exact Below.drew (HWB.alloc HWB.size _) | exact HWB | exact Below.setCell (Below.setCell (Below.setCell (Below.setCell (Below.setCell (Below.setCell HWB (by first | exact Nat.le_refl _ | exact HWA.size) _) (by first | exact Nat.le_refl _ | exact HWA.size) _) (by first | exact Nat.le_refl _ | exact HWA.size) _) (by first | exact Nat.le_refl _ | exact HWA.size) _) (by first | exact Nat.le_refl _ | exact HWA.size) _) (by first | exact Nat.le_refl _ | exact HWA.size) _ | exact bt hHeld hbB | exact bt hHeld (Below.undrew hbB) | exact bt hHeld hbA | exact bt hHeld (Below.undrew hbA) | exact hHeld.alloc hHeld.size _ | exact Below.drew (hHeld.alloc hHeld.size _) | exact Below.refl _ _ | exact Below.drew (Below.refl _ _) | exact Below.drew hHeld | exact hHeld))
    (refine wpAnyH_take (i := 0) (oi := _) (v := ?_) (by simp only [List.getElem?_toArray, List.getElem?_cons_zero, List.getElem?_cons_succ]; rfl) (by kernel_rfl) (by decide +kernel) (by decide +kernel) (by exact fun _ _ _ h => h) (Or.inl ⟨by rfl, ?_⟩) (by assumption) ?_; rotate_left; (· ((intro w hSw); (try dsimp only at hSw); go_simp; (try with_reducible rfl))); (try simp only [Act.put, List.setIfInBounds_toArray, List.set_cons_zero, List.set_cons_succ]))
    (refine wpAnyH_take (i := 2) (oi := _) (v := ?_) (by simp only [List.getElem?_toArray, List.getElem?_cons_zero, List.getElem?_cons_succ]; rfl) (by kernel_rfl) (by decide +kernel) (by decide +kernel) (by exact fun _ _ _ h => h) (Or.inl ⟨by rfl, ?_⟩) (by assumption) ?_; rotate_left; (· ((intro w hSw); (try dsimp only at hSw); go_simp; (try with_reducible rfl))); (try simp only [Act.put, List.setIfInBounds_toArray, List.set_cons_zero, List.set_cons_succ]))
    repeat' (first
      | (refine wpAnyH_take (i := 4) (oi := _) (v := ?_) (by simp only [List.getElem?_toArray, List.getElem?_cons_zero, List.getElem?_cons_succ]; rfl) (by kernel_rfl) (by decide +kernel) (by decide +kernel) (by exact fun _ _ _ h => h) (Or.inl ⟨by rfl, ?_⟩) (by assumption) ?_; rotate_left; (· ((intro w hSw); (try dsimp only at hSw); go_simp; (try with_reducible rfl))); (try simp only [Act.put, List.setIfInBounds_toArray, List.set_cons_zero, List.set_cons_succ]))
      | (refine wpAnyH_ready (rs := [1, 5]) (by decide +kernel) (by simp) (AllReadyH.cons (by simp only [List.getElem?_toArray, List.getElem?_cons_zero, List.getElem?_cons_succ]; rfl) (fun K hK => ?_) (AllReadyH.cons (by simp only [List.getElem?_toArray, List.getElem?_cons_zero, List.getElem?_cons_succ]; rfl) (fun K hK => ?_) AllReadyH.nil)); all_goals ((first | fail | (go_simp; (first | (first | ((with_reducible refine (A1.out _).mono ?_); rintro e wA ⟨rfl, hbA⟩; (have HWA : Below Y.heap.size Y wA := by (first | exact bt hHeld hbA | exact bt hHeld (Below.undrew hbA))); (try (clear L0 L1 L2 L3 L4 L5)); (try (first | have FA6 := ((f6_new _ _ false 0 0 false 0 0).below (Below.drew (Below.refl _ _))).below hbA | have FA6 := (f6_new _ _ false 0 0 false 0 0).below hbA))) | ((with_reducible refine (A2.out _).mono ?_); rintro e wB ⟨rfl, hbB⟩; (have HWB : Below Y.heap.size Y wB := by (first | exact bt hHeld hbB | exact bt hHeld (Below.undrew hbB))); (try ((first | have FB6 := FA6.below hbB | have FB6 := FA6.below (Below.undrew hbB) | have FB6 := ((f6_new _ _ false 0 0 false 0 0).below (Below.drew (Below.refl _ _))).below hbB | have FB6 := (f6_new _ _ false 0 0 false 0 0).below hbB); have xB0 := FB6.c0; have xB1 := FB6.c1; have xB2 := FB6.c2; have xB3 := FB6.c3; have xB4 := FB6.c4; have xB5 := FB6.c5; have xBf0 := FB6.f0; have xBf1 := FB6.f1; have xBf2 := FB6.f2; have xBf3 := FB6.f3; have xBf4 := FB6.f4; have xBf5 := FB6.f5; have xBl := FB6.lt)))) | skip))); (refine hK.out _ _ ?_ (fun hHeld => ?_)); (· ((try dsimp only); (first | exact HWB.alloc HWB.size _ | exact Below.drew (HWB.alloc HWB.size _) | exact HWB | exact Below.setCell (Below.setCell (Below.setCell (Below.setCell (Below.setCell (Below.setCell HWB (by first | exact Nat.le_refl _ | exact HWA.size) _) (by first | exact Nat.le_refl _ | exact HWA.size) _) (by first | exact Nat.le_refl _ | exact HWA.size) _) (by first | exact Nat.le_refl _ | exact HWA.size) _) (by first | exact Nat.le_refl _ | exact HWA.size) _) (by first | exact Nat.le_refl _ | exact HWA.size) _ | exact bt hHeld hbB | exact bt hHeld (Below.undrew hbB) | exact bt hHeld hbA | exact bt hHeld (Below.undrew hbA) | exact hHeld.alloc hHeld.size _ | exact Below.drew (hHeld.alloc hHeld.size _) | exact Below.refl _ _ | exact Below.drew (Below.refl _ _) | exact Below.drew hHeld | exact hHeld))); (clear hK K; (try simp only [Act.put, List.setIfInBounds_toArray, List.set_cons_zero, List.set_cons_succ]))))
      | (refine wpAnyH_ready (rs := [3, 5]) (by decide +kernel) (by simp) (AllReadyH.cons (by simp only [List.getElem?_toArray, List.getElem?_cons_zero, List.getElem?_cons_succ]; rfl) (fun K hK => ?_) (AllReadyH.cons (by simp only [List.getElem?_toArray, List.getElem?_cons_zero, List.getElem?_cons_succ]; rfl) (fun K hK => ?_) AllReadyH.nil)); all_goals ((first | fail | (go_simp; (first | (first | ((with_reducible refine (A1.out _).mono ?_); rintro e wA ⟨rfl, hbA⟩; (have HWA : Below Y.heap.size Y wA := by (first | exact bt hHeld hbA | exact bt hHeld (Below.undrew hbA))); (try (clear L0 L1 L2 L3 L4 L5)); (try (first | have FA6 := ((f6_new _ _ false 0 0 false 0 0).below (Below.drew (Below.refl _ _))).below hbA | have FA6 := (f6_new _ _ false 0 0 false 0 0).below hbA))) | ((with_reducible refine (A2.out _).mono ?_); rintro e wB ⟨rfl, hbB⟩; (have HWB : Below Y.heap.size Y wB := by (first | exact bt hHeld hbB | exact bt hHeld (Below.undrew hbB))); (try ((first | have FB6 := FA6.below hbB | have FB6 := FA6.below (Below.undrew hbB) | have FB6 := ((f6_new _ _ false 0 0 false 0 0).below (Below.drew (Below.refl _ _))).below hbB | have FB6 := (f6_new _ _ false 0 0 false 0 0).below hbB); have xB0 := FB6.c0; have xB1 := FB6.c1; have xB2 := FB6.c2; have xB3 := FB6.c3; have xB4 := FB6.c4; have xB5 := FB6.c5; have xBf0 := FB6.f0; have xBf1 := FB6.f1; have xBf2 := FB6.f2; have xBf3 := FB6.f3; have xBf4 := FB6.f4; have xBf5 := FB6.f5; have xBl := FB6.lt)))) | skip))); (refine hK.out _ _ ?_ (fun hHeld => ?_)); (· ((try dsimp only); (first | exact HWB.alloc HWB.size _ | exact Below.drew (HWB.alloc HWB.size _) | exact HWB | exact Below.setCell (Below.setCell (Below.setCell (Below.setCell (Below.setCell (Below.setCell HWB (by first | exact Nat.le_refl _ | exact HWA.size) _) (by first | exact Nat.le_refl _ | exact HWA.size) _) (by first | exact Nat.le_refl _ | exact HWA.size) _) (by first | exact Nat.le_refl _ | exact HWA.size) _) (by first | exact Nat.le_refl _ | exact HWA.size) _) (by first | exact Nat.le_refl _ | exact HWA.size) _ | exact bt hHeld hbB | exact bt hHeld (Below.undrew hbB) | exact bt hHeld hbA | exact bt hHeld (Below.undrew hbA) | exact hHeld.alloc hHeld.size _ | exact Below.drew (hHeld.alloc hHeld.size _) | exact Below.refl _ _ | exact Below.drew (Below.refl _ _) | exact Below.drew hHeld | exact hHeld))); (clear hK K; (try simp only [Act.put, List.setIfInBounds_toArray, List.set_cons_zero, List.set_cons_succ]))))
      | (refine wpAnyH_ready (rs := [1]) (by decide +kernel) (by simp) (AllReadyH.cons (by simp only [List.getElem?_toArray, List.getElem?_cons_zero, List.getElem?_cons_succ]; rfl) (fun K hK => ?_) AllReadyH.nil); all_goals ((first | fail | (go_simp; (first | (first | ((with_reducible refine (A1.out _).mono ?_); rintro e wA ⟨rfl, hbA⟩; (have HWA : Below Y.heap.size Y wA := by (first | exact bt hHeld hbA | exact bt hHeld (Below.undrew hbA))); (try (clear L0 L1 L2 L3 L4 L5)); (try (first | have FA6 := ((f6_new _ _ false 0 0 false 0 0).below (Below.drew (Below.refl _ _))).below hbA | have FA6 := (f6_new _ _ false 0 0 false 0 0).below hbA))) | ((with_reducible refine (A2.out _).mono ?_); rintro e wB ⟨rfl, hbB⟩; (have HWB : Below Y.heap.size Y wB := by (first | exact bt hHeld hbB | exact bt hHeld (Below.undrew hbB))); (try ((first | have FB6 := FA6.below hbB | have FB6 := FA6.below (Below.undrew hbB) | have FB6 := ((f6_new _ _ false 0 0 false 0 0).below (Below.drew (Below.refl _ _))).below hbB | have FB6 := (f6_new _ _ false 0 0 false 0 0).below hbB); have xB0 := FB6.c0; have xB1 := FB6.c1; have xB2 := FB6.c2; have xB3 := FB6.c3; have xB4 := FB6.c4; have xB5 := FB6.c5; have xBf0 := FB6.f0; have xBf1 := FB6.f1; have xBf2 := FB6.f2; have xBf3 := FB6.f3; have xBf4 := FB6.f4; have xBf5 := FB6.f5; have xBl := FB6.lt)))) | skip))); (refine hK.out _ _ ?_ (fun hHeld => ?_)); (· ((try dsimp only); (first | exact HWB.alloc HWB.size _ | exact Below.drew (HWB.alloc HWB.size _) | exact HWB | exact Below.setCell (Below.setCell (Below.setCell (Below.setCell (Below.setCell (Below.setCell HWB (by first | exact Nat.le_refl _ | exact HWA.size) _) (by first | exact Nat.le_refl _ | exact HWA.size) _) (by first | exact Nat.le_refl _ | exact HWA.size) _) (by first | exact Nat.le_refl _ | exact HWA.size) _) (by first | exact Nat.le_refl _ | exact HWA.size) _) (by first | exact Nat.le_refl _ | exact HWA.size) _ | exact bt hHeld hbB | exact bt hHeld (Below.undrew hbB) | exact bt hHeld hbA | exact bt hHeld (Below.undrew hbA) | exact hHeld.alloc hHeld.size _ | exact Below.drew (hHeld.alloc hHeld.size _) | exact Below.refl _ _ | exact Below.drew (Below.refl _ _) | exact Below.drew hHeld | exact hHeld))); (clear hK K; (try simp only [Act.put, List.setIfInBounds_toArray, List.set_cons_zero, List.set_cons_succ]))))
      | (refine wpAnyH_ready (rs := [3]) (by decide +kernel) (by simp) (AllReadyH.cons (by simp only [List.getElem?_toArray, List.getElem?_cons_zero, List.getElem?_cons_succ]; rfl) (fun K hK => ?_) AllReadyH.nil); all_goals ((first | fail | (go_simp; (first | (first | ((with_reducible refine (A1.out _).mono ?_); rintro e wA ⟨rfl, hbA⟩; (have HWA : Below Y.heap.size Y wA := by (first | exact bt hHeld hbA | exact bt hHeld (Below.undrew hbA))); (try (clear L0 L1 L2 L3 L4 L5)); (try (first | have FA6 := ((f6_new _ _ false 0 0 false 0 0).below (Below.drew (Below.refl _ _))).below hbA | have FA6 := (f6_new _ _ false 0 0 false 0 0).below hbA))) | ((with_reducible refine (A2.out _).mono ?_); rintro e wB ⟨rfl, hbB⟩; (have HWB : Below Y.heap.size Y wB := by (first | exact bt hHeld hbB | exact bt hHeld (Below.undrew hbB))); (try ((first | have FB6 := FA6.below hbB | have FB6 := FA6.below (Below.undrew hbB) | have FB6 := ((f6_new _ _ false 0 0 false 0 0).below (Below.drew (Below.refl _ _))).below hbB | have FB6 := (f6_new _ _ false 0 0 false 0 0).below hbB); have xB0 := FB6.c0; have xB1 := FB6.c1; have xB2 := FB6.c2; have xB3 := FB6.c3; have xB4 := FB6.c4; have xB5 := FB6.c5; have xBf0 := FB6.f0; have xBf1 := FB6.f1; have xBf2 := FB6.f2; have xBf3 := FB6.f3; have xBf4 := FB6.f4; have xBf5 := FB6.f5; have xBl := FB6.lt)))) | skip))); (refine hK.out _ _ ?_ (fun hHeld => ?_)); (· ((try dsimp only); (first | exact HWB.alloc HWB.size _ | exact Below.drew (HWB.alloc HWB.size _) | exact HWB | exact Below.setCell (Below.setCell (Below.setCell (Below.setCell (Below.setCell (Below.setCell HWB (by first | exact Nat.le_refl _ | exact HWA.size) _) (by first | exact Nat.le_refl _ | exact HWA.size) _) (by first | exact Nat.le_refl _ | exact HWA.size) _) (by first | exact Nat.le_refl _ | exact HWA.size) _) (by first | exact Nat.le_refl _ | exact HWA.size) _) (by first | exact Nat.le_refl _ | exact HWA.size) _ | exact bt hHeld hbB | exact bt hHeld (Below.undrew hbB) | exact bt hHeld hbA | exact bt hHeld (Below.undrew hbA) | exact hHeld.alloc hHeld.size _ | exact Below.drew (hHeld.alloc hHeld.size _) | exact Below.refl _ _ | exact Below.drew (Below.refl _ _) | exact Below.drew hHeld | exact hHeld))); (clear hK K; (try simp only [Act.put, List.setIfInBounds_toArray, List.set_cons_zero, List.set_cons_succ]))))
      | (refine wpAnyH_ready (rs := [5]) (by decide +kernel) (by simp) (AllReadyH.cons (by simp only [List.getElem?_toArray, List.getElem?_cons_zero, List.getElem?_cons_succ]; rfl) (fun K hK => ?_) AllReadyH.nil); all_goals ((first | fail | (go_simp; (first | (first | ((with_reducible refine (A1.out _).mono ?_); rintro e wA ⟨rfl, hbA⟩; (have HWA : Below Y.heap.size Y wA := by (first | exact bt hHeld hbA | exact bt hHeld (Below.undrew hbA))); (try (clear L0 L1 L2 L3 L4 L5)); (try (first | have FA6 := ((f6_new _ _ false 0 0 false 0 0).below (Below.drew (Below.refl _ _))).below hbA | have FA6 := (f6_new _ _ false 0 0 false 0 0).below hbA))) | ((with_reducible refine (A2.out _).mono ?_); rintro e wB ⟨rfl, hbB⟩; (have HWB : Below Y.heap.size Y wB := by (first | exact bt hHeld hbB | exact bt hHeld (Below.undrew hbB))); (try ((first | have FB6 := FA6.below hbB | have FB6 := FA6.below (Below.undrew hbB) | have FB6 := ((f6_new _ _ false 0 0 false 0 0).below (Below.drew (Below.refl _ _))).below hbB | have FB6 := (f6_new _ _ false 0 0 false 0 0).below hbB); have xB0 := FB6.c0; have xB1 := FB6.c1; have xB2 := FB6.c2; have xB3 := FB6.c3; have xB4 := FB6.c4; have xB5 := FB6.c5; have xBf0 := FB6.f0; have xBf1 := FB6.f1; have xBf2 := FB6.f2; have xBf3 := FB6.f3; have xBf4 := FB6.f4; have xBf5 := FB6.f5; have xBl := FB6.lt)))) | skip))); (refine hK.out _ _ ?_ (fun hHeld => ?_)); (· ((try dsimp only); (first | exact HWB.alloc HWB.size _ | exact Below.drew (HWB.alloc HWB.size _) | exact HWB | exact Below.setCell (Below.setCell (Below.setCell (Below.setCell (Below.setCell (Below.setCell HWB (by first | exact Nat.le_refl _ | exact HWA.size) _) (by first | exact Nat.le_refl _ | exact HWA.size) _) (by first | exact Nat.le_refl _ | exact HWA.size) _) (by first | exact Nat.le_refl _ | exact HWA.size) _) (by first | exact Nat.le_refl _ | exact HWA.size) _) (by first | exact Nat.le_refl _ | exact HWA.size) _ | exact bt hHeld hbB | exact bt hHeld (Below.undrew hbB) | exact bt hHeld hbA | exact bt hHeld (Below.undrew hbA) | exact hHeld.alloc hHeld.size _ | exact Below.drew (hHeld.alloc hHeld.size _) | exact Below.refl _ _ | exact Below.drew (Below.refl _ _) | exact Below.drew hHeld | exact hHeld))); (clear hK K; (try simp only [Act.put, List.setIfInBounds_toArray, List.set_cons_zero, List.set_cons_succ]))))
      | (refine wpAnyH_done (by decide +kernel) ?_ _)
      | fail)
    all_goals (refine wpAnyH_ready (rs := [6]) (by decide +kernel) (by simp) (AllReadyH.cons (by simp only [List.getElem?_toArray, List.getElem?_cons_zero, List.getElem?_cons_succ]; rfl) (fun K hK => ?_) AllReadyH.nil))
    · go_simp
      refine hK.out _ _ ?_ (fun hHeld2 => ?_)
      · exact HWB.alloc HWB.size _
      · clear hK K
        try simp only [Act.put, List.setIfInBounds_toArray, List.set_cons_zero, List.set_cons_succ]
        refine wpAnyH_done (by decide +kernel) ?_ _
        go_wp2_with fail
        go_meet
        exact ⟨_, rfl, Lib.hid (f6_new _ _ _ _ _ _ _ _), Lib.hid (HWB.alloc HWB.size _)⟩
    · go_simp
      refine hK.out _ _ ?_ (fun hHeld2 => ?_)
      · exact six_below HWB HWA.size _ _ _ _ _ _
      · clear hK K
        try simp only [Act.put, List.setIfInBounds_toArray, List.set_cons_zero, List.set_cons_succ]
        refine wpAnyH_done (by decide +kernel) ?_ _
        go_wp2_with fail
        go_meet
        exact ⟨_, rfl, Lib.hid (F6.set FB6 _ _ _ _ _ _), Lib.hid (six_below HWB HWA.size _ _ _ _ _ _)⟩
    · go_simp
      refine hK.out _ _ ?_ (fun hHeld2 => ?_)
      · exact six_below HWB (Nat.le_refl _) _ _ _ _ _ _
      · clear hK K
        try simp only [Act.put, List.setIfInBounds_toArray, List.set_cons_zero, List.set_cons_succ]
        refine wpAnyH_done (by decide +kernel) ?_ _
        go_wp2_with fail
        go_meet
        exact ⟨_, rfl, Lib.hid (F6.set FB6 _ _ _ _ _ _), Lib.hid (six_below HWB (Nat.le_refl _) _ _ _ _ _ _)⟩
  case rest =>
    clear L0 L1 L2 L3 L4 L5
    obtain ⟨b, rfl, HF, HBX⟩ := hcut
    obtain ⟨wx, rfl⟩ : ∃ x, x = wc := ⟨_, rfl⟩
    have HXW := Lib.hid (HXY.out.sl.below HBX.out)
    have HOW := Lib.hid (HOY.out.sl.below HBX.out)
    have HBW := Lib.hid (bt HBY.out HBX.out)
    have HBK := Lib.hid (show BuckOk X by rw [HXD.out]; exact dealt_buck HOKA.out n1 n2)
    have HV1 := Lib.hid V1
    have HV2 := Lib.hid V2
    obtain ⟨pk, hpk⟩ : ∃ p, p = pickN X six N1 N2 := ⟨_, rfl⟩
    have HPK := Lib.hid hpk
    clear V1 V2 HXY HOY HBX HBY hpk lpy A1 A2
    have L0 : ∀ w', Below wx.heap.size wx w' → w'.cell? ⟨b, 0, none⟩ = some (.bool six) := fun w' hb => (hb.cell (p := ⟨b, 0, none⟩) HF.out.lt).trans HF.out.c0
    have L1 : ∀ w', Below wx.heap.size wx w' → w'.cell? ⟨b, 1, none⟩ = some (.int .u64 (hiOf six N1)) := fun w' hb => (hb.cell (p := ⟨b, 1, none⟩) HF.out.lt).trans HF.out.c1
    have L2 : ∀ w', Below wx.heap.size wx w' → w'.cell? ⟨b, 2, none⟩ = some (.int .u64 (loOf N1)) := fun w' hb => (hb.cell (p := ⟨b, 2, none⟩) HF.out.lt).trans HF.out.c2
    have L3 : ∀ w', Below wx.heap.size wx w' → w'.cell? ⟨b, 3, none⟩ = some (.bool six) := fun w' hb => (hb.cell (p := ⟨b, 3, none⟩) HF.out.lt).trans HF.out.c3
    have L4 : ∀ w', Below wx.heap.size wx w' → w'.cell? ⟨b, 4, none⟩ = some (.int .u64 (hiOf six N2)) := fun w' hb => (hb.cell (p := ⟨b, 4, none⟩) HF.out.lt).trans HF.out.c4
    have L5 : ∀ w', Below wx.heap.size wx w' → w'.cell? ⟨b, 5, none⟩ = some (.int .u64 (loOf N2)) := fun w' hb => (hb.cell (p := ⟨b, 5, none⟩) HF.out.lt).trans HF.out.c5
    go_upto_region 6 with fail
    go_cut [14, 15] (fun v1 v2 wy => v1 = .int .i64 (pk : Nat) ∧ v2 = .int .i64 0 ∧ Hid (Below wx.heap.size wx wy))
    case first =>
      refine wp_region_held_drew (S := (fun w' => Below wx.heap.size wx w')) (by kernel_rfl) ?rwS2 (fun hHeld => ?rwR2)
      case rwS2 => ((try dsimp only); (first | exact bt hHeld hbA | exact bt hHeld (Below.undrew hbA) | exact bt hHeld hbD | exact bt hHeld (Below.undrew hbD) | exact Below.refl _ _ | exact Below.drew (Below.refl _ _) | exact Below.drew hHeld | exact hHeld))
      (refine wpAnyH_take (i := 0) (oi := _) (v := ?_) (by simp only [List.getElem?_toArray, List.getElem?_cons_zero, List.getElem?_cons_succ]; rfl) (by kernel_rfl) (by decide +kernel) (by decide +kernel) (by exact fun _ _ _ h => h) (Or.inl ⟨by rfl, ?_⟩) (by assumption) ?_; rotate_left; (· ((intro w hSw); (try dsimp only at hSw); go_simp; (try with_reducible rfl))); (try simp only [Act.put, List.setIfInBounds_toArray, List.set_cons_zero, List.set_cons_succ]))
      (refine wpAnyH_take (i := 2) (oi := _) (v := ?_) (by simp only [List.getElem?_toArray, List.getElem?_cons_zero, List.getElem?_cons_succ]; rfl) (by kernel_rfl) (by decide +kernel) (by decide +kernel) (by exact fun _ _ _ h => h) (Or.inl ⟨by rfl, ?_⟩) (by assumption) ?_; rotate_left; (· ((intro w hSw); (try dsimp only at hSw); go_simp; (try with_reducible rfl))); (try simp only [Act.put, List.setIfInBounds_toArray, List.set_cons_zero, List.set_cons_succ]))
      repeat' (first
        | (refine wpAnyH_take (i := 4) (oi := _) (v := ?_) (by simp only [List.getElem?_toArray, List.getElem?_cons_zero, List.getElem?_cons_succ]; rfl) (by kernel_rfl) (by decide +kernel) (by decide +kernel) (by exact fun _ _ _ h => h) (Or.inl ⟨by rfl, ?_⟩) (by assumption) ?_; rotate_left; (· ((intro w hSw); (try dsimp only at hSw); go_simp; (try with_reducible rfl))); (try simp only [Act.put, List.setIfInBounds_toArray, List.set_cons_zero, List.set_cons_succ]))
        | (refine wpAnyH_take (i := 5) (oi := _) (v := ?_) (by simp only [List.getElem?_toArray, List.getElem?_cons_zero, List.getElem?_cons_succ]; rfl) (by kernel_rfl) (by decide +kernel) (by decide +kernel) (by exact fun _ _ _ h => h) (Or.inl ⟨by rfl, ?_⟩) (by assumption) ?_; rotate_left; (· ((intro w hSw); (try dsimp only at hSw); go_simp; (try with_reducible rfl))); (try simp only [Act.put, List.setIfInBounds_toArray, List.set_cons_zero, List.set_cons_succ]))
        | (refine wpAnyH_take (i := 6) (oi := _) (v := ?_) (by simp only [List.getElem?_toArray, List.getElem?_cons_zero, List.getElem?_cons_succ]; rfl) (by kernel_rfl) (by decide +kernel) (by decide +kernel) (by exact fun _ _ _ h => h) (Or.inl ⟨by rfl, ?_⟩) (by assumption) ?_; rotate_left; (· ((intro w hSw); (try dsimp only at hSw); go_simp; (try with_reducible rfl))); (try simp only [Act.put, List.setIfInBounds_toArray, List.set_cons_zero, List.set_cons_succ]))
        | (refine wpAnyH_take (i := 7) (oi := _) (v := ?_) (by simp only [List.getElem?_toArray, List.getElem?_cons_zero, List.getElem?_cons_succ]; rfl) (by kernel_rfl) (by decide +kernel) (by decide +kernel) (by exact fun _ _ _ h => h) (Or.inl ⟨by rfl, ?_⟩) (by assumption) ?_; rotate_left; (· ((intro w hSw); (try dsimp only at hSw); go_simp; (try with_reducible rfl))); (try simp only [Act.put, List.setIfInBounds_toArray, List.set_cons_zero, List.set_cons_succ]))
        | (refine wpAnyH_take (i := 8) (oi := _) (v := ?_) (by simp only [List.getElem?_toArray, List.getElem?_cons_zero, List.getElem?_cons_succ]; rfl) (by kernel_rfl) (by decide +kernel) (by decide +kernel) (by exact fun _ _ _ h => h) (Or.inl ⟨by rfl, ?_⟩) (by assumption) ?_; rotate_left; (· ((intro w hSw); (try dsimp only at hSw); go_simp; (try with_reducible rfl))); (try simp only [Act.put, List.setIfInBounds_toArray, List.set_cons_zero, List.set_cons_succ]))
        | (refine wpAnyH_ready (rs := [1]) (by decide +kernel) (by simp) (AllReadyH.cons (by simp only [List.getElem?_toArray, List.getElem?_cons_zero, List.getElem?_cons_succ]; rfl) (fun K hK => ?_) AllReadyH.nil); all_goals ((first | (refine step_append_any rfl (.const (.slice none 0 0)) (.tmp 40) 44 3 1 8 _ rfl eiNat _ (.slice none 0 0) [] rfl (Wk.Own.nil _ _ _ _) (.slice ax n cx) (X.map nC) rfl (by first | exact HXW.out | exact HXW.out.below (Below.drew (Below.refl _ _)) | exact HXW.out.below hHeld) (by intro c hc; obtain ⟨r, _, rfl⟩ := List.mem_map.1 hc; exact nC_one r) (by have := HXL.out; simp; omega) (by decide) (Nat.le_refl _) ?_; intro vA wA hownA hbA; obtain ⟨aA, cA, hshA⟩ := hownA.shape; subst hshA) | (go_simp; (first | (refine (pick_any aA cA _ X six N1 N2 _ (by simp) (by first | simpa using hownA.sl | simpa using hownA.sl.below (Below.drew (Below.refl _ _))) HBK.out HV1.out HV2.out).mono ?_; rintro e wD ⟨rfl, hbD⟩) | skip))); (refine hK.out _ _ ?_ (fun hHeld => ?_)); (· ((try dsimp only); (first | exact bt hHeld hbA | exact bt hHeld (Below.undrew hbA) | exact bt hHeld hbD | exact bt hHeld (Below.undrew hbD) | exact Below.refl _ _ | exact Below.drew (Below.refl _ _) | exact Below.drew hHeld | exact hHeld))); (clear hK K; (try simp only [Act.put, List.setIfInBounds_toArray, List.set_cons_zero, List.set_cons_succ]))))
        | (refine wpAnyH_ready (rs := [3]) (by decide +kernel) (by simp) (AllReadyH.cons (by simp only [List.getElem?_toArray, List.getElem?_cons_zero, List.getElem?_cons_succ]; rfl) (fun K hK => ?_) AllReadyH.nil); all_goals ((first | (refine step_append_any rfl (.const (.slice none 0 0)) (.tmp 40) 44 3 1 8 _ rfl eiNat _ (.slice none 0 0) [] rfl (Wk.Own.nil _ _ _ _) (.slice ax n cx) (X.map nC) rfl (by first | exact HXW.out | exact HXW.out.below (Below.drew (Below.refl _ _)) | exact HXW.out.below hHeld) (by intro c hc; obtain ⟨r, _, rfl⟩ := List.mem_map.1 hc; exact nC_one r) (by have := HXL.out; simp; omega) (by decide) (Nat.le_refl _) ?_; intro vA wA hownA hbA; obtain ⟨aA, cA, hshA⟩ := hownA.shape; subst hshA) | (go_simp; (first | (refine (pick_any aA cA _ X six N1 N2 _ (by simp) (by first | simpa using hownA.sl | simpa using hownA.sl.below (Below.drew (Below.refl _ _))) HBK.out HV1.out HV2.out).mono ?_; rintro e wD ⟨rfl, hbD⟩) | skip))); (refine hK.out _ _ ?_ (fun hHeld => ?_)); (· ((try dsimp only); (first | exact bt hHeld hbA | exact bt hHeld (Below.undrew hbA) | exact bt hHeld hbD | exact bt hHeld (Below.undrew hbD) | exact Below.refl _ _ | exact Below.drew (Below.refl _ _) | exact Below.drew hHeld | exact hHeld))); (clear hK K; (try simp only [Act.put, List.setIfInBounds_toArray, List.set_cons_zero, List.set_cons_succ]))))
        | (refine wpAnyH_done (by decide +kernel) ?_ _)
        | fail)
      all_goals (try rw [← HPK.out])
      all_goals go_wp2_with fail
      all_goals go_meet
      all_goals exact ⟨rfl, rfl, Lib.hid hHeld⟩
    case rest =>
      clear L0 L1 L2 L3 L4 L5
      obtain ⟨rfl, rfl, HBZ⟩ := hcut
      obtain ⟨wy, rfl⟩ : ∃ x, x = wc := ⟨_, rfl⟩
      have HF2 := Lib.hid (HF.out.below HBZ.out)
      have HXW2 := Lib.hid (HXW.out.below HBZ.out)
      have HOW2 := Lib.hid (HOW.out.below HBZ.out)
      have HBW2 := Lib.hid (bt HBW.out HBZ.out)
      clear HXW HOW HBW HBZ HF
      have HF := HF2
      have HXW := HXW2
      clear HF2 HXW2
      have L0 : ∀ w', Below wy.heap.size wy w' → w'.cell? ⟨b, 0, none⟩ = some (.bool six) := fun w' hb => (hb.cell (p := ⟨b, 0, none⟩) HF.out.lt).trans HF.out.c0
      have L1 : ∀ w', Below wy.heap.size wy w' → w'.cell? ⟨b, 1, none⟩ = some (.int .u64 (hiOf six N1)) := fun w' hb => (hb.cell (p := ⟨b, 1, none⟩) HF.out.lt).trans HF.out.c1
      have L2 : ∀ w', Below wy.heap.size wy w' → w'.cell? ⟨b, 2, none⟩ = some (.int .u64 (loOf N1)) := fun w' hb => (hb.cell (p := ⟨b, 2, none⟩) HF.out.lt).trans HF.out.c2
      have L3 : ∀ w', Below wy.heap.size wy w' → w'.cell? ⟨b, 3, none⟩ = some (.bool six) := fun w' hb => (hb.cell (p := ⟨b, 3, none⟩) HF.out.lt).trans HF.out.c3
      have L4 : ∀ w', Below wy.heap.size wy w' → w'.cell? ⟨b, 4, none⟩ = some (.int .u64 (hiOf six N2)) := fun w' hb => (hb.cell (p := ⟨b, 4, none⟩) HF.out.lt).trans HF.out.c4
      have L5 : ∀ w', Below wy.heap.size wy w' → w'.cell? ⟨b, 5, none⟩ = some (.int .u64 (loOf N2)) := fun w' hb => (hb.cell (p := ⟨b, 5, none⟩) HF.out.lt).trans HF.out.c5
      go_upto_region 7 with fail
      go_cut [16, 17] (fun v1 v2 wz => v1 = .int .i64 (pk : Nat) ∧ v2 = .int .i64 0 ∧ Hid (Below wy.heap.size wy wz))
      case first =>
        refine wp_region_held_drew (S := (fun w' => Below wy.heap.size wy w')) (by kernel_rfl) ?rwS3 (fun hHeld => ?rwR3)
        case rwS3 => ((try dsimp only); (first | exact bt hHeld hbA | exact bt hHeld (Below.undrew hbA) | exact bt hHeld hbD | exact bt hHeld (Below.undrew hbD) | exact Below.refl _ _ | exact Below.drew (Below.refl _ _) | exact Below.drew hHeld | exact hHeld))
        (refine wpAnyH_take (i := 0) (oi := _) (v := ?_) (by simp only [List.getElem?_toArray, List.getElem?_cons_zero, List.getElem?_cons_succ]; rfl) (by kernel_rfl) (by decide +kernel) (by decide +kernel) (by exact fun _ _ _ h => h) (Or.inl ⟨by rfl, ?_⟩) (by assumption) ?_; rotate_left; (· ((intro w hSw); (try dsimp only at hSw); go_simp; (try with_reducible rfl))); (try simp only [Act.put, List.setIfInBounds_toArray, List.set_cons_zero, List.set_cons_succ]))
        (refine wpAnyH_take (i := 2) (oi := _) (v := ?_) (by simp only [List.getElem?_toArray, List.getElem?_cons_zero, List.getElem?_cons_succ]; rfl) (by kernel_rfl) (by decide +kernel) (by decide +kernel) (by exact fun _ _ _ h => h) (Or.inl ⟨by rfl, ?_⟩) (by assumption) ?_; rotate_left; (· ((intro w hSw); (try dsimp only at hSw); go_simp; (try with_reducible rfl))); (try simp only [Act.put, List.setIfInBounds_toArray, List.set_cons_zero, List.set_cons_succ]))
        repeat' (first
          | (refine wpAnyH_take (i := 4) (oi := _) (v := ?_) (by simp only [List.getElem?_toArray, List.getElem?_cons_zero, List.getElem?_cons_succ]; rfl) (by kernel_rfl) (by decide +kernel) (by decide +kernel) (by exact fun _ _ _ h => h) (Or.inl ⟨by rfl, ?_⟩) (by assumption) ?_; rotate_left; (· ((intro w hSw); (try dsimp only at hSw); go_simp; (try with_reducible rfl))); (try simp only [Act.put, List.setIfInBounds_toArray, List.set_cons_zero, List.set_cons_succ]))
          | (refine wpAnyH_take (i := 5) (oi := _) (v := ?_) (by simp only [List.getElem?_toArray, List.getElem?_cons_zero, List.getElem?_cons_succ]; rfl) (by kernel_rfl) (by decide +kernel) (by decide +kernel) (by exact fun _ _ _ h => h) (Or.inl ⟨by rfl, ?_⟩) (by assumption) ?_; rotate_left; (· ((intro w hSw); (try dsimp only at hSw); go_simp; (try with_reducible rfl))); (try simp only [Act.put, List.setIfInBounds_toArray, List.set_cons_zero, List.set_cons_succ]))
          | (refine wpAnyH_take (i := 6) (oi := _) (v := ?_) (by simp only [List.getElem?_toArray, List.getElem?_cons_zero, List.getElem?_cons_succ]; rfl) (by kernel_rfl) (by decide +kernel) (by decide +kernel) (by exact fun _ _ _ h => h) (Or.inl ⟨by rfl, ?_⟩) (by assumption) ?_; rotate_left; (· ((intro w hSw); (try dsimp only at hSw); go_simp; (try with_reducible rfl))); (try simp only [Act.put, List.setIfInBounds_toArray, List.set_cons_zero, List.set_cons_succ]))
          | (refine wpAnyH_take (i := 7) (oi := _) (v := ?_) (by simp only [List.getElem?_toArray, List.getElem?_cons_zero, List.getElem?_cons_succ]; rfl) (by kernel_rfl) (by decide +kernel) (by decide +kernel) (by exact fun _ _ _ h => h) (Or.inl ⟨by rfl, ?_⟩) (by assumption) ?_; rotate_left; (· ((intro w hSw); (try dsimp only at hSw); go_simp; (try with_reducible rfl))); (try simp only [Act.put, List.setIfInBounds_toArray, List.set_cons_zero, List.set_cons_succ]))
          | (refine wpAnyH_take (i := 8) (oi := _) (v := ?_) (by simp only [List.getElem?_toArray, List.getElem?_cons_zero, List.getElem?_cons_succ]; rfl) (by kernel_rfl) (by decide +kernel) (by decide +kernel) (by exact fun _ _ _ h => h) (Or.inl ⟨by rfl, ?_⟩) (by assumption) ?_; rotate_left; (· ((intro w hSw); (try dsimp only at hSw); go_simp; (try with_reducible rfl))); (try simp only [Act.put, List.setIfInBounds_toArray, List.set_cons_zero, List.set_cons_succ]))
          | (refine wpAnyH_ready (rs := [1]) (by decide +kernel) (by simp) (AllReadyH.cons (by simp only [List.getElem?_toArray, List.getElem?_cons_zero, List.getElem?_cons_succ]; rfl) (fun K hK => ?_) AllReadyH.nil); all_goals ((first | (refine step_append_any rfl (.const (.slice none 0 0)) (.tmp 47) 44 3 1 8 _ rfl eiNat _ (.slice none 0 0) [] rfl (Wk.Own.nil _ _ _ _) (.slice ax n cx) (X.map nC) rfl (by first | exact HXW.out | exact HXW.out.below (Below.drew (Below.refl _ _)) | exact HXW.out.below hHeld) (by intro c hc; obtain ⟨r, _, rfl⟩ := List.mem_map.1 hc; exact nC_one r) (by have := HXL.out; simp; omega) (by decide) (Nat.le_refl _) ?_; intro vA wA hownA hbA; obtain ⟨aA, cA, hshA⟩ := hownA.shape; subst hshA) | (go_simp; (first | (refine (pick_any aA cA _ X six N1 N2 _ (by simp) (by first | simpa using hownA.sl | simpa using hownA.sl.below (Below.drew (Below.refl _ _))) HBK.out HV1.out HV2.out).mono ?_; rintro e wD ⟨rfl, hbD⟩) | skip))); (refine hK.out _ _ ?_ (fun hHeld => ?_)); (· ((try dsimp only); (first | exact bt hHeld hbA | exact bt hHeld (Below.undrew hbA) | exact bt hHeld hbD | exact bt hHeld (Below.undrew hbD) | exact Below.refl _ _ | exact Below.drew (Below.refl _ _) | exact Below.drew hHeld | exact hHeld))); (clear hK K; (try simp only [Act.put, List.setIfInBounds_toArray, List.set_cons_zero, List.set_cons_succ]))))
          | (refine wpAnyH_ready (rs := [3]) (by decide +kernel) (by simp) (AllReadyH.cons (by simp only [List.getElem?_toArray, List.getElem?_cons_zero, List.getElem?_cons_succ]; rfl) (fun K hK => ?_) AllReadyH.nil); all_goals ((first | (refine step_append_any rfl (.const (.slice none 0 0)) (.tmp 47) 44 3 1 8 _ rfl eiNat _ (.slice none 0 0) [] rfl (Wk.Own.nil _ _ _ _) (.slice ax n cx) (X.map nC) rfl (by first | exact HXW.out | exact HXW.out.below (Below.drew (Below.refl _ _)) | exact HXW.out.below hHeld) (by intro c hc; obtain ⟨r, _, rfl⟩ := List.mem_map.1 hc; exact nC_one r) (by have := HXL.out; simp; omega) (by decide) (Nat.le_refl _) ?_; intro vA wA hownA hbA; obtain ⟨aA, cA, hshA⟩ := hownA.shape; subst hshA) | (go_simp; (first | (refine (pick_any aA cA _ X six N1 N2 _ (by simp) (by first | simpa using hownA.sl | simpa using hownA.sl.below (Below.drew (Below.refl _ _))) HBK.out HV1.out HV2.out).mono ?_; rintro e wD ⟨rfl, hbD⟩) | skip))); (refine hK.out _ _ ?_ (fun hHeld => ?_)); (· ((try dsimp only); (first | exact bt hHeld hbA | exact bt hHeld (Below.undrew hbA) | exact bt hHeld hbD | exact bt hHeld (Below.undrew hbD) | exact Below.refl _ _ | exact Below.drew (Below.refl _ _) | exact Below.drew hHeld | exact hHeld))); (clear hK K; (try simp only [Act.put, List.setIfInBounds_toArray, List.set_cons_zero, List.set_cons_succ]))))
          | (refine wpAnyH_done (by decide +kernel) ?_ _)
          | fail)
        all_goals (try rw [← HPK.out])
        all_goals go_wp2_with fail
        all_goals go_meet
        all_goals exact ⟨rfl, rfl, Lib.hid hHeld⟩
      case rest =>
        clear L0 L1 L2 L3 L4 L5
        obtain ⟨rfl, rfl, HBZ⟩ := hcut
        obtain ⟨wz, rfl⟩ : ∃ x, x = wc := ⟨_, rfl⟩
        have HO3 := Lib.hid (HOW2.out.below HBZ.out)
        have HB3 := Lib.hid (bt HBW2.out HBZ.out)
        have hmem : pk ∈ sa.map (·.1) := by
          have h1 := pick_mem (xs := X) HBK.out.one six N1 N2
          rw [← HPK.out, HXD.out] at h1
          exact deal_mem _ _ _ h1
        have HMEM := Lib.hid hmem
        clear HOW2 HBW2 HBZ HXW HF hmem
        go_wp2_with fail
        go_loopw [18, 19] (fun f i wr => ∃ (q : Nat) (fb : Bool), q ≤ sa.length ∧ i = .int .i64 q ∧ f = .bool fb ∧ Hid ((∃ j, j < q ∧ (sa.map (·.1)).getD j 0 = pk) → fb = true) ∧ wr = wz) (fun _ i _ => sa.length - (intOf i).toNat)
        case atStart => exact ⟨0, false, Nat.zero_le _, by go_num, rfl, fun ⟨j, hj, _⟩ => absurd hj (Nat.not_lt_zero _), rfl⟩
        case round =>
          obtain ⟨q, fb, hq, rfl, rfl, HFB, rfl⟩ := hrel
          by_cases hlt : q < sa.length
          · obtain ⟨y, hy⟩ : ∃ y, sa[q]? = some y := ⟨_, List.getElem?_eq_getElem hlt⟩
            obtain ⟨bb, ob, rfl, hbb, d0, _⟩ := Sl.share HO3.out (Below.refl _ _) hy
            have ey : (sa.map (·.1)).getD q 0 = y.1 := by rw [List.getD_eq_getElem?_getD, List.getElem?_map, hy]; rfl
            have HEY := Lib.hid ey
            clear hy ey
            cases fb with
            | true =>
              go_wp2_with fail
              go_roundw
              case rel => exact ⟨q + 1, true, hlt, by go_num, rfl, fun _ => rfl, by first | rfl | trivial⟩
              case measure => simp [intOf]; omega
            | false =>
              by_cases hyp : y.1 = pk
              · subst hyp
                go_wp2_with fail
                go_roundw
                case rel => exact ⟨q + 1, true, hlt, by go_num, by first | rfl | simp, fun _ => rfl, by first | rfl | trivial⟩
                case measure => simp [intOf]; omega
              · have g2 : ((y.1 : Int) == (pk : Int)) = false := by rw [beq_eq_false_iff_ne]; exact fun e => hyp (Int.ofNat.inj e)
                have g3 : ¬ (y.1 : Int) = (pk : Int) := fun e => hyp (Int.ofNat.inj e)
                have HYP := Lib.hid hyp
                clear hyp
                go_wp2_with fail
                go_roundw
                case rel =>
                  refine ⟨q + 1, false, hlt, by go_num, by first | rfl | simp [g2, g3], fun h => ?_, by first | rfl | trivial⟩
                  obtain ⟨j, hj, he⟩ := h
                  rcases Nat.lt_or_ge j q with h' | h'
                  · exact HFB.out ⟨j, h', he⟩
                  · obtain rfl : j = q := by omega
                    rw [HEY.out] at he
                    exact absurd he HYP.out
                case measure => simp [intOf]; omega
          · obtain rfl : q = sa.length := by omega
            have hft : fb = true := HFB.out (by
              obtain ⟨j, hj, he⟩ := List.getElem_of_mem HMEM.out
              exact ⟨j, by simpa using hj, by rw [getD_eq hj, he]⟩)
            subst hft
            go_wp2_with fail
            go_returns
            exact ⟨by first | rfl | simp, HB3.out⟩
end Go.Proofs.Yticfcigkldkhmaa
