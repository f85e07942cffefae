
/- Package stride: contract of put. -/
import Derived.Test.YtoecmoicaklbaaaDoorSt1
set_option linter.unusedVariables false
set_option linter.unusedSimpArgs false
namespace Go.Proofs.YtoecmoicaklbaaaDoor
open Go Go.RowKit Go.Sort Wc Wk

/-- What a put comes to. -/
def PutSays (w : World) (B : Nat) (M : Nat → Nat → Option Nat) (H : Nat → Nat → Nat → Nat) (n k h j : Nat) (e : Ending) (w' : World) : Prop :=
  e = .returned (.tuple #[]) ∧ ∃ M', DrOk w' B M' (setH H (k / 4) (tp n (4 * (k / 4))) (innN n k) h) ∧ PutM M M' n k j ∧ Below B w w'

set_option maxRecDepth 100000 in
set_option maxHeartbeats 2000000 in
theorem put_here (B j b n k h : Nat) (M : Nat → Nat → Option Nat) (H : Nat → Nat → Nat → Nat) (w : World) (hv : VP false n k) (hj : k / 4 = j) (hd : DrOk w B M H) (hb : M j (tp n (4 * j)) = some b) :
    Calls Tryd.prog 49 #[.pointer (some ⟨b, 0, none⟩), .agg #[.bool false, .int .u64 (hiOf false n), .int .u64 (loOf n), .int .i64 k, .int .i64 h], .int .i64 j] w (PutSays w B M H n k h j) := by
  have hk : k ≤ 32 := hv.2.1
  have hx := hd.rx _ _ _ hb
  have hBb := hd.ge _ _ _ hb
  have hi := inn_lt n k
  have IN := Lib.hid (fun w => inner_any n k j w hv hj)
  have HD := Lib.hid hd
  have HB := Lib.hid hb
  have HJ := Lib.hid hj
  have hbl := hx.lt
  have hi1 := hi.1
  have hi2 := hi.2
  have hi3 : ((innN n k : Nat) : Int) < 16 := by omega
  have HX := Lib.hid hx
  have hkj : k < 4 * j + 4 := by omega
  have hki : (k : Int) < 4 * (j : Int) + 4 := by omega
  have hj8 : j ≤ 8 := by omega
  have ew0 : IntKind.i64.wrap (4 * (j : Int)) = 4 * (j : Int) := IntWalk.i64_in _ (by omega)
  have ew1 : IntKind.i64.wrap (4 * (j : Int) + 4) = 4 * (j : Int) + 4 := IntWalk.i64_in _ (by omega)
  clear hv hj hd hx hb
  go_enter Tryd.func49, Tryd.ntmps49
  go_wp2_with fail
  obtain ⟨Z, hZ⟩ : ∃ Z, Z = w.alloc (.cells #[.bool false, .int .u64 (hiOf false n), .int .u64 (loOf n), .int .i64 k, .int .i64 h] 41) := ⟨_, rfl⟩
  have g0 : Z.cell? ⟨w.heap.size, 0, none⟩ = some (.bool false) := by rw [hZ]; simp
  have g1 : Z.cell? ⟨w.heap.size, 1, none⟩ = some (.int .u64 (hiOf false n)) := by rw [hZ]; simp
  have g2 : Z.cell? ⟨w.heap.size, 2, none⟩ = some (.int .u64 (loOf n)) := by rw [hZ]; simp
  have g3 : Z.cell? ⟨w.heap.size, 3, none⟩ = some (.int .i64 k) := by rw [hZ]; simp
  have g4 : Z.cell? ⟨w.heap.size, 4, none⟩ = some (.int .i64 h) := by rw [hZ]; simp
  have gl : w.heap.size < Z.heap.size := by rw [hZ]; simp
  have hwZ : Below w.heap.size w Z := by rw [hZ]; exact (Below.refl _ _).alloc (Nat.le_refl _) _
  rw [← hZ]
  have HDZ := Lib.hid (HD.out.below hwZ)
  have HXZ := Lib.hid (HX.out.below hwZ)
  have HWZ := Lib.hid (hwZ.mono (show B ≤ w.heap.size by omega))
  obtain ⟨P, hP⟩ : ∃ P, P = w.heap.size := ⟨_, rfl⟩
  rw [← hP] at g0 g1 g2 g3 g4 gl hbl ⊢
  have hbP : b ≠ P := by omega
  clear hZ hP hwZ HD HX
  refine wp_region_held_drew (S := (fun w' => w'.cell? ⟨P, 0, none⟩ = some (.bool false) ∧ w'.cell? ⟨P, 1, none⟩ = some (.int .u64 (hiOf false n)) ∧ w'.cell? ⟨P, 2, none⟩ = some (.int .u64 (loOf n)) ∧ w'.cell? ⟨P, 3, none⟩ = some (.int .i64 k) ∧ w'.cell? ⟨P, 4, none⟩ = some (.int .i64 h))) (by kernel_rfl) ?_ (fun hHeld => ?_)
  · ((try dsimp only); (first | (first | (go_simp; done) | (simp [*, go_sem, World.cell?_alloc_past]; done) | (simp [*, go_sem, World.cell?_alloc_past, World.cell?_setCell_far]; done)) | exact ⟨(hb1.cell (p := ⟨P, 0, none⟩) (by first | omega | (simp; omega))).trans hHeld.1, (hb1.cell (p := ⟨P, 1, none⟩) (by first | omega | (simp; omega))).trans hHeld.2.1, (hb1.cell (p := ⟨P, 2, none⟩) (by first | omega | (simp; omega))).trans hHeld.2.2.1, (hb1.cell (p := ⟨P, 3, none⟩) (by first | omega | (simp; omega))).trans hHeld.2.2.2.1, (hb1.cell (p := ⟨P, 4, none⟩) (by first | omega | (simp; omega))).trans hHeld.2.2.2.2⟩ | trivial))
  (refine wpAnyH_take (i := 0) (oi := _) (v := ?_) (by simp only [List.getElem?_toArray, List.getElem?_cons_zero, List.getElem?_cons_succ]; rfl) (by kernel_rfl) (by decide +kernel) (by decide +kernel) (by exact fun _ _ _ h => h) (Or.inl ⟨by rfl, ?_⟩) (by assumption) ?_; rotate_left; (· ((intro w hSw); (try dsimp only at hSw); go_simp; (try with_reducible rfl))); (try simp only [Act.put, List.setIfInBounds_toArray, List.set_cons_zero, List.set_cons_succ]))
  (refine wpAnyH_take (i := 1) (oi := _) (v := ?_) (by simp only [List.getElem?_toArray, List.getElem?_cons_zero, List.getElem?_cons_succ]; rfl) (by kernel_rfl) (by decide +kernel) (by decide +kernel) (by exact fun _ _ _ h => h) (Or.inl ⟨by rfl, ?_⟩) (by assumption) ?_; rotate_left; (· ((intro w hSw); (try dsimp only at hSw); go_simp; (try with_reducible rfl))); (try simp only [Act.put, List.setIfInBounds_toArray, List.set_cons_zero, List.set_cons_succ]))
  (refine wpAnyH_take (i := 2) (oi := _) (v := ?_) (by simp only [List.getElem?_toArray, List.getElem?_cons_zero, List.getElem?_cons_succ]; rfl) (by kernel_rfl) (by decide +kernel) (by decide +kernel) (by exact fun _ _ _ h => h) (Or.inl ⟨by rfl, ?_⟩) (by assumption) ?_; rotate_left; (· ((intro w hSw); (try dsimp only at hSw); go_simp; (try with_reducible rfl))); (try simp only [Act.put, List.setIfInBounds_toArray, List.set_cons_zero, List.set_cons_succ]))
  (refine wpAnyH_take (i := 3) (oi := _) (v := ?_) (by simp only [List.getElem?_toArray, List.getElem?_cons_zero, List.getElem?_cons_succ]; rfl) (by kernel_rfl) (by decide +kernel) (by decide +kernel) (by exact fun _ _ _ h => h) (Or.inl ⟨by rfl, ?_⟩) (by assumption) ?_; rotate_left; (· ((intro w hSw); (try dsimp only at hSw); go_simp; (try with_reducible rfl))); (try simp only [Act.put, List.setIfInBounds_toArray, List.set_cons_zero, List.set_cons_succ]))
  (refine wpAnyH_take (i := 5) (oi := _) (v := ?_) (by simp only [List.getElem?_toArray, List.getElem?_cons_zero, List.getElem?_cons_succ]; rfl) (by kernel_rfl) (by decide +kernel) (by decide +kernel) (by exact fun _ _ _ h => h) (Or.inl ⟨by rfl, ?_⟩) (by assumption) ?_; rotate_left; (· ((intro w hSw); (try dsimp only at hSw); go_simp; (try with_reducible rfl))); (try simp only [Act.put, List.setIfInBounds_toArray, List.set_cons_zero, List.set_cons_succ]))
  (refine wpAnyH_take (i := 6) (oi := _) (v := ?_) (by simp only [List.getElem?_toArray, List.getElem?_cons_zero, List.getElem?_cons_succ]; rfl) (by kernel_rfl) (by decide +kernel) (by decide +kernel) (by exact fun _ _ _ h => h) (Or.inl ⟨by rfl, ?_⟩) (by assumption) ?_; rotate_left; (· ((intro w hSw); (try dsimp only at hSw); go_simp; (try with_reducible rfl))); (try simp only [Act.put, List.setIfInBounds_toArray, List.set_cons_zero, List.set_cons_succ]))
  (refine wpAnyH_take (i := 7) (oi := _) (v := ?_) (by simp only [List.getElem?_toArray, List.getElem?_cons_zero, List.getElem?_cons_succ]; rfl) (by kernel_rfl) (by decide +kernel) (by decide +kernel) (by exact fun _ _ _ h => h) (Or.inl ⟨by rfl, ?_⟩) (by assumption) ?_; rotate_left; (· ((intro w hSw); (try dsimp only at hSw); go_simp; (try with_reducible rfl))); (try simp only [Act.put, List.setIfInBounds_toArray, List.set_cons_zero, List.set_cons_succ]))
  (refine wpAnyH_take (i := 8) (oi := _) (v := ?_) (by simp only [List.getElem?_toArray, List.getElem?_cons_zero, List.getElem?_cons_succ]; rfl) (by kernel_rfl) (by decide +kernel) (by decide +kernel) (by exact fun _ _ _ h => h) (Or.inl ⟨by rfl, ?_⟩) (by assumption) ?_; rotate_left; (· ((intro w hSw); (try dsimp only at hSw); go_simp; (try with_reducible rfl))); (try simp only [Act.put, List.setIfInBounds_toArray, List.set_cons_zero, List.set_cons_succ]))
  repeat' (first
    | (refine wpAnyH_take (i := 9) (oi := _) (v := ?_) (by simp only [List.getElem?_toArray, List.getElem?_cons_zero, List.getElem?_cons_succ]; rfl) (by kernel_rfl) (by decide +kernel) (by decide +kernel) (by exact fun _ _ _ h => h) (Or.inl ⟨by rfl, ?_⟩) (by assumption) ?_; rotate_left; (· ((intro w hSw); (try dsimp only at hSw); go_simp; (try with_reducible rfl))); (try simp only [Act.put, List.setIfInBounds_toArray, List.set_cons_zero, List.set_cons_succ]))
    | (refine wpAnyH_ready (rs := [4]) (by decide +kernel) (by simp) (AllReadyH.cons (by simp only [List.getElem?_toArray, List.getElem?_cons_zero, List.getElem?_cons_succ]; rfl) (fun K hK => ?_) AllReadyH.nil); all_goals ((first | fail | (go_simp; (first | ((with_reducible refine (IN.out _).mono ?_); rintro e w1 ⟨rfl, hb1⟩; (repeat (with_reducible (replace hb1 := Below.undrew hb1))); obtain ⟨hc1, hf1⟩ := bcell hb1; have hz1 := hb1.size; (repeat (first | rw [World.size_alloc] at hz1 | rw [World.size_drew] at hz1 | rw [World.size_setCell] at hz1)); (try have : w.heap.size < w1.heap.size := by omega); (try have : w.heap.size < w1.heap.size + 1 := by omega); (try have : w.heap.size < w1.heap.size + 1 + 1 := by omega); (try have : w.heap.size < w1.heap.size + 1 + 1 + 1 := by omega); (have HX1 := HXZ.out.below (show Below Z.heap.size Z w1 by (repeat' (first | (with_reducible exact Below.refl _ _) | (with_reducible assumption) | (with_reducible refine Below.alloc ?_ ?_ _) | (with_reducible refine Below.drew ?_) | (with_reducible refine Below.stepG ?_ (by assumption) ?_) | (with_reducible refine Below.setCell ?_ ?_ _) | omega | (dsimp only; omega) | (simp; done) | (simp; omega))))); (have s0 := HX1.cell (innN n k) _ (drC_hop hi.2)); (have s1 := HX1.fz (innN n k)); (have s2 := HX1.lt)) | skip))); (refine hK.out _ _ ?_ (fun hHeld => ?_)); (· ((try dsimp only); (first | (first | (go_simp; done) | (simp [*, go_sem, World.cell?_alloc_past]; done) | (simp [*, go_sem, World.cell?_alloc_past, World.cell?_setCell_far]; done)) | exact ⟨(hb1.cell (p := ⟨P, 0, none⟩) (by first | omega | (simp; omega))).trans hHeld.1, (hb1.cell (p := ⟨P, 1, none⟩) (by first | omega | (simp; omega))).trans hHeld.2.1, (hb1.cell (p := ⟨P, 2, none⟩) (by first | omega | (simp; omega))).trans hHeld.2.2.1, (hb1.cell (p := ⟨P, 3, none⟩) (by first | omega | (simp; omega))).trans hHeld.2.2.2.1, (hb1.cell (p := ⟨P, 4, none⟩) (by first | omega | (simp; omega))).trans hHeld.2.2.2.2⟩ | trivial))); (clear hK K; (try simp only [Act.put, List.setIfInBounds_toArray, List.set_cons_zero, List.set_cons_succ]))))
    | (refine wpAnyH_ready (rs := [10]) (by decide +kernel) (by simp) (AllReadyH.cons (by simp only [List.getElem?_toArray, List.getElem?_cons_zero, List.getElem?_cons_succ]; rfl) (fun K hK => ?_) AllReadyH.nil); all_goals ((first | fail | (go_simp; (first | ((with_reducible refine (IN.out _).mono ?_); rintro e w1 ⟨rfl, hb1⟩; (repeat (with_reducible (replace hb1 := Below.undrew hb1))); obtain ⟨hc1, hf1⟩ := bcell hb1; have hz1 := hb1.size; (repeat (first | rw [World.size_alloc] at hz1 | rw [World.size_drew] at hz1 | rw [World.size_setCell] at hz1)); (try have : w.heap.size < w1.heap.size := by omega); (try have : w.heap.size < w1.heap.size + 1 := by omega); (try have : w.heap.size < w1.heap.size + 1 + 1 := by omega); (try have : w.heap.size < w1.heap.size + 1 + 1 + 1 := by omega); (have HX1 := HXZ.out.below (show Below Z.heap.size Z w1 by (repeat' (first | (with_reducible exact Below.refl _ _) | (with_reducible assumption) | (with_reducible refine Below.alloc ?_ ?_ _) | (with_reducible refine Below.drew ?_) | (with_reducible refine Below.stepG ?_ (by assumption) ?_) | (with_reducible refine Below.setCell ?_ ?_ _) | omega | (dsimp only; omega) | (simp; done) | (simp; omega))))); (have s0 := HX1.cell (innN n k) _ (drC_hop hi.2)); (have s1 := HX1.fz (innN n k)); (have s2 := HX1.lt)) | skip))); (refine hK.out _ _ ?_ (fun hHeld => ?_)); (· ((try dsimp only); (first | (first | (go_simp; done) | (simp [*, go_sem, World.cell?_alloc_past]; done) | (simp [*, go_sem, World.cell?_alloc_past, World.cell?_setCell_far]; done)) | exact ⟨(hb1.cell (p := ⟨P, 0, none⟩) (by first | omega | (simp; omega))).trans hHeld.1, (hb1.cell (p := ⟨P, 1, none⟩) (by first | omega | (simp; omega))).trans hHeld.2.1, (hb1.cell (p := ⟨P, 2, none⟩) (by first | omega | (simp; omega))).trans hHeld.2.2.1, (hb1.cell (p := ⟨P, 3, none⟩) (by first | omega | (simp; omega))).trans hHeld.2.2.2.1, (hb1.cell (p := ⟨P, 4, none⟩) (by first | omega | (simp; omega))).trans hHeld.2.2.2.2⟩ | trivial))); (clear hK K; (try simp only [Act.put, List.setIfInBounds_toArray, List.set_cons_zero, List.set_cons_succ]))))
    | (refine wpAnyH_done (by decide +kernel) ?_ _)
    | fail)
  obtain ⟨r1, r2⟩ := (HDZ.out.below hb1).hop HB.out hi2 (v := h)
  have HR := Lib.hid r1
  have HRB := Lib.hid ((HWZ.out.trans (hb1.mono (show B ≤ Z.heap.size by omega))).trans r2)
  generalize w1.setCell ⟨b, innN n k, none⟩ (.int .i64 (h : Nat)) = X at *
  clear hHeld r1 r2 hb1 hc1 hf1 s0 s1 s2 HX1 g0 g1 g2 g3 g4 HDZ HXZ HWZ
  go_wp2
  go_returns
  exact ⟨rfl, M, by rw [HJ.out]; exact HR.out, PutM.done M n k j HJ.out, HRB.out⟩

set_option maxRecDepth 100000 in
set_option maxHeartbeats 4000000 in
theorem put_step (B j b n k h : Nat) (M : Nat → Nat → Option Nat) (H : Nat → Nat → Nat → Nat) (w : World) (hv : VP false n k) (hj : j < k / 4) (hd : DrOk w B M H) (hb : M j (tp n (4 * j)) = some b)
    (IH : ∀ M1 b1 W, DrOk W B M1 H → M1 (j + 1) (tp n (4 * (j + 1))) = some b1 → Calls Tryd.prog 49 #[.pointer (some ⟨b1, 0, none⟩), .agg #[.bool false, .int .u64 (hiOf false n), .int .u64 (loOf n), .int .i64 k, .int .i64 h], .int .i64 ((j : Int) + 1)] W (PutSays W B M1 H n k h (j + 1))) :
    Calls Tryd.prog 49 #[.pointer (some ⟨b, 0, none⟩), .agg #[.bool false, .int .u64 (hiOf false n), .int .u64 (loOf n), .int .i64 k, .int .i64 h], .int .i64 j] w (PutSays w B M H n k h j) := by
  have hk : k ≤ 32 := hv.2.1
  have hx := hd.rx _ _ _ hb
  have hBb := hd.ge _ _ _ hb
  have hj7 : j ≤ 7 := by omega
  have PA := Lib.hid (fun w => spart_any n j w hv.1 hj7)
  have hi2 := part_lt n j
  have hi3 : ((partN n j : Nat) : Int) < 16 := by omega
  have HTK := Lib.hid (tp_kid (n := n) hj7)
  have HD := Lib.hid hd
  have HB := Lib.hid hb
  have HJ := Lib.hid hj
  have HIH := Lib.hid IH
  have hbl := hx.lt
  have HX := Lib.hid hx
  have hki : ¬ (k : Int) < 4 * (j : Int) + 4 := by omega
  have ew0 : IntKind.i64.wrap (4 * (j : Int)) = 4 * (j : Int) := IntWalk.i64_in _ (by omega)
  have ew1 : IntKind.i64.wrap (4 * (j : Int) + 4) = 4 * (j : Int) + 4 := IntWalk.i64_in _ (by omega)
  have ew2 : IntKind.i64.wrap ((j : Int) + 1) = (j : Int) + 1 := IntWalk.i64_in _ (by omega)
  clear hv hj hd hx hb IH
  go_enter Tryd.func49, Tryd.ntmps49
  go_wp2_with fail
  obtain ⟨Z, hZ⟩ : ∃ Z, Z = w.alloc (.cells #[.bool false, .int .u64 (hiOf false n), .int .u64 (loOf n), .int .i64 k, .int .i64 h] 41) := ⟨_, rfl⟩
  have g0 : Z.cell? ⟨w.heap.size, 0, none⟩ = some (.bool false) := by rw [hZ]; simp
  have g1 : Z.cell? ⟨w.heap.size, 1, none⟩ = some (.int .u64 (hiOf false n)) := by rw [hZ]; simp
  have g2 : Z.cell? ⟨w.heap.size, 2, none⟩ = some (.int .u64 (loOf n)) := by rw [hZ]; simp
  have g3 : Z.cell? ⟨w.heap.size, 3, none⟩ = some (.int .i64 k) := by rw [hZ]; simp
  have g4 : Z.cell? ⟨w.heap.size, 4, none⟩ = some (.int .i64 h) := by rw [hZ]; simp
  have gl : w.heap.size < Z.heap.size := by rw [hZ]; simp
  have hwZ : Below w.heap.size w Z := by rw [hZ]; exact (Below.refl _ _).alloc (Nat.le_refl _) _
  rw [← hZ]
  have HDZ := Lib.hid (HD.out.below hwZ)
  have HXZ := Lib.hid (HX.out.below hwZ)
  have HWZ := Lib.hid (hwZ.mono (show B ≤ w.heap.size by omega))
  obtain ⟨P, hP⟩ : ∃ P, P = w.heap.size := ⟨_, rfl⟩
  rw [← hP] at g0 g1 g2 g3 g4 gl hbl ⊢
  have hbP : b ≠ P := by omega
  have HG := Lib.hid (And.intro g0 (And.intro g1 (And.intro g2 (And.intro g3 g4))))
  clear hZ hP hwZ HD HX
  go_upto_region 3 with fail
  go_cut [6] (fun v wx => v = .pointer (some ⟨b, 16 + partN n j, none⟩) ∧ Hid (Below Z.heap.size Z wx))
  case first =>
    refine wp_region_held_drew (S := (fun w' => w'.cell? ⟨P, 0, none⟩ = some (.bool false) ∧ w'.cell? ⟨P, 1, none⟩ = some (.int .u64 (hiOf false n)) ∧ w'.cell? ⟨P, 2, none⟩ = some (.int .u64 (loOf n)) ∧ w'.cell? ⟨P, 3, none⟩ = some (.int .i64 k) ∧ w'.cell? ⟨P, 4, none⟩ = some (.int .i64 h))) (by kernel_rfl) ?_ (fun hHeld => ?_)
    · ((try dsimp only); (first | (first | (go_simp; done) | (simp [*, go_sem, World.cell?_alloc_past]; done) | (simp [*, go_sem, World.cell?_alloc_past, World.cell?_setCell_far]; done)) | exact ⟨(hb1.cell (p := ⟨P, 0, none⟩) (by first | omega | (simp; omega))).trans hHeld.1, (hb1.cell (p := ⟨P, 1, none⟩) (by first | omega | (simp; omega))).trans hHeld.2.1, (hb1.cell (p := ⟨P, 2, none⟩) (by first | omega | (simp; omega))).trans hHeld.2.2.1, (hb1.cell (p := ⟨P, 3, none⟩) (by first | omega | (simp; omega))).trans hHeld.2.2.2.1, (hb1.cell (p := ⟨P, 4, none⟩) (by first | omega | (simp; omega))).trans hHeld.2.2.2.2⟩ | trivial))
    (refine wpAnyH_take (i := 0) (oi := _) (v := ?_) (by simp only [List.getElem?_toArray, List.getElem?_cons_zero, List.getElem?_cons_succ]; rfl) (by kernel_rfl) (by decide +kernel) (by decide +kernel) (by exact fun _ _ _ h => h) (Or.inl ⟨by rfl, ?_⟩) (by assumption) ?_; rotate_left; (· ((intro w hSw); (try dsimp only at hSw); go_simp; (try with_reducible rfl))); (try simp only [Act.put, List.setIfInBounds_toArray, List.set_cons_zero, List.set_cons_succ]))
    (refine wpAnyH_take (i := 1) (oi := _) (v := ?_) (by simp only [List.getElem?_toArray, List.getElem?_cons_zero, List.getElem?_cons_succ]; rfl) (by kernel_rfl) (by decide +kernel) (by decide +kernel) (by exact fun _ _ _ h => h) (Or.inl ⟨by rfl, ?_⟩) (by assumption) ?_; rotate_left; (· ((intro w hSw); (try dsimp only at hSw); go_simp; (try with_reducible rfl))); (try simp only [Act.put, List.setIfInBounds_toArray, List.set_cons_zero, List.set_cons_succ]))
    (refine wpAnyH_take (i := 2) (oi := _) (v := ?_) (by simp only [List.getElem?_toArray, List.getElem?_cons_zero, List.getElem?_cons_succ]; rfl) (by kernel_rfl) (by decide +kernel) (by decide +kernel) (by exact fun _ _ _ h => h) (Or.inl ⟨by rfl, ?_⟩) (by assumption) ?_; rotate_left; (· ((intro w hSw); (try dsimp only at hSw); go_simp; (try with_reducible rfl))); (try simp only [Act.put, List.setIfInBounds_toArray, List.set_cons_zero, List.set_cons_succ]))
    (refine wpAnyH_take (i := 3) (oi := _) (v := ?_) (by simp only [List.getElem?_toArray, List.getElem?_cons_zero, List.getElem?_cons_succ]; rfl) (by kernel_rfl) (by decide +kernel) (by decide +kernel) (by exact fun _ _ _ h => h) (Or.inl ⟨by rfl, ?_⟩) (by assumption) ?_; rotate_left; (· ((intro w hSw); (try dsimp only at hSw); go_simp; (try with_reducible rfl))); (try simp only [Act.put, List.setIfInBounds_toArray, List.set_cons_zero, List.set_cons_succ]))
    (refine wpAnyH_take (i := 4) (oi := _) (v := ?_) (by simp only [List.getElem?_toArray, List.getElem?_cons_zero, List.getElem?_cons_succ]; rfl) (by kernel_rfl) (by decide +kernel) (by decide +kernel) (by exact fun _ _ _ h => h) (Or.inl ⟨by rfl, ?_⟩) (by assumption) ?_; rotate_left; (· ((intro w hSw); (try dsimp only at hSw); go_simp; (try with_reducible rfl))); (try simp only [Act.put, List.setIfInBounds_toArray, List.set_cons_zero, List.set_cons_succ]))
    (refine wpAnyH_take (i := 6) (oi := _) (v := ?_) (by simp only [List.getElem?_toArray, List.getElem?_cons_zero, List.getElem?_cons_succ]; rfl) (by kernel_rfl) (by decide +kernel) (by decide +kernel) (by exact fun _ _ _ h => h) (Or.inl ⟨by rfl, ?_⟩) (by assumption) ?_; rotate_left; (· ((intro w hSw); (try dsimp only at hSw); go_simp; (try with_reducible rfl))); (try simp only [Act.put, List.setIfInBounds_toArray, List.set_cons_zero, List.set_cons_succ]))
    (refine wpAnyH_take (i := 7) (oi := _) (v := ?_) (by simp only [List.getElem?_toArray, List.getElem?_cons_zero, List.getElem?_cons_succ]; rfl) (by kernel_rfl) (by decide +kernel) (by decide +kernel) (by exact fun _ _ _ h => h) (Or.inl ⟨by rfl, ?_⟩) (by assumption) ?_; rotate_left; (· ((intro w hSw); (try dsimp only at hSw); go_simp; (try with_reducible rfl))); (try simp only [Act.put, List.setIfInBounds_toArray, List.set_cons_zero, List.set_cons_succ]))
    repeat' (first
      | (refine wpAnyH_take (i := 8) (oi := _) (v := ?_) (by simp only [List.getElem?_toArray, List.getElem?_cons_zero, List.getElem?_cons_succ]; rfl) (by kernel_rfl) (by decide +kernel) (by decide +kernel) (by exact fun _ _ _ h => h) (Or.inl ⟨by rfl, ?_⟩) (by assumption) ?_; rotate_left; (· ((intro w hSw); (try dsimp only at hSw); go_simp; (try with_reducible rfl))); (try simp only [Act.put, List.setIfInBounds_toArray, List.set_cons_zero, List.set_cons_succ]))
      | (refine wpAnyH_take (i := 9) (oi := _) (v := ?_) (by simp only [List.getElem?_toArray, List.getElem?_cons_zero, List.getElem?_cons_succ]; rfl) (by kernel_rfl) (by decide +kernel) (by decide +kernel) (by exact fun _ _ _ h => h) (Or.inl ⟨by rfl, ?_⟩) (by assumption) ?_; rotate_left; (· ((intro w hSw); (try dsimp only at hSw); go_simp; (try with_reducible rfl))); (try simp only [Act.put, List.setIfInBounds_toArray, List.set_cons_zero, List.set_cons_succ]))
      | (refine wpAnyH_ready (rs := [5]) (by decide +kernel) (by simp) (AllReadyH.cons (by simp only [List.getElem?_toArray, List.getElem?_cons_zero, List.getElem?_cons_succ]; rfl) (fun K hK => ?_) AllReadyH.nil); all_goals ((first | fail | (go_simp; (first | ((with_reducible refine (PA.out _).mono ?_); rintro e w1 ⟨rfl, hb1⟩; (repeat (with_reducible (replace hb1 := Below.undrew hb1))); obtain ⟨hc1, hf1⟩ := bcell hb1; have hz1 := hb1.size; (repeat (first | rw [World.size_alloc] at hz1 | rw [World.size_drew] at hz1 | rw [World.size_setCell] at hz1)); (try have : w.heap.size < w1.heap.size := by omega); (try have : w.heap.size < w1.heap.size + 1 := by omega); (try have : w.heap.size < w1.heap.size + 1 + 1 := by omega); (try have : w.heap.size < w1.heap.size + 1 + 1 + 1 := by omega)) | skip))); (refine hK.out _ _ ?_ (fun hHeld => ?_)); (· ((try dsimp only); (first | (first | (go_simp; done) | (simp [*, go_sem, World.cell?_alloc_past]; done) | (simp [*, go_sem, World.cell?_alloc_past, World.cell?_setCell_far]; done)) | exact ⟨(hb1.cell (p := ⟨P, 0, none⟩) (by first | omega | (simp; omega))).trans hHeld.1, (hb1.cell (p := ⟨P, 1, none⟩) (by first | omega | (simp; omega))).trans hHeld.2.1, (hb1.cell (p := ⟨P, 2, none⟩) (by first | omega | (simp; omega))).trans hHeld.2.2.1, (hb1.cell (p := ⟨P, 3, none⟩) (by first | omega | (simp; omega))).trans hHeld.2.2.2.1, (hb1.cell (p := ⟨P, 4, none⟩) (by first | omega | (simp; omega))).trans hHeld.2.2.2.2⟩ | trivial))); (clear hK K; (try simp only [Act.put, List.setIfInBounds_toArray, List.set_cons_zero, List.set_cons_succ]))))
      | (refine wpAnyH_done (by decide +kernel) ?_ _)
      | fail)
    all_goals go_wp2_with fail
    all_goals go_meet
    all_goals exact ⟨rfl, Lib.hid (by (repeat' (first | (with_reducible exact Below.refl _ _) | (with_reducible assumption) | (with_reducible refine Below.alloc ?_ ?_ _) | (with_reducible refine Below.drew ?_) | (with_reducible refine Below.stepG ?_ (by assumption) ?_) | (with_reducible refine Below.setCell ?_ ?_ _) | omega | (dsimp only; omega) | (simp; done) | (simp; omega))))⟩
  case rest =>
    obtain ⟨rfl, HBX⟩ := hcut
    have HDc := Lib.hid (HDZ.out.below HBX.out)
    have hxc := HXZ.out.below HBX.out
    have HWc := Lib.hid (HWZ.out.trans (HBX.out.mono (show B ≤ Z.heap.size by omega)))
    have k0 := hxc.cell (16 + partN n j) _ (drC_kid hi2)
    rw [← HTK.out] at k0
    have k1 := hxc.fz (16 + partN n j)
    have k2 := hxc.lt
    have HXc := Lib.hid hxc
    obtain ⟨q0, q1, q2, q3, q4⟩ := HG.out
    have g0 := (HBX.out.cell (p := ⟨P, 0, none⟩) gl).trans q0
    have g1 := (HBX.out.cell (p := ⟨P, 1, none⟩) gl).trans q1
    have g2 := (HBX.out.cell (p := ⟨P, 2, none⟩) gl).trans q2
    have g3 := (HBX.out.cell (p := ⟨P, 3, none⟩) gl).trans q3
    have g4 := (HBX.out.cell (p := ⟨P, 4, none⟩) gl).trans q4
    have gc := Nat.lt_of_lt_of_le gl HBX.out.size
    clear q0 q1 q2 q3 q4 HG gl HXZ HDZ HWZ PA hxc
    cases hm : M (j + 1) (tp n (4 * (j + 1))) with
    | none =>
      rw [hm] at k0
      have k0' : wc.cell? ⟨b, 16 + partN n j, none⟩ = some (.pointer none) := k0
      have HM0 := Lib.hid hm
      clear k0 hm
      go_wp2_with fail
      obtain ⟨Y, hY⟩ : ∃ Y, Y = (wc.setCell ⟨b, 16 + partN n j, none⟩ (.pointer (some ⟨wc.heap.size, 0, none⟩))).alloc (.cells #[.int .i64 0, .int .i64 0, .int .i64 0, .int .i64 0, .int .i64 0, .int .i64 0, .int .i64 0, .int .i64 0, .int .i64 0, .int .i64 0, .int .i64 0, .int .i64 0, .int .i64 0, .int .i64 0, .int .i64 0, .int .i64 0, .pointer none, .pointer none, .pointer none, .pointer none, .pointer none, .pointer none, .pointer none, .pointer none, .pointer none, .pointer none, .pointer none, .pointer none, .pointer none, .pointer none, .pointer none, .pointer none] 107) := ⟨_, rfl⟩
      obtain ⟨X0, hX0⟩ : ∃ X, X = wc.alloc (.cells #[.int .i64 0, .int .i64 0, .int .i64 0, .int .i64 0, .int .i64 0, .int .i64 0, .int .i64 0, .int .i64 0, .int .i64 0, .int .i64 0, .int .i64 0, .int .i64 0, .int .i64 0, .int .i64 0, .int .i64 0, .int .i64 0, .pointer none, .pointer none, .pointer none, .pointer none, .pointer none, .pointer none, .pointer none, .pointer none, .pointer none, .pointer none, .pointer none, .pointer none, .pointer none, .pointer none, .pointer none, .pointer none] 107) := ⟨_, rfl⟩
      have hY2 : Y = X0.setCell ⟨b, 16 + partN n j, none⟩ (.pointer (some ⟨wc.heap.size, 0, none⟩)) := by rw [hY, hX0]; go_simp
      have hwN : Below wc.heap.size wc X0 := by rw [hX0]; exact (Below.refl _ _).alloc (Nat.le_refl _) _
      have hnx : RX X0 wc.heap.size (List.replicate 16 (.int .i64 0) ++ List.replicate 16 (.pointer none)) := by rw [hX0]; exact rx_new (w := wc) (List.replicate 16 (.int .i64 0) ++ List.replicate 16 (.pointer none)) _
      rw [← hY]
      have hM0' : M (j + 1) (16 * tp n (4 * j) + partN n j) = none := by rw [← HTK.out]; exact HM0.out
      obtain ⟨d1, d2⟩ := (HDc.out.below hwN).kid HB.out hi2 hM0' hnx (by have := HDc.out.ge _ _ _ HB.out; omega) (fun j' q' b' e => by have := (HDc.out.rx _ _ _ e).lt; omega)
      rw [← hY2, ← HTK.out] at d1
      rw [← hY2] at d2
      have HDY := Lib.hid d1
      have HWY := Lib.hid ((HWc.out.trans (hwN.mono (show B ≤ wc.heap.size by omega))).trans d2)
      have y0 : Y.cell? ⟨b, 16 + partN n j, none⟩ = some (.pointer (some ⟨wc.heap.size, 0, none⟩)) := by
        have := (d1.rx _ _ _ (show setM M (j + 1) (tp n (4 * (j + 1))) wc.heap.size j (tp n (4 * j)) = some b by unfold setM; rw [if_neg (by omega)]; exact HB.out)).cell (16 + partN n j) _ (drC_kid hi2)
        rw [← HTK.out] at this
        simpa [setM, ptrO] using this
      have hbP' : P ≠ b := fun e => hbP e.symm
      have hYs : X0.heap.size ≤ Y.heap.size := by rw [hY2]; simp
      have cP : ∀ o, Y.cell? ⟨P, o, none⟩ = wc.cell? ⟨P, o, none⟩ := fun o => by
        rw [hY2]
        exact ((chg_set X0 b (16 + partN n j) _).cell P o (Nat.lt_of_lt_of_le gc hwN.size) (fun x => hbP' x.1)).trans (hwN.cell (p := ⟨P, o, none⟩) gc)
      have z0 := (cP 0).trans g0
      have z1 := (cP 1).trans g1
      have z2 := (cP 2).trans g2
      have z3 := (cP 3).trans g3
      have z4 := (cP 4).trans g4
      have yl : b < Y.heap.size := by have := hwN.size; omega
      have yP : P < Y.heap.size := by have := hwN.size; omega
      have HNB := Lib.hid (show setM M (j + 1) (tp n (4 * (j + 1))) wc.heap.size (j + 1) (tp n (4 * (j + 1))) = some wc.heap.size by simp [setM])
      clear hY hY2 hX0 hwN hnx d1 d2 hM0' k0' k1 k2 HXc g0 g1 g2 g3 g4 hYs cP
      generalize wc.heap.size = nb at *
      go_still_tail 6, (by kernel_rfl)
      change wpList _ _ _ _ _ Y.drew
      have HDx := Lib.hid (HDY.out.below (w' := Y.drew) (Below.drew (Below.refl _ _)))
      have HWx := Lib.hid (show Below B w Y.drew from HWY.out.trans (Below.drew (Below.refl _ _)))
      clear z0 z1 z2 z3 z4 y0
      generalize Y.drew = X at *
      go_wp2_with fail
      refine (HIH.out _ nb X HDx.out HNB.out).mono ?_
      rintro e w1 ⟨rfl, M', hd1, hp1, hb1⟩
      have HF := Lib.hid (And.intro hd1 (And.intro (PutM.new1 HJ.out HM0.out hp1) (HWx.out.trans hb1)))
      clear hd1 hp1 hb1
      go_wp2
      go_returns
      exact ⟨rfl, M', HF.out⟩
    | some b1 =>
      rw [hm] at k0
      have k0' : wc.cell? ⟨b, 16 + partN n j, none⟩ = some (.pointer (some ⟨b1, 0, none⟩)) := k0
      have HM1 := Lib.hid hm
      clear k0 hm
      go_wp2_with fail
      go_still_tail 6, (by kernel_rfl)
      change wpList _ _ _ _ _ wc.drew
      have HDx := Lib.hid (HDc.out.below (w' := wc.drew) (Below.drew (Below.refl _ _)))
      have HWx := Lib.hid (show Below B w wc.drew from HWc.out.trans (Below.drew (Below.refl _ _)))
      clear k0' k1 k2 HXc g0 g1 g2 g3 g4 gc
      generalize wc.drew = X at *
      go_wp2_with fail
      refine (HIH.out M b1 X HDx.out HM1.out).mono ?_
      rintro e w1 ⟨rfl, M', hd1, hp1, hb1⟩
      have HF := Lib.hid (And.intro hd1 (And.intro (PutM.step HJ.out HM1.out hp1) (HWx.out.trans hb1)))
      clear hd1 hp1 hb1
      go_wp2
      go_returns
      exact ⟨rfl, M', HF.out⟩
theorem put_any (B n k h : Nat) (H : Nat → Nat → Nat → Nat) (hv : VP false n k) : ∀ (d j b : Nat) (M : Nat → Nat → Option Nat) (w : World), d + j = k / 4 → DrOk w B M H → M j (tp n (4 * j)) = some b →
    Calls Tryd.prog 49 #[.pointer (some ⟨b, 0, none⟩), .agg #[.bool false, .int .u64 (hiOf false n), .int .u64 (loOf n), .int .i64 k, .int .i64 h], .int .i64 j] w (PutSays w B M H n k h j)
  | 0, j, b, M, w, hj, hd, hb => put_here B j b n k h M H w hv (by omega) hd hb
  | d + 1, j, b, M, w, hj, hd, hb => put_step B j b n k h M H w hv (by omega) hd hb (fun M1 b1 W h1 h2 => by
    have := put_any B n k h H hv d (j + 1) b1 M1 W (by omega) h1 h2
    rw [show ((j + 1 : Nat) : Int) = (j : Int) + 1 by omega] at this
    exact this)
end Go.Proofs.YtoecmoicaklbaaaDoor
