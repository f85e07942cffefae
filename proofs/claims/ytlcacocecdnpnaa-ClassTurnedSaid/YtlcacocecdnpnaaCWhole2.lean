
/- Contracts of package class: whole, the walk. -/
import Derived.Test.YtlcacocecdnpnaaCWhole
set_option linter.unusedVariables false
namespace Go.Proofs.Ytlcacocecdnpnaa
open Go.RowKit Go.Sort Wc Wk

theorem sl_mat {W : World} {b : Nat} (q : MatchD) (hb : b = W.heap.size) : Sl (W.alloc (.cells #[.bool false, .int .u64 (hiOf false q.n), .int .u64 (loOf q.n), .int .i64 q.k, .bool false, .int .u64 (hiOf false q.m), .int .u64 (loOf q.m), .int .i64 q.l, .int .i64 q.cls] 78)) 9 (.slice (some ⟨b, 0, none⟩) 1 1) ([q].map matchCells) :=
  sl_new (c := matchCells q) hb rfl
def WholeSays (f : Nat) : Prop := ∀ (l : List MatchD) (a : Option Addr) (cap n k m j : Nat) (w : World), Sl w 9 (.slice a l.length cap) (l.map matchCells) → l.length ≤ 100 → (∀ q ∈ l, MatchD.ok q) → VP false n k → VP false m j → 64 < f + k + j →
    Calls Try.prog 47 #[.slice a l.length cap, Value.agg #[.bool false, .int .u64 (hiOf false n), .int .u64 (loOf n), .int .i64 k], Value.agg #[.bool false, .int .u64 (hiOf false m), .int .u64 (loOf m), .int .i64 j]] w fun e w' => e = .returned (.bool (wholeF f l n k m j)) ∧ Below w.heap.size w w'


set_option maxRecDepth 100000 in
set_option maxHeartbeats 4000000 in
theorem whole_step (f : Nat) (IH : Hid (WholeSays f)) : WholeSays (f + 1) := by
  intro l a cap n k m j w hs hlen hok hp hq hf
  have HS := Lib.hid hs
  have HOK := Lib.hid hok
  have V1 := Lib.hid (fun (r : MatchD) (hr : r.ok) w => over_any false r.n r.k n k w hr.1 hp)
  have V2 := Lib.hid (fun (r : MatchD) (hr : r.ok) w => over_any false r.m r.l m j w hr.2.1 hq)
  have V3 := Lib.hid (fun (r : MatchD) (hr : r.ok) w => over_any false n k r.n r.k w hp hr.1)
  have V4 := Lib.hid (fun (r : MatchD) (hr : r.ok) w => over_any false m j r.m r.l w hq hr.2.1)
  have HP := Lib.hid hp
  have HQ := Lib.hid hq
  generalize hR : wholeF (f + 1) l n k m j = R
  have HR := Lib.hid hR
  clear hs hok hp hq hR
  go_enter Try.func47, Try.ntmps47
  go_wp2_with fail
  have P0 : ((w.alloc (.cells #[.bool false, .int .u64 (hiOf false n), .int .u64 (loOf n), .int .i64 k] 40)).alloc (.cells #[.bool false, .int .u64 (hiOf false m), .int .u64 (loOf m), .int .i64 j] 40)).cell? ⟨w.heap.size, 0, none⟩ = some (.bool false) := by simp [World.cell?_alloc_past]
  have P1 : ((w.alloc (.cells #[.bool false, .int .u64 (hiOf false n), .int .u64 (loOf n), .int .i64 k] 40)).alloc (.cells #[.bool false, .int .u64 (hiOf false m), .int .u64 (loOf m), .int .i64 j] 40)).cell? ⟨w.heap.size, 1, none⟩ = some (.int .u64 (hiOf false n)) := by simp [World.cell?_alloc_past]
  have P2 : ((w.alloc (.cells #[.bool false, .int .u64 (hiOf false n), .int .u64 (loOf n), .int .i64 k] 40)).alloc (.cells #[.bool false, .int .u64 (hiOf false m), .int .u64 (loOf m), .int .i64 j] 40)).cell? ⟨w.heap.size, 2, none⟩ = some (.int .u64 (loOf n)) := by simp [World.cell?_alloc_past]
  have P3 : ((w.alloc (.cells #[.bool false, .int .u64 (hiOf false n), .int .u64 (loOf n), .int .i64 k] 40)).alloc (.cells #[.bool false, .int .u64 (hiOf false m), .int .u64 (loOf m), .int .i64 j] 40)).cell? ⟨w.heap.size, 3, none⟩ = some (.int .i64 k) := by simp [World.cell?_alloc_past]
  have Q0 : ((w.alloc (.cells #[.bool false, .int .u64 (hiOf false n), .int .u64 (loOf n), .int .i64 k] 40)).alloc (.cells #[.bool false, .int .u64 (hiOf false m), .int .u64 (loOf m), .int .i64 j] 40)).cell? ⟨w.heap.size + 1, 0, none⟩ = some (.bool false) := by rw [show w.heap.size + 1 = (w.alloc (.cells #[.bool false, .int .u64 (hiOf false n), .int .u64 (loOf n), .int .i64 k] 40)).heap.size from (World.size_alloc _ _).symm]; simp
  have Q1 : ((w.alloc (.cells #[.bool false, .int .u64 (hiOf false n), .int .u64 (loOf n), .int .i64 k] 40)).alloc (.cells #[.bool false, .int .u64 (hiOf false m), .int .u64 (loOf m), .int .i64 j] 40)).cell? ⟨w.heap.size + 1, 1, none⟩ = some (.int .u64 (hiOf false m)) := by rw [show w.heap.size + 1 = (w.alloc (.cells #[.bool false, .int .u64 (hiOf false n), .int .u64 (loOf n), .int .i64 k] 40)).heap.size from (World.size_alloc _ _).symm]; simp
  have Q2 : ((w.alloc (.cells #[.bool false, .int .u64 (hiOf false n), .int .u64 (loOf n), .int .i64 k] 40)).alloc (.cells #[.bool false, .int .u64 (hiOf false m), .int .u64 (loOf m), .int .i64 j] 40)).cell? ⟨w.heap.size + 1, 2, none⟩ = some (.int .u64 (loOf m)) := by rw [show w.heap.size + 1 = (w.alloc (.cells #[.bool false, .int .u64 (hiOf false n), .int .u64 (loOf n), .int .i64 k] 40)).heap.size from (World.size_alloc _ _).symm]; simp
  have Q3 : ((w.alloc (.cells #[.bool false, .int .u64 (hiOf false n), .int .u64 (loOf n), .int .i64 k] 40)).alloc (.cells #[.bool false, .int .u64 (hiOf false m), .int .u64 (loOf m), .int .i64 j] 40)).cell? ⟨w.heap.size + 1, 3, none⟩ = some (.int .i64 j) := by rw [show w.heap.size + 1 = (w.alloc (.cells #[.bool false, .int .u64 (hiOf false n), .int .u64 (loOf n), .int .i64 k] 40)).heap.size from (World.size_alloc _ _).symm]; simp
  have PS : w.heap.size + 1 < ((w.alloc (.cells #[.bool false, .int .u64 (hiOf false n), .int .u64 (loOf n), .int .i64 k] 40)).alloc (.cells #[.bool false, .int .u64 (hiOf false m), .int .u64 (loOf m), .int .i64 j] 40)).heap.size := by simp
  have FB : Below w.heap.size w ((w.alloc (.cells #[.bool false, .int .u64 (hiOf false n), .int .u64 (loOf n), .int .i64 k] 40)).alloc (.cells #[.bool false, .int .u64 (hiOf false m), .int .u64 (loOf m), .int .i64 j] 40)) := by (repeat' (first | (with_reducible exact Below.refl _ _) | (with_reducible assumption) | (with_reducible refine Below.alloc ?_ ?_ _) | (with_reducible refine Below.drew ?_) | (with_reducible refine Below.stepG ?_ (by assumption) ?_) | (with_reducible refine Below.setCell ?_ ?_ _) | omega | (dsimp only; omega) | (simp; done) | (simp; omega)))
  have FO := Lib.hid (HS.out.below FB)
  generalize (w.alloc (.cells #[.bool false, .int .u64 (hiOf false n), .int .u64 (loOf n), .int .i64 k] 40)).alloc (.cells #[.bool false, .int .u64 (hiOf false m), .int .u64 (loOf m), .int .i64 j] 40) = W at *
  obtain ⟨B, hB⟩ : ∃ B, B = w.heap.size := ⟨_, rfl⟩
  obtain ⟨C, hC⟩ : ∃ C, C = w.heap.size + 1 := ⟨_, rfl⟩
  rw [← hC] at Q0 Q1 Q2 Q3 PS ⊢
  rw [← hB] at P0 P1 P2 P3 ⊢
  have hBe : w.heap.size ≤ B := by omega
  have PB : B < W.heap.size := by omega
  clear hB hC
  go_loopw [7, 14] (fun v i wr => ∃ t : Nat, t ≤ l.length ∧ i = .int .i64 t ∧ Hid ((l.take t).any (hitM n k m j) = false) ∧ Hid (Own wr W.heap.size 78 9 v (((l.take t).filter (somM n k m j)).map matchCells)) ∧ Below W.heap.size W wr) (fun _ i _ => l.length - (intOf i).toNat)
  case atStart => exact ⟨0, Nat.zero_le _, rfl, Lib.hid rfl, Own.nil _ _ _ _, Below.refl _ _⟩
  case round =>
    obtain ⟨t, ht, rfl, HN, HO, hbr⟩ := hrel
    have hzr := hbr.size
    have p0 := (hbr.cell (p := ⟨B, 0, none⟩) PB).trans P0
    have q0 := (hbr.cell (p := ⟨C, 0, none⟩) PS).trans Q0
    have p1 := (hbr.cell (p := ⟨B, 1, none⟩) PB).trans P1
    have q1 := (hbr.cell (p := ⟨C, 1, none⟩) PS).trans Q1
    have p2 := (hbr.cell (p := ⟨B, 2, none⟩) PB).trans P2
    have q2 := (hbr.cell (p := ⟨C, 2, none⟩) PS).trans Q2
    have p3 := (hbr.cell (p := ⟨B, 3, none⟩) PB).trans P3
    have q3 := (hbr.cell (p := ⟨C, 3, none⟩) PS).trans Q3
    have gB : B < wr.heap.size := by omega
    have gC : C < wr.heap.size := by omega
    by_cases hlt : t < l.length
    · obtain ⟨r, hr⟩ : ∃ r, l[t]? = some r := ⟨_, List.getElem?_eq_getElem hlt⟩
      obtain ⟨b, off, rfl, hb, d0, d1, d2, d3, d4, d5, d6, d7, d8⟩ := Sl.mat FO.out hbr hr
      have hrok := HOK.out r (List.mem_of_getElem? hr)
      have O1 := Lib.hid (V1.out r hrok)
      have O2 := Lib.hid (V2.out r hrok)
      have O3 := Lib.hid (V3.out r hrok)
      have O4 := Lib.hid (V4.out r hrok)
      have HT := Lib.hid (show l.take (t + 1) = l.take t ++ [r] by rw [List.take_add_one, hr]; rfl)
      have HMEM := Lib.hid (List.mem_of_getElem? hr)
      clear hr hrok P0 P1 P2 P3 Q0 Q1 Q2 Q3
      go_wp2_with fail
      have M0 : (wr.alloc (.cells #[.bool false, .int .u64 (hiOf false r.n), .int .u64 (loOf r.n), .int .i64 r.k, .bool false, .int .u64 (hiOf false r.m), .int .u64 (loOf r.m), .int .i64 r.l, .int .i64 r.cls] 78)).cell? ⟨wr.heap.size, 0, none⟩ = some (.bool false) := by simp
      have M1 : (wr.alloc (.cells #[.bool false, .int .u64 (hiOf false r.n), .int .u64 (loOf r.n), .int .i64 r.k, .bool false, .int .u64 (hiOf false r.m), .int .u64 (loOf r.m), .int .i64 r.l, .int .i64 r.cls] 78)).cell? ⟨wr.heap.size, 1, none⟩ = some (.int .u64 (hiOf false r.n)) := by simp
      have M2 : (wr.alloc (.cells #[.bool false, .int .u64 (hiOf false r.n), .int .u64 (loOf r.n), .int .i64 r.k, .bool false, .int .u64 (hiOf false r.m), .int .u64 (loOf r.m), .int .i64 r.l, .int .i64 r.cls] 78)).cell? ⟨wr.heap.size, 2, none⟩ = some (.int .u64 (loOf r.n)) := by simp
      have M3 : (wr.alloc (.cells #[.bool false, .int .u64 (hiOf false r.n), .int .u64 (loOf r.n), .int .i64 r.k, .bool false, .int .u64 (hiOf false r.m), .int .u64 (loOf r.m), .int .i64 r.l, .int .i64 r.cls] 78)).cell? ⟨wr.heap.size, 3, none⟩ = some (.int .i64 r.k) := by simp
      have M4 : (wr.alloc (.cells #[.bool false, .int .u64 (hiOf false r.n), .int .u64 (loOf r.n), .int .i64 r.k, .bool false, .int .u64 (hiOf false r.m), .int .u64 (loOf r.m), .int .i64 r.l, .int .i64 r.cls] 78)).cell? ⟨wr.heap.size, 4, none⟩ = some (.bool false) := by simp
      have M5 : (wr.alloc (.cells #[.bool false, .int .u64 (hiOf false r.n), .int .u64 (loOf r.n), .int .i64 r.k, .bool false, .int .u64 (hiOf false r.m), .int .u64 (loOf r.m), .int .i64 r.l, .int .i64 r.cls] 78)).cell? ⟨wr.heap.size, 5, none⟩ = some (.int .u64 (hiOf false r.m)) := by simp
      have M6 : (wr.alloc (.cells #[.bool false, .int .u64 (hiOf false r.n), .int .u64 (loOf r.n), .int .i64 r.k, .bool false, .int .u64 (hiOf false r.m), .int .u64 (loOf r.m), .int .i64 r.l, .int .i64 r.cls] 78)).cell? ⟨wr.heap.size, 6, none⟩ = some (.int .u64 (loOf r.m)) := by simp
      have M7 : (wr.alloc (.cells #[.bool false, .int .u64 (hiOf false r.n), .int .u64 (loOf r.n), .int .i64 r.k, .bool false, .int .u64 (hiOf false r.m), .int .u64 (loOf r.m), .int .i64 r.l, .int .i64 r.cls] 78)).cell? ⟨wr.heap.size, 7, none⟩ = some (.int .i64 r.l) := by simp
      have M8 : (wr.alloc (.cells #[.bool false, .int .u64 (hiOf false r.n), .int .u64 (loOf r.n), .int .i64 r.k, .bool false, .int .u64 (hiOf false r.m), .int .u64 (loOf r.m), .int .i64 r.l, .int .i64 r.cls] 78)).cell? ⟨wr.heap.size, 8, none⟩ = some (.int .i64 r.cls) := by simp
      have PP0 : (wr.alloc (.cells #[.bool false, .int .u64 (hiOf false r.n), .int .u64 (loOf r.n), .int .i64 r.k, .bool false, .int .u64 (hiOf false r.m), .int .u64 (loOf r.m), .int .i64 r.l, .int .i64 r.cls] 78)).cell? ⟨B, 0, none⟩ = some (.bool false) := (Below.cell (p := ⟨B, 0, none⟩) ((Below.refl wr.heap.size wr).alloc (Nat.le_refl _) _) gB).trans p0
      have PP1 : (wr.alloc (.cells #[.bool false, .int .u64 (hiOf false r.n), .int .u64 (loOf r.n), .int .i64 r.k, .bool false, .int .u64 (hiOf false r.m), .int .u64 (loOf r.m), .int .i64 r.l, .int .i64 r.cls] 78)).cell? ⟨B, 1, none⟩ = some (.int .u64 (hiOf false n)) := (Below.cell (p := ⟨B, 1, none⟩) ((Below.refl wr.heap.size wr).alloc (Nat.le_refl _) _) gB).trans p1
      have PP2 : (wr.alloc (.cells #[.bool false, .int .u64 (hiOf false r.n), .int .u64 (loOf r.n), .int .i64 r.k, .bool false, .int .u64 (hiOf false r.m), .int .u64 (loOf r.m), .int .i64 r.l, .int .i64 r.cls] 78)).cell? ⟨B, 2, none⟩ = some (.int .u64 (loOf n)) := (Below.cell (p := ⟨B, 2, none⟩) ((Below.refl wr.heap.size wr).alloc (Nat.le_refl _) _) gB).trans p2
      have PP3 : (wr.alloc (.cells #[.bool false, .int .u64 (hiOf false r.n), .int .u64 (loOf r.n), .int .i64 r.k, .bool false, .int .u64 (hiOf false r.m), .int .u64 (loOf r.m), .int .i64 r.l, .int .i64 r.cls] 78)).cell? ⟨B, 3, none⟩ = some (.int .i64 k) := (Below.cell (p := ⟨B, 3, none⟩) ((Below.refl wr.heap.size wr).alloc (Nat.le_refl _) _) gB).trans p3
      have QQ0 : (wr.alloc (.cells #[.bool false, .int .u64 (hiOf false r.n), .int .u64 (loOf r.n), .int .i64 r.k, .bool false, .int .u64 (hiOf false r.m), .int .u64 (loOf r.m), .int .i64 r.l, .int .i64 r.cls] 78)).cell? ⟨C, 0, none⟩ = some (.bool false) := (Below.cell (p := ⟨C, 0, none⟩) ((Below.refl wr.heap.size wr).alloc (Nat.le_refl _) _) gC).trans q0
      have QQ1 : (wr.alloc (.cells #[.bool false, .int .u64 (hiOf false r.n), .int .u64 (loOf r.n), .int .i64 r.k, .bool false, .int .u64 (hiOf false r.m), .int .u64 (loOf r.m), .int .i64 r.l, .int .i64 r.cls] 78)).cell? ⟨C, 1, none⟩ = some (.int .u64 (hiOf false m)) := (Below.cell (p := ⟨C, 1, none⟩) ((Below.refl wr.heap.size wr).alloc (Nat.le_refl _) _) gC).trans q1
      have QQ2 : (wr.alloc (.cells #[.bool false, .int .u64 (hiOf false r.n), .int .u64 (loOf r.n), .int .i64 r.k, .bool false, .int .u64 (hiOf false r.m), .int .u64 (loOf r.m), .int .i64 r.l, .int .i64 r.cls] 78)).cell? ⟨C, 2, none⟩ = some (.int .u64 (loOf m)) := (Below.cell (p := ⟨C, 2, none⟩) ((Below.refl wr.heap.size wr).alloc (Nat.le_refl _) _) gC).trans q2
      have QQ3 : (wr.alloc (.cells #[.bool false, .int .u64 (hiOf false r.n), .int .u64 (loOf r.n), .int .i64 r.k, .bool false, .int .u64 (hiOf false r.m), .int .u64 (loOf r.m), .int .i64 r.l, .int .i64 r.cls] 78)).cell? ⟨C, 3, none⟩ = some (.int .i64 j) := (Below.cell (p := ⟨C, 3, none⟩) ((Below.refl wr.heap.size wr).alloc (Nat.le_refl _) _) gC).trans q3
      have MS : wr.heap.size < (wr.alloc (.cells #[.bool false, .int .u64 (hiOf false r.n), .int .u64 (loOf r.n), .int .i64 r.k, .bool false, .int .u64 (hiOf false r.m), .int .u64 (loOf r.m), .int .i64 r.l, .int .i64 r.cls] 78)).heap.size := by simp
      have MB : Below W.heap.size W (wr.alloc (.cells #[.bool false, .int .u64 (hiOf false r.n), .int .u64 (loOf r.n), .int .i64 r.k, .bool false, .int .u64 (hiOf false r.m), .int .u64 (loOf r.m), .int .i64 r.l, .int .i64 r.cls] 78)) := hbr.alloc hzr _
      have MO : Hid (Own (wr.alloc (.cells #[.bool false, .int .u64 (hiOf false r.n), .int .u64 (loOf r.n), .int .i64 r.k, .bool false, .int .u64 (hiOf false r.m), .int .u64 (loOf r.m), .int .i64 r.l, .int .i64 r.cls] 78)) W.heap.size 78 9 _ (((l.take t).filter (somM n k m j)).map matchCells)) := HO.out.alloc _
      clear d0 d1 d2 d3 d4 d5 d6 d7 d8 p0 p1 p2 p3 q0 q1 q2 q3 HO hbr
      generalize wr.alloc (.cells #[.bool false, .int .u64 (hiOf false r.n), .int .u64 (loOf r.n), .int .i64 r.k, .bool false, .int .u64 (hiOf false r.m), .int .u64 (loOf r.m), .int .i64 r.l, .int .i64 r.cls] 78) = X at *
      obtain ⟨E, hE⟩ : ∃ E, E = wr.heap.size := ⟨_, rfl⟩
      rw [← hE] at M0 M1 M2 M3 M4 M5 M6 M7 M8 MS ⊢
      have eB : B < X.heap.size := by omega
      have eC : C < X.heap.size := by omega
      have hWX : W.heap.size ≤ X.heap.size := MB.size
      clear hE gB gC
      generalize hb1 : decide (cov false r.n r.k n k) = x1 at *
      generalize hb2 : decide (cov false r.m r.l m j) = x2 at *
      generalize hb3 : decide (cov false n k r.n r.k) = x3 at *
      generalize hb4 : decide (cov false m j r.m r.l) = x4 at *
      have HH : Hid (hitM n k m j r = (x1 && x2)) := by show _ = _; unfold hitM; rw [hb1, hb2]
      have HSo : Hid (somM n k m j r = ((x1 || x3) && (x2 || x4))) := by show _ = _; unfold somM; rw [hb1, hb2, hb3, hb4]
      clear hb1 hb2 hb3 hb4
      refine wp_region_qb (by kernel_rfl) (by kernel_rfl) (fun kq => ?_)
      repeat (quiet_step (first | (with_reducible exact Calls.regrown_of (O1.out _)) | (with_reducible exact Calls.regrown_of (O2.out _))))
      clear kq O1 O2
      refine wpQuiet_nil ?_; intro w1 hb1; (repeat (with_reducible (replace hb1 := Below.undrew hb1))); obtain ⟨hc1, hf1⟩ := bcell hb1; have hz1 := hb1.size; (repeat (first | rw [World.size_alloc] at hz1 | rw [World.size_drew] at hz1 | rw [World.size_setCell] at hz1)); (try have : B < w1.heap.size := by omega); (try have : B < w1.heap.size + 1 := by omega); (try have : B < w1.heap.size + 1 + 1 := by omega); (try have : B < w1.heap.size + 1 + 1 + 1 := by omega); (try have : C < w1.heap.size := by omega); (try have : C < w1.heap.size + 1 := by omega); (try have : C < w1.heap.size + 1 + 1 := by omega); (try have : C < w1.heap.size + 1 + 1 + 1 := by omega); (try have : b < w1.heap.size := by omega); (try have : b < w1.heap.size + 1 := by omega); (try have : b < w1.heap.size + 1 + 1 := by omega); (try have : b < w1.heap.size + 1 + 1 + 1 := by omega)
      have m0 := (hc1 E 0 MS).trans M0
      have m1 := (hc1 E 1 MS).trans M1
      have m2 := (hc1 E 2 MS).trans M2
      have m3 := (hc1 E 3 MS).trans M3
      have m4 := (hc1 E 4 MS).trans M4
      have m5 := (hc1 E 5 MS).trans M5
      have m6 := (hc1 E 6 MS).trans M6
      have m7 := (hc1 E 7 MS).trans M7
      have m8 := (hc1 E 8 MS).trans M8
      have p0 := (hc1 B 0 eB).trans PP0
      have q0 := (hc1 C 0 eC).trans QQ0
      have p1 := (hc1 B 1 eB).trans PP1
      have q1 := (hc1 C 1 eC).trans QQ1
      have p2 := (hc1 B 2 eB).trans PP2
      have q2 := (hc1 C 2 eC).trans QQ2
      have p3 := (hc1 B 3 eB).trans PP3
      have q3 := (hc1 C 3 eC).trans QQ3
      have eE1 : E < w1.heap.size := by omega
      have eB1 : B < w1.heap.size := by omega
      have eC1 : C < w1.heap.size := by omega
      have N1 : Hid (Own w1 W.heap.size 78 9 _ (((l.take t).filter (somM n k m j)).map matchCells)) := MO.out.below hb1
      have B1 : Below W.heap.size W w1 := MB.trans (hb1.mono hWX)
      have hz01 : W.heap.size ≤ w1.heap.size := B1.size
      clear hc1 hf1 M0 M1 M2 M3 M4 M5 M6 M7 M8 PP0 PP1 PP2 PP3 QQ0 QQ1 QQ2 QQ3 MO MB hb1 MS eB eC
      rcases x1 with _ | _
      · rcases x3 with _ | _
        · have HN2 : Hid ((l.take (t + 1)).any (hitM n k m j) = false) := by
            show (l.take (t + 1)).any (hitM n k m j) = false
            rw [HT.out, List.any_append, HN.out, List.any_cons, HH.out]; rfl
          have HF := Lib.hid (show (l.take (t + 1)).filter (somM n k m j) = (l.take t).filter (somM n k m j) by
            rw [HT.out, List.filter_append, List.filter_cons, HSo.out]; simp)
          have HO2 := N1.out
          rw [← HF.out] at HO2
          have HO3 := Lib.hid HO2
          clear N1 HF HO2 HN HH HSo
          go_wp2_with (first | (((with_reducible refine (O3.out _).mono ?_); rintro e w2 ⟨rfl, hb2⟩; (repeat (with_reducible (replace hb2 := Below.undrew hb2))); obtain ⟨hc2, hf2⟩ := bcell hb2; have hz2 := hb2.size; (repeat (first | rw [World.size_alloc] at hz2 | rw [World.size_drew] at hz2 | rw [World.size_setCell] at hz2)); (try have : B < w2.heap.size := by omega); (try have : B < w2.heap.size + 1 := by omega); (try have : B < w2.heap.size + 1 + 1 := by omega); (try have : B < w2.heap.size + 1 + 1 + 1 := by omega); (try have : C < w2.heap.size := by omega); (try have : C < w2.heap.size + 1 := by omega); (try have : C < w2.heap.size + 1 + 1 := by omega); (try have : C < w2.heap.size + 1 + 1 + 1 := by omega); (try have : b < w2.heap.size := by omega); (try have : b < w2.heap.size + 1 := by omega); (try have : b < w2.heap.size + 1 + 1 := by omega); (try have : b < w2.heap.size + 1 + 1 + 1 := by omega); (try have : w1.heap.size < w2.heap.size := by omega); (try have : w1.heap.size < w2.heap.size + 1 := by omega); (try have : w1.heap.size < w2.heap.size + 1 + 1 := by omega); (try have : w1.heap.size < w2.heap.size + 1 + 1 + 1 := by omega)); have m0 := (hc2 E 0 (by omega)).trans m0; have m1 := (hc2 E 1 (by omega)).trans m1; have m2 := (hc2 E 2 (by omega)).trans m2; have m3 := (hc2 E 3 (by omega)).trans m3; have m4 := (hc2 E 4 (by omega)).trans m4; have m5 := (hc2 E 5 (by omega)).trans m5; have m6 := (hc2 E 6 (by omega)).trans m6; have m7 := (hc2 E 7 (by omega)).trans m7; have m8 := (hc2 E 8 (by omega)).trans m8; have p0 := (hc2 B 0 (by omega)).trans p0; have q0 := (hc2 C 0 (by omega)).trans q0; have p1 := (hc2 B 1 (by omega)).trans p1; have q1 := (hc2 C 1 (by omega)).trans q1; have p2 := (hc2 B 2 (by omega)).trans p2; have q2 := (hc2 C 2 (by omega)).trans q2; have p3 := (hc2 B 3 (by omega)).trans p3; have q3 := (hc2 C 3 (by omega)).trans q3; have eE2 : E < w2.heap.size := (by omega); have eB2 : B < w2.heap.size := (by omega); have eC2 : C < w2.heap.size := (by omega); clear hc2 hf2) | (((with_reducible refine (O4.out _).mono ?_); rintro e w3 ⟨rfl, hb3⟩; (repeat (with_reducible (replace hb3 := Below.undrew hb3))); obtain ⟨hc3, hf3⟩ := bcell hb3; have hz3 := hb3.size; (repeat (first | rw [World.size_alloc] at hz3 | rw [World.size_drew] at hz3 | rw [World.size_setCell] at hz3)); (try have : B < w3.heap.size := by omega); (try have : B < w3.heap.size + 1 := by omega); (try have : B < w3.heap.size + 1 + 1 := by omega); (try have : B < w3.heap.size + 1 + 1 + 1 := by omega); (try have : C < w3.heap.size := by omega); (try have : C < w3.heap.size + 1 := by omega); (try have : C < w3.heap.size + 1 + 1 := by omega); (try have : C < w3.heap.size + 1 + 1 + 1 := by omega); (try have : b < w3.heap.size := by omega); (try have : b < w3.heap.size + 1 := by omega); (try have : b < w3.heap.size + 1 + 1 := by omega); (try have : b < w3.heap.size + 1 + 1 + 1 := by omega); (try have : w1.heap.size < w3.heap.size := by omega); (try have : w1.heap.size < w3.heap.size + 1 := by omega); (try have : w1.heap.size < w3.heap.size + 1 + 1 := by omega); (try have : w1.heap.size < w3.heap.size + 1 + 1 + 1 := by omega); (try have : w2.heap.size < w3.heap.size := by omega); (try have : w2.heap.size < w3.heap.size + 1 := by omega); (try have : w2.heap.size < w3.heap.size + 1 + 1 := by omega); (try have : w2.heap.size < w3.heap.size + 1 + 1 + 1 := by omega)); have m0 := (hc3 E 0 (by omega)).trans m0; have m1 := (hc3 E 1 (by omega)).trans m1; have m2 := (hc3 E 2 (by omega)).trans m2; have m3 := (hc3 E 3 (by omega)).trans m3; have m4 := (hc3 E 4 (by omega)).trans m4; have m5 := (hc3 E 5 (by omega)).trans m5; have m6 := (hc3 E 6 (by omega)).trans m6; have m7 := (hc3 E 7 (by omega)).trans m7; have m8 := (hc3 E 8 (by omega)).trans m8; have p0 := (hc3 B 0 (by omega)).trans p0; have q0 := (hc3 C 0 (by omega)).trans q0; have p1 := (hc3 B 1 (by omega)).trans p1; have q1 := (hc3 C 1 (by omega)).trans q1; have p2 := (hc3 B 2 (by omega)).trans p2; have q2 := (hc3 C 2 (by omega)).trans q2; have p3 := (hc3 B 3 (by omega)).trans p3; have q3 := (hc3 C 3 (by omega)).trans q3; have eE3 : E < w3.heap.size := (by omega); have eB3 : B < w3.heap.size := (by omega); have eC3 : C < w3.heap.size := (by omega); clear hc3 hf3))
          go_roundw
          case rel => exact ⟨t + 1, by omega, by go_num, HN2, Lib.hid (by first | exact HO3.out | exact HO3.out.below hb2 | exact HO3.out.below hb3 | exact (HO3.out.below hb2).below hb3), by (repeat' (first | (with_reducible exact Below.refl _ _) | (with_reducible assumption) | (with_reducible refine Below.alloc ?_ ?_ _) | (with_reducible refine Below.drew ?_) | (with_reducible refine Below.stepG ?_ (by assumption) ?_) | (with_reducible refine Below.setCell ?_ ?_ _) | omega | (dsimp only; omega) | (simp; done) | (simp; omega)))⟩
          case measure => simp [intOf]; omega
        · rcases x2 with _ | _
          · rcases x4 with _ | _
            · have HN2 : Hid ((l.take (t + 1)).any (hitM n k m j) = false) := by
                show (l.take (t + 1)).any (hitM n k m j) = false
                rw [HT.out, List.any_append, HN.out, List.any_cons, HH.out]; rfl
              have HF := Lib.hid (show (l.take (t + 1)).filter (somM n k m j) = (l.take t).filter (somM n k m j) by
                rw [HT.out, List.filter_append, List.filter_cons, HSo.out]; simp)
              have HO2 := N1.out
              rw [← HF.out] at HO2
              have HO3 := Lib.hid HO2
              clear N1 HF HO2 HN HH HSo
              go_wp2_with (first | (((with_reducible refine (O3.out _).mono ?_); rintro e w2 ⟨rfl, hb2⟩; (repeat (with_reducible (replace hb2 := Below.undrew hb2))); obtain ⟨hc2, hf2⟩ := bcell hb2; have hz2 := hb2.size; (repeat (first | rw [World.size_alloc] at hz2 | rw [World.size_drew] at hz2 | rw [World.size_setCell] at hz2)); (try have : B < w2.heap.size := by omega); (try have : B < w2.heap.size + 1 := by omega); (try have : B < w2.heap.size + 1 + 1 := by omega); (try have : B < w2.heap.size + 1 + 1 + 1 := by omega); (try have : C < w2.heap.size := by omega); (try have : C < w2.heap.size + 1 := by omega); (try have : C < w2.heap.size + 1 + 1 := by omega); (try have : C < w2.heap.size + 1 + 1 + 1 := by omega); (try have : b < w2.heap.size := by omega); (try have : b < w2.heap.size + 1 := by omega); (try have : b < w2.heap.size + 1 + 1 := by omega); (try have : b < w2.heap.size + 1 + 1 + 1 := by omega); (try have : w1.heap.size < w2.heap.size := by omega); (try have : w1.heap.size < w2.heap.size + 1 := by omega); (try have : w1.heap.size < w2.heap.size + 1 + 1 := by omega); (try have : w1.heap.size < w2.heap.size + 1 + 1 + 1 := by omega)); have m0 := (hc2 E 0 (by omega)).trans m0; have m1 := (hc2 E 1 (by omega)).trans m1; have m2 := (hc2 E 2 (by omega)).trans m2; have m3 := (hc2 E 3 (by omega)).trans m3; have m4 := (hc2 E 4 (by omega)).trans m4; have m5 := (hc2 E 5 (by omega)).trans m5; have m6 := (hc2 E 6 (by omega)).trans m6; have m7 := (hc2 E 7 (by omega)).trans m7; have m8 := (hc2 E 8 (by omega)).trans m8; have p0 := (hc2 B 0 (by omega)).trans p0; have q0 := (hc2 C 0 (by omega)).trans q0; have p1 := (hc2 B 1 (by omega)).trans p1; have q1 := (hc2 C 1 (by omega)).trans q1; have p2 := (hc2 B 2 (by omega)).trans p2; have q2 := (hc2 C 2 (by omega)).trans q2; have p3 := (hc2 B 3 (by omega)).trans p3; have q3 := (hc2 C 3 (by omega)).trans q3; have eE2 : E < w2.heap.size := (by omega); have eB2 : B < w2.heap.size := (by omega); have eC2 : C < w2.heap.size := (by omega); clear hc2 hf2) | (((with_reducible refine (O4.out _).mono ?_); rintro e w3 ⟨rfl, hb3⟩; (repeat (with_reducible (replace hb3 := Below.undrew hb3))); obtain ⟨hc3, hf3⟩ := bcell hb3; have hz3 := hb3.size; (repeat (first | rw [World.size_alloc] at hz3 | rw [World.size_drew] at hz3 | rw [World.size_setCell] at hz3)); (try have : B < w3.heap.size := by omega); (try have : B < w3.heap.size + 1 := by omega); (try have : B < w3.heap.size + 1 + 1 := by omega); (try have : B < w3.heap.size + 1 + 1 + 1 := by omega); (try have : C < w3.heap.size := by omega); (try have : C < w3.heap.size + 1 := by omega); (try have : C < w3.heap.size + 1 + 1 := by omega); (try have : C < w3.heap.size + 1 + 1 + 1 := by omega); (try have : b < w3.heap.size := by omega); (try have : b < w3.heap.size + 1 := by omega); (try have : b < w3.heap.size + 1 + 1 := by omega); (try have : b < w3.heap.size + 1 + 1 + 1 := by omega); (try have : w1.heap.size < w3.heap.size := by omega); (try have : w1.heap.size < w3.heap.size + 1 := by omega); (try have : w1.heap.size < w3.heap.size + 1 + 1 := by omega); (try have : w1.heap.size < w3.heap.size + 1 + 1 + 1 := by omega); (try have : w2.heap.size < w3.heap.size := by omega); (try have : w2.heap.size < w3.heap.size + 1 := by omega); (try have : w2.heap.size < w3.heap.size + 1 + 1 := by omega); (try have : w2.heap.size < w3.heap.size + 1 + 1 + 1 := by omega)); have m0 := (hc3 E 0 (by omega)).trans m0; have m1 := (hc3 E 1 (by omega)).trans m1; have m2 := (hc3 E 2 (by omega)).trans m2; have m3 := (hc3 E 3 (by omega)).trans m3; have m4 := (hc3 E 4 (by omega)).trans m4; have m5 := (hc3 E 5 (by omega)).trans m5; have m6 := (hc3 E 6 (by omega)).trans m6; have m7 := (hc3 E 7 (by omega)).trans m7; have m8 := (hc3 E 8 (by omega)).trans m8; have p0 := (hc3 B 0 (by omega)).trans p0; have q0 := (hc3 C 0 (by omega)).trans q0; have p1 := (hc3 B 1 (by omega)).trans p1; have q1 := (hc3 C 1 (by omega)).trans q1; have p2 := (hc3 B 2 (by omega)).trans p2; have q2 := (hc3 C 2 (by omega)).trans q2; have p3 := (hc3 B 3 (by omega)).trans p3; have q3 := (hc3 C 3 (by omega)).trans q3; have eE3 : E < w3.heap.size := (by omega); have eB3 : B < w3.heap.size := (by omega); have eC3 : C < w3.heap.size := (by omega); clear hc3 hf3))
              go_roundw
              case rel => exact ⟨t + 1, by omega, by go_num, HN2, Lib.hid (by first | exact HO3.out | exact HO3.out.below hb2 | exact HO3.out.below hb3 | exact (HO3.out.below hb2).below hb3), by (repeat' (first | (with_reducible exact Below.refl _ _) | (with_reducible assumption) | (with_reducible refine Below.alloc ?_ ?_ _) | (with_reducible refine Below.drew ?_) | (with_reducible refine Below.stepG ?_ (by assumption) ?_) | (with_reducible refine Below.setCell ?_ ?_ _) | omega | (dsimp only; omega) | (simp; done) | (simp; omega)))⟩
              case measure => simp [intOf]; omega
            · have HN2 : Hid ((l.take (t + 1)).any (hitM n k m j) = false) := by
                show (l.take (t + 1)).any (hitM n k m j) = false
                rw [HT.out, List.any_append, HN.out, List.any_cons, HH.out]; rfl
              have HF := Lib.hid (show (l.take (t + 1)).filter (somM n k m j) = (l.take t).filter (somM n k m j) ++ [r] by
                rw [HT.out, List.filter_append, List.filter_cons, HSo.out]; rfl)
              generalize hsm : (l.take t).filter (somM n k m j) = SM at *
              have hsl : SM.length ≤ 100 := by
                rw [← hsm]
                exact Nat.le_trans (List.length_filter_le _ _) (Nat.le_trans (List.length_take_le _ _) (by omega))
              clear hsm HN HH HSo
              go_wp2_with (first | (((with_reducible refine (O3.out _).mono ?_); rintro e w2 ⟨rfl, hb2⟩; (repeat (with_reducible (replace hb2 := Below.undrew hb2))); obtain ⟨hc2, hf2⟩ := bcell hb2; have hz2 := hb2.size; (repeat (first | rw [World.size_alloc] at hz2 | rw [World.size_drew] at hz2 | rw [World.size_setCell] at hz2)); (try have : B < w2.heap.size := by omega); (try have : B < w2.heap.size + 1 := by omega); (try have : B < w2.heap.size + 1 + 1 := by omega); (try have : B < w2.heap.size + 1 + 1 + 1 := by omega); (try have : C < w2.heap.size := by omega); (try have : C < w2.heap.size + 1 := by omega); (try have : C < w2.heap.size + 1 + 1 := by omega); (try have : C < w2.heap.size + 1 + 1 + 1 := by omega); (try have : b < w2.heap.size := by omega); (try have : b < w2.heap.size + 1 := by omega); (try have : b < w2.heap.size + 1 + 1 := by omega); (try have : b < w2.heap.size + 1 + 1 + 1 := by omega); (try have : w1.heap.size < w2.heap.size := by omega); (try have : w1.heap.size < w2.heap.size + 1 := by omega); (try have : w1.heap.size < w2.heap.size + 1 + 1 := by omega); (try have : w1.heap.size < w2.heap.size + 1 + 1 + 1 := by omega)); have m0 := (hc2 E 0 (by omega)).trans m0; have m1 := (hc2 E 1 (by omega)).trans m1; have m2 := (hc2 E 2 (by omega)).trans m2; have m3 := (hc2 E 3 (by omega)).trans m3; have m4 := (hc2 E 4 (by omega)).trans m4; have m5 := (hc2 E 5 (by omega)).trans m5; have m6 := (hc2 E 6 (by omega)).trans m6; have m7 := (hc2 E 7 (by omega)).trans m7; have m8 := (hc2 E 8 (by omega)).trans m8; have p0 := (hc2 B 0 (by omega)).trans p0; have q0 := (hc2 C 0 (by omega)).trans q0; have p1 := (hc2 B 1 (by omega)).trans p1; have q1 := (hc2 C 1 (by omega)).trans q1; have p2 := (hc2 B 2 (by omega)).trans p2; have q2 := (hc2 C 2 (by omega)).trans q2; have p3 := (hc2 B 3 (by omega)).trans p3; have q3 := (hc2 C 3 (by omega)).trans q3; have eE2 : E < w2.heap.size := (by omega); have eB2 : B < w2.heap.size := (by omega); have eC2 : C < w2.heap.size := (by omega); clear hc2 hf2) | (((with_reducible refine (O4.out _).mono ?_); rintro e w3 ⟨rfl, hb3⟩; (repeat (with_reducible (replace hb3 := Below.undrew hb3))); obtain ⟨hc3, hf3⟩ := bcell hb3; have hz3 := hb3.size; (repeat (first | rw [World.size_alloc] at hz3 | rw [World.size_drew] at hz3 | rw [World.size_setCell] at hz3)); (try have : B < w3.heap.size := by omega); (try have : B < w3.heap.size + 1 := by omega); (try have : B < w3.heap.size + 1 + 1 := by omega); (try have : B < w3.heap.size + 1 + 1 + 1 := by omega); (try have : C < w3.heap.size := by omega); (try have : C < w3.heap.size + 1 := by omega); (try have : C < w3.heap.size + 1 + 1 := by omega); (try have : C < w3.heap.size + 1 + 1 + 1 := by omega); (try have : b < w3.heap.size := by omega); (try have : b < w3.heap.size + 1 := by omega); (try have : b < w3.heap.size + 1 + 1 := by omega); (try have : b < w3.heap.size + 1 + 1 + 1 := by omega); (try have : w1.heap.size < w3.heap.size := by omega); (try have : w1.heap.size < w3.heap.size + 1 := by omega); (try have : w1.heap.size < w3.heap.size + 1 + 1 := by omega); (try have : w1.heap.size < w3.heap.size + 1 + 1 + 1 := by omega); (try have : w2.heap.size < w3.heap.size := by omega); (try have : w2.heap.size < w3.heap.size + 1 := by omega); (try have : w2.heap.size < w3.heap.size + 1 + 1 := by omega); (try have : w2.heap.size < w3.heap.size + 1 + 1 + 1 := by omega)); have m0 := (hc3 E 0 (by omega)).trans m0; have m1 := (hc3 E 1 (by omega)).trans m1; have m2 := (hc3 E 2 (by omega)).trans m2; have m3 := (hc3 E 3 (by omega)).trans m3; have m4 := (hc3 E 4 (by omega)).trans m4; have m5 := (hc3 E 5 (by omega)).trans m5; have m6 := (hc3 E 6 (by omega)).trans m6; have m7 := (hc3 E 7 (by omega)).trans m7; have m8 := (hc3 E 8 (by omega)).trans m8; have p0 := (hc3 B 0 (by omega)).trans p0; have q0 := (hc3 C 0 (by omega)).trans q0; have p1 := (hc3 B 1 (by omega)).trans p1; have q1 := (hc3 C 1 (by omega)).trans q1; have p2 := (hc3 B 2 (by omega)).trans p2; have q2 := (hc3 C 2 (by omega)).trans q2; have p3 := (hc3 B 3 (by omega)).trans p3; have q3 := (hc3 C 3 (by omega)).trans q3; have eE3 : E < w3.heap.size := (by omega); have eB3 : B < w3.heap.size := (by omega); have eC3 : C < w3.heap.size := (by omega); clear hc3 hf3) | (at_builtin; refine stop_at ?_; intro G hG))
              rw [← hG.out]; clear hG G
              refine wpList_append_any rfl _ _ 66 78 9 72 _ rfl eiMatch W.heap.size _ ((SM).map matchCells) rfl (by first | exact N1.out.alloc _ | exact (N1.out.below hb2).alloc _ | exact (N1.out.below hb3).alloc _ | exact ((N1.out.below hb2).below hb3).alloc _) _ (([r]).map matchCells) rfl (sl_mat r (by simp)) (by intro c hc; obtain ⟨r, _, rfl⟩ := List.mem_map.1 hc; exact matchCells_one r) (by skip; first | omega | (simp; omega)) (by decide) (by first | omega | (simp; done) | (simp; omega)) ?_
              intro v4 w4 hown4 hb4
              rw [← List.map_append] at hown4
              obtain ⟨xs4, hxs4⟩ : ∃ x : List MatchD, x = (SM) ++ ([r]) := ⟨_, rfl⟩
              rw [← hxs4] at hown4
              have hl4 : xs4.length = (SM).length + ([r]).length := by rw [hxs4, List.length_append]
              have HX4 := Lib.hid hxs4
              clear hxs4
              have HL4 := Lib.hid hl4
              clear hl4
              obtain ⟨a4, cap4, rfl⟩ := hown4.shape
              rw [List.length_map] at hown4 ⊢
              have HO4 := Lib.hid hown4
              clear hown4
              obtain ⟨hc4, hf4⟩ := bcellB hb4; have hz4 := hb4.size; (repeat (first | rw [World.size_alloc] at hz4 | rw [World.size_drew] at hz4 | rw [World.size_setCell] at hz4)); (try have : B < w4.heap.size := by omega); (try have : B < w4.heap.size + 1 := by omega); (try have : B < w4.heap.size + 1 + 1 := by omega); (try have : B < w4.heap.size + 1 + 1 + 1 := by omega); (try have : C < w4.heap.size := by omega); (try have : C < w4.heap.size + 1 := by omega); (try have : C < w4.heap.size + 1 + 1 := by omega); (try have : C < w4.heap.size + 1 + 1 + 1 := by omega); (try have : b < w4.heap.size := by omega); (try have : b < w4.heap.size + 1 := by omega); (try have : b < w4.heap.size + 1 + 1 := by omega); (try have : b < w4.heap.size + 1 + 1 + 1 := by omega); (try have : w1.heap.size < w4.heap.size := by omega); (try have : w1.heap.size < w4.heap.size + 1 := by omega); (try have : w1.heap.size < w4.heap.size + 1 + 1 := by omega); (try have : w1.heap.size < w4.heap.size + 1 + 1 + 1 := by omega); (try have : w2.heap.size < w4.heap.size := by omega); (try have : w2.heap.size < w4.heap.size + 1 := by omega); (try have : w2.heap.size < w4.heap.size + 1 + 1 := by omega); (try have : w2.heap.size < w4.heap.size + 1 + 1 + 1 := by omega)
              have HO5 : Hid (Own w4 W.heap.size 78 9 (.slice a4 xs4.length cap4) (((l.take (t + 1)).filter (somM n k m j)).map matchCells)) := by
                rw [HF.out, ← HX4.out]; exact HO4
              clear N1 HF HO4 HX4
              go_wp2
              go_roundw
              case rel => exact ⟨t + 1, by omega, by go_num, HN2, HO5, by (repeat' (first | (with_reducible exact Below.refl _ _) | (with_reducible assumption) | (with_reducible refine Below.alloc ?_ ?_ _) | (with_reducible refine Below.drew ?_) | (with_reducible refine Below.stepG ?_ (by assumption) ?_) | (with_reducible refine Below.setCell ?_ ?_ _) | omega | (dsimp only; omega) | (simp; done) | (simp; omega)))⟩
              case measure => simp [intOf]; omega
          · have HN2 : Hid ((l.take (t + 1)).any (hitM n k m j) = false) := by
              show (l.take (t + 1)).any (hitM n k m j) = false
              rw [HT.out, List.any_append, HN.out, List.any_cons, HH.out]; rfl
            have HF := Lib.hid (show (l.take (t + 1)).filter (somM n k m j) = (l.take t).filter (somM n k m j) ++ [r] by
              rw [HT.out, List.filter_append, List.filter_cons, HSo.out]; rfl)
            generalize hsm : (l.take t).filter (somM n k m j) = SM at *
            have hsl : SM.length ≤ 100 := by
              rw [← hsm]
              exact Nat.le_trans (List.length_filter_le _ _) (Nat.le_trans (List.length_take_le _ _) (by omega))
            clear hsm HN HH HSo
            go_wp2_with (first | (((with_reducible refine (O3.out _).mono ?_); rintro e w2 ⟨rfl, hb2⟩; (repeat (with_reducible (replace hb2 := Below.undrew hb2))); obtain ⟨hc2, hf2⟩ := bcell hb2; have hz2 := hb2.size; (repeat (first | rw [World.size_alloc] at hz2 | rw [World.size_drew] at hz2 | rw [World.size_setCell] at hz2)); (try have : B < w2.heap.size := by omega); (try have : B < w2.heap.size + 1 := by omega); (try have : B < w2.heap.size + 1 + 1 := by omega); (try have : B < w2.heap.size + 1 + 1 + 1 := by omega); (try have : C < w2.heap.size := by omega); (try have : C < w2.heap.size + 1 := by omega); (try have : C < w2.heap.size + 1 + 1 := by omega); (try have : C < w2.heap.size + 1 + 1 + 1 := by omega); (try have : b < w2.heap.size := by omega); (try have : b < w2.heap.size + 1 := by omega); (try have : b < w2.heap.size + 1 + 1 := by omega); (try have : b < w2.heap.size + 1 + 1 + 1 := by omega); (try have : w1.heap.size < w2.heap.size := by omega); (try have : w1.heap.size < w2.heap.size + 1 := by omega); (try have : w1.heap.size < w2.heap.size + 1 + 1 := by omega); (try have : w1.heap.size < w2.heap.size + 1 + 1 + 1 := by omega)); have m0 := (hc2 E 0 (by omega)).trans m0; have m1 := (hc2 E 1 (by omega)).trans m1; have m2 := (hc2 E 2 (by omega)).trans m2; have m3 := (hc2 E 3 (by omega)).trans m3; have m4 := (hc2 E 4 (by omega)).trans m4; have m5 := (hc2 E 5 (by omega)).trans m5; have m6 := (hc2 E 6 (by omega)).trans m6; have m7 := (hc2 E 7 (by omega)).trans m7; have m8 := (hc2 E 8 (by omega)).trans m8; have p0 := (hc2 B 0 (by omega)).trans p0; have q0 := (hc2 C 0 (by omega)).trans q0; have p1 := (hc2 B 1 (by omega)).trans p1; have q1 := (hc2 C 1 (by omega)).trans q1; have p2 := (hc2 B 2 (by omega)).trans p2; have q2 := (hc2 C 2 (by omega)).trans q2; have p3 := (hc2 B 3 (by omega)).trans p3; have q3 := (hc2 C 3 (by omega)).trans q3; have eE2 : E < w2.heap.size := (by omega); have eB2 : B < w2.heap.size := (by omega); have eC2 : C < w2.heap.size := (by omega); clear hc2 hf2) | (((with_reducible refine (O4.out _).mono ?_); rintro e w3 ⟨rfl, hb3⟩; (repeat (with_reducible (replace hb3 := Below.undrew hb3))); obtain ⟨hc3, hf3⟩ := bcell hb3; have hz3 := hb3.size; (repeat (first | rw [World.size_alloc] at hz3 | rw [World.size_drew] at hz3 | rw [World.size_setCell] at hz3)); (try have : B < w3.heap.size := by omega); (try have : B < w3.heap.size + 1 := by omega); (try have : B < w3.heap.size + 1 + 1 := by omega); (try have : B < w3.heap.size + 1 + 1 + 1 := by omega); (try have : C < w3.heap.size := by omega); (try have : C < w3.heap.size + 1 := by omega); (try have : C < w3.heap.size + 1 + 1 := by omega); (try have : C < w3.heap.size + 1 + 1 + 1 := by omega); (try have : b < w3.heap.size := by omega); (try have : b < w3.heap.size + 1 := by omega); (try have : b < w3.heap.size + 1 + 1 := by omega); (try have : b < w3.heap.size + 1 + 1 + 1 := by omega); (try have : w1.heap.size < w3.heap.size := by omega); (try have : w1.heap.size < w3.heap.size + 1 := by omega); (try have : w1.heap.size < w3.heap.size + 1 + 1 := by omega); (try have : w1.heap.size < w3.heap.size + 1 + 1 + 1 := by omega); (try have : w2.heap.size < w3.heap.size := by omega); (try have : w2.heap.size < w3.heap.size + 1 := by omega); (try have : w2.heap.size < w3.heap.size + 1 + 1 := by omega); (try have : w2.heap.size < w3.heap.size + 1 + 1 + 1 := by omega)); have m0 := (hc3 E 0 (by omega)).trans m0; have m1 := (hc3 E 1 (by omega)).trans m1; have m2 := (hc3 E 2 (by omega)).trans m2; have m3 := (hc3 E 3 (by omega)).trans m3; have m4 := (hc3 E 4 (by omega)).trans m4; have m5 := (hc3 E 5 (by omega)).trans m5; have m6 := (hc3 E 6 (by omega)).trans m6; have m7 := (hc3 E 7 (by omega)).trans m7; have m8 := (hc3 E 8 (by omega)).trans m8; have p0 := (hc3 B 0 (by omega)).trans p0; have q0 := (hc3 C 0 (by omega)).trans q0; have p1 := (hc3 B 1 (by omega)).trans p1; have q1 := (hc3 C 1 (by omega)).trans q1; have p2 := (hc3 B 2 (by omega)).trans p2; have q2 := (hc3 C 2 (by omega)).trans q2; have p3 := (hc3 B 3 (by omega)).trans p3; have q3 := (hc3 C 3 (by omega)).trans q3; have eE3 : E < w3.heap.size := (by omega); have eB3 : B < w3.heap.size := (by omega); have eC3 : C < w3.heap.size := (by omega); clear hc3 hf3) | (at_builtin; refine stop_at ?_; intro G hG))
            rw [← hG.out]; clear hG G
            refine wpList_append_any rfl _ _ 66 78 9 72 _ rfl eiMatch W.heap.size _ ((SM).map matchCells) rfl (by first | exact N1.out.alloc _ | exact (N1.out.below hb2).alloc _ | exact (N1.out.below hb3).alloc _ | exact ((N1.out.below hb2).below hb3).alloc _) _ (([r]).map matchCells) rfl (sl_mat r (by simp)) (by intro c hc; obtain ⟨r, _, rfl⟩ := List.mem_map.1 hc; exact matchCells_one r) (by skip; first | omega | (simp; omega)) (by decide) (by first | omega | (simp; done) | (simp; omega)) ?_
            intro v4 w4 hown4 hb4
            rw [← List.map_append] at hown4
            obtain ⟨xs4, hxs4⟩ : ∃ x : List MatchD, x = (SM) ++ ([r]) := ⟨_, rfl⟩
            rw [← hxs4] at hown4
            have hl4 : xs4.length = (SM).length + ([r]).length := by rw [hxs4, List.length_append]
            have HX4 := Lib.hid hxs4
            clear hxs4
            have HL4 := Lib.hid hl4
            clear hl4
            obtain ⟨a4, cap4, rfl⟩ := hown4.shape
            rw [List.length_map] at hown4 ⊢
            have HO4 := Lib.hid hown4
            clear hown4
            obtain ⟨hc4, hf4⟩ := bcellB hb4; have hz4 := hb4.size; (repeat (first | rw [World.size_alloc] at hz4 | rw [World.size_drew] at hz4 | rw [World.size_setCell] at hz4)); (try have : B < w4.heap.size := by omega); (try have : B < w4.heap.size + 1 := by omega); (try have : B < w4.heap.size + 1 + 1 := by omega); (try have : B < w4.heap.size + 1 + 1 + 1 := by omega); (try have : C < w4.heap.size := by omega); (try have : C < w4.heap.size + 1 := by omega); (try have : C < w4.heap.size + 1 + 1 := by omega); (try have : C < w4.heap.size + 1 + 1 + 1 := by omega); (try have : b < w4.heap.size := by omega); (try have : b < w4.heap.size + 1 := by omega); (try have : b < w4.heap.size + 1 + 1 := by omega); (try have : b < w4.heap.size + 1 + 1 + 1 := by omega); (try have : w1.heap.size < w4.heap.size := by omega); (try have : w1.heap.size < w4.heap.size + 1 := by omega); (try have : w1.heap.size < w4.heap.size + 1 + 1 := by omega); (try have : w1.heap.size < w4.heap.size + 1 + 1 + 1 := by omega); (try have : w2.heap.size < w4.heap.size := by omega); (try have : w2.heap.size < w4.heap.size + 1 := by omega); (try have : w2.heap.size < w4.heap.size + 1 + 1 := by omega); (try have : w2.heap.size < w4.heap.size + 1 + 1 + 1 := by omega)
            have HO5 : Hid (Own w4 W.heap.size 78 9 (.slice a4 xs4.length cap4) (((l.take (t + 1)).filter (somM n k m j)).map matchCells)) := by
              rw [HF.out, ← HX4.out]; exact HO4
            clear N1 HF HO4 HX4
            go_wp2
            go_roundw
            case rel => exact ⟨t + 1, by omega, by go_num, HN2, HO5, by (repeat' (first | (with_reducible exact Below.refl _ _) | (with_reducible assumption) | (with_reducible refine Below.alloc ?_ ?_ _) | (with_reducible refine Below.drew ?_) | (with_reducible refine Below.stepG ?_ (by assumption) ?_) | (with_reducible refine Below.setCell ?_ ?_ _) | omega | (dsimp only; omega) | (simp; done) | (simp; omega)))⟩
            case measure => simp [intOf]; omega
      · rcases x2 with _ | _
        · rcases x4 with _ | _
          · have HN2 : Hid ((l.take (t + 1)).any (hitM n k m j) = false) := by
              show (l.take (t + 1)).any (hitM n k m j) = false
              rw [HT.out, List.any_append, HN.out, List.any_cons, HH.out]; rfl
            have HF := Lib.hid (show (l.take (t + 1)).filter (somM n k m j) = (l.take t).filter (somM n k m j) by
              rw [HT.out, List.filter_append, List.filter_cons, HSo.out]; simp)
            have HO2 := N1.out
            rw [← HF.out] at HO2
            have HO3 := Lib.hid HO2
            clear N1 HF HO2 HN HH HSo
            go_wp2_with (first | (((with_reducible refine (O3.out _).mono ?_); rintro e w2 ⟨rfl, hb2⟩; (repeat (with_reducible (replace hb2 := Below.undrew hb2))); obtain ⟨hc2, hf2⟩ := bcell hb2; have hz2 := hb2.size; (repeat (first | rw [World.size_alloc] at hz2 | rw [World.size_drew] at hz2 | rw [World.size_setCell] at hz2)); (try have : B < w2.heap.size := by omega); (try have : B < w2.heap.size + 1 := by omega); (try have : B < w2.heap.size + 1 + 1 := by omega); (try have : B < w2.heap.size + 1 + 1 + 1 := by omega); (try have : C < w2.heap.size := by omega); (try have : C < w2.heap.size + 1 := by omega); (try have : C < w2.heap.size + 1 + 1 := by omega); (try have : C < w2.heap.size + 1 + 1 + 1 := by omega); (try have : b < w2.heap.size := by omega); (try have : b < w2.heap.size + 1 := by omega); (try have : b < w2.heap.size + 1 + 1 := by omega); (try have : b < w2.heap.size + 1 + 1 + 1 := by omega); (try have : w1.heap.size < w2.heap.size := by omega); (try have : w1.heap.size < w2.heap.size + 1 := by omega); (try have : w1.heap.size < w2.heap.size + 1 + 1 := by omega); (try have : w1.heap.size < w2.heap.size + 1 + 1 + 1 := by omega)); have m0 := (hc2 E 0 (by omega)).trans m0; have m1 := (hc2 E 1 (by omega)).trans m1; have m2 := (hc2 E 2 (by omega)).trans m2; have m3 := (hc2 E 3 (by omega)).trans m3; have m4 := (hc2 E 4 (by omega)).trans m4; have m5 := (hc2 E 5 (by omega)).trans m5; have m6 := (hc2 E 6 (by omega)).trans m6; have m7 := (hc2 E 7 (by omega)).trans m7; have m8 := (hc2 E 8 (by omega)).trans m8; have p0 := (hc2 B 0 (by omega)).trans p0; have q0 := (hc2 C 0 (by omega)).trans q0; have p1 := (hc2 B 1 (by omega)).trans p1; have q1 := (hc2 C 1 (by omega)).trans q1; have p2 := (hc2 B 2 (by omega)).trans p2; have q2 := (hc2 C 2 (by omega)).trans q2; have p3 := (hc2 B 3 (by omega)).trans p3; have q3 := (hc2 C 3 (by omega)).trans q3; have eE2 : E < w2.heap.size := (by omega); have eB2 : B < w2.heap.size := (by omega); have eC2 : C < w2.heap.size := (by omega); clear hc2 hf2) | (((with_reducible refine (O4.out _).mono ?_); rintro e w3 ⟨rfl, hb3⟩; (repeat (with_reducible (replace hb3 := Below.undrew hb3))); obtain ⟨hc3, hf3⟩ := bcell hb3; have hz3 := hb3.size; (repeat (first | rw [World.size_alloc] at hz3 | rw [World.size_drew] at hz3 | rw [World.size_setCell] at hz3)); (try have : B < w3.heap.size := by omega); (try have : B < w3.heap.size + 1 := by omega); (try have : B < w3.heap.size + 1 + 1 := by omega); (try have : B < w3.heap.size + 1 + 1 + 1 := by omega); (try have : C < w3.heap.size := by omega); (try have : C < w3.heap.size + 1 := by omega); (try have : C < w3.heap.size + 1 + 1 := by omega); (try have : C < w3.heap.size + 1 + 1 + 1 := by omega); (try have : b < w3.heap.size := by omega); (try have : b < w3.heap.size + 1 := by omega); (try have : b < w3.heap.size + 1 + 1 := by omega); (try have : b < w3.heap.size + 1 + 1 + 1 := by omega); (try have : w1.heap.size < w3.heap.size := by omega); (try have : w1.heap.size < w3.heap.size + 1 := by omega); (try have : w1.heap.size < w3.heap.size + 1 + 1 := by omega); (try have : w1.heap.size < w3.heap.size + 1 + 1 + 1 := by omega); (try have : w2.heap.size < w3.heap.size := by omega); (try have : w2.heap.size < w3.heap.size + 1 := by omega); (try have : w2.heap.size < w3.heap.size + 1 + 1 := by omega); (try have : w2.heap.size < w3.heap.size + 1 + 1 + 1 := by omega)); have m0 := (hc3 E 0 (by omega)).trans m0; have m1 := (hc3 E 1 (by omega)).trans m1; have m2 := (hc3 E 2 (by omega)).trans m2; have m3 := (hc3 E 3 (by omega)).trans m3; have m4 := (hc3 E 4 (by omega)).trans m4; have m5 := (hc3 E 5 (by omega)).trans m5; have m6 := (hc3 E 6 (by omega)).trans m6; have m7 := (hc3 E 7 (by omega)).trans m7; have m8 := (hc3 E 8 (by omega)).trans m8; have p0 := (hc3 B 0 (by omega)).trans p0; have q0 := (hc3 C 0 (by omega)).trans q0; have p1 := (hc3 B 1 (by omega)).trans p1; have q1 := (hc3 C 1 (by omega)).trans q1; have p2 := (hc3 B 2 (by omega)).trans p2; have q2 := (hc3 C 2 (by omega)).trans q2; have p3 := (hc3 B 3 (by omega)).trans p3; have q3 := (hc3 C 3 (by omega)).trans q3; have eE3 : E < w3.heap.size := (by omega); have eB3 : B < w3.heap.size := (by omega); have eC3 : C < w3.heap.size := (by omega); clear hc3 hf3))
            go_roundw
            case rel => exact ⟨t + 1, by omega, by go_num, HN2, Lib.hid (by first | exact HO3.out | exact HO3.out.below hb2 | exact HO3.out.below hb3 | exact (HO3.out.below hb2).below hb3), by (repeat' (first | (with_reducible exact Below.refl _ _) | (with_reducible assumption) | (with_reducible refine Below.alloc ?_ ?_ _) | (with_reducible refine Below.drew ?_) | (with_reducible refine Below.stepG ?_ (by assumption) ?_) | (with_reducible refine Below.setCell ?_ ?_ _) | omega | (dsimp only; omega) | (simp; done) | (simp; omega)))⟩
            case measure => simp [intOf]; omega
          · have HN2 : Hid ((l.take (t + 1)).any (hitM n k m j) = false) := by
              show (l.take (t + 1)).any (hitM n k m j) = false
              rw [HT.out, List.any_append, HN.out, List.any_cons, HH.out]; rfl
            have HF := Lib.hid (show (l.take (t + 1)).filter (somM n k m j) = (l.take t).filter (somM n k m j) ++ [r] by
              rw [HT.out, List.filter_append, List.filter_cons, HSo.out]; rfl)
            generalize hsm : (l.take t).filter (somM n k m j) = SM at *
            have hsl : SM.length ≤ 100 := by
              rw [← hsm]
              exact Nat.le_trans (List.length_filter_le _ _) (Nat.le_trans (List.length_take_le _ _) (by omega))
            clear hsm HN HH HSo
            go_wp2_with (first | (((with_reducible refine (O3.out _).mono ?_); rintro e w2 ⟨rfl, hb2⟩; (repeat (with_reducible (replace hb2 := Below.undrew hb2))); obtain ⟨hc2, hf2⟩ := bcell hb2; have hz2 := hb2.size; (repeat (first | rw [World.size_alloc] at hz2 | rw [World.size_drew] at hz2 | rw [World.size_setCell] at hz2)); (try have : B < w2.heap.size := by omega); (try have : B < w2.heap.size + 1 := by omega); (try have : B < w2.heap.size + 1 + 1 := by omega); (try have : B < w2.heap.size + 1 + 1 + 1 := by omega); (try have : C < w2.heap.size := by omega); (try have : C < w2.heap.size + 1 := by omega); (try have : C < w2.heap.size + 1 + 1 := by omega); (try have : C < w2.heap.size + 1 + 1 + 1 := by omega); (try have : b < w2.heap.size := by omega); (try have : b < w2.heap.size + 1 := by omega); (try have : b < w2.heap.size + 1 + 1 := by omega); (try have : b < w2.heap.size + 1 + 1 + 1 := by omega); (try have : w1.heap.size < w2.heap.size := by omega); (try have : w1.heap.size < w2.heap.size + 1 := by omega); (try have : w1.heap.size < w2.heap.size + 1 + 1 := by omega); (try have : w1.heap.size < w2.heap.size + 1 + 1 + 1 := by omega)); have m0 := (hc2 E 0 (by omega)).trans m0; have m1 := (hc2 E 1 (by omega)).trans m1; have m2 := (hc2 E 2 (by omega)).trans m2; have m3 := (hc2 E 3 (by omega)).trans m3; have m4 := (hc2 E 4 (by omega)).trans m4; have m5 := (hc2 E 5 (by omega)).trans m5; have m6 := (hc2 E 6 (by omega)).trans m6; have m7 := (hc2 E 7 (by omega)).trans m7; have m8 := (hc2 E 8 (by omega)).trans m8; have p0 := (hc2 B 0 (by omega)).trans p0; have q0 := (hc2 C 0 (by omega)).trans q0; have p1 := (hc2 B 1 (by omega)).trans p1; have q1 := (hc2 C 1 (by omega)).trans q1; have p2 := (hc2 B 2 (by omega)).trans p2; have q2 := (hc2 C 2 (by omega)).trans q2; have p3 := (hc2 B 3 (by omega)).trans p3; have q3 := (hc2 C 3 (by omega)).trans q3; have eE2 : E < w2.heap.size := (by omega); have eB2 : B < w2.heap.size := (by omega); have eC2 : C < w2.heap.size := (by omega); clear hc2 hf2) | (((with_reducible refine (O4.out _).mono ?_); rintro e w3 ⟨rfl, hb3⟩; (repeat (with_reducible (replace hb3 := Below.undrew hb3))); obtain ⟨hc3, hf3⟩ := bcell hb3; have hz3 := hb3.size; (repeat (first | rw [World.size_alloc] at hz3 | rw [World.size_drew] at hz3 | rw [World.size_setCell] at hz3)); (try have : B < w3.heap.size := by omega); (try have : B < w3.heap.size + 1 := by omega); (try have : B < w3.heap.size + 1 + 1 := by omega); (try have : B < w3.heap.size + 1 + 1 + 1 := by omega); (try have : C < w3.heap.size := by omega); (try have : C < w3.heap.size + 1 := by omega); (try have : C < w3.heap.size + 1 + 1 := by omega); (try have : C < w3.heap.size + 1 + 1 + 1 := by omega); (try have : b < w3.heap.size := by omega); (try have : b < w3.heap.size + 1 := by omega); (try have : b < w3.heap.size + 1 + 1 := by omega); (try have : b < w3.heap.size + 1 + 1 + 1 := by omega); (try have : w1.heap.size < w3.heap.size := by omega); (try have : w1.heap.size < w3.heap.size + 1 := by omega); (try have : w1.heap.size < w3.heap.size + 1 + 1 := by omega); (try have : w1.heap.size < w3.heap.size + 1 + 1 + 1 := by omega); (try have : w2.heap.size < w3.heap.size := by omega); (try have : w2.heap.size < w3.heap.size + 1 := by omega); (try have : w2.heap.size < w3.heap.size + 1 + 1 := by omega); (try have : w2.heap.size < w3.heap.size + 1 + 1 + 1 := by omega)); have m0 := (hc3 E 0 (by omega)).trans m0; have m1 := (hc3 E 1 (by omega)).trans m1; have m2 := (hc3 E 2 (by omega)).trans m2; have m3 := (hc3 E 3 (by omega)).trans m3; have m4 := (hc3 E 4 (by omega)).trans m4; have m5 := (hc3 E 5 (by omega)).trans m5; have m6 := (hc3 E 6 (by omega)).trans m6; have m7 := (hc3 E 7 (by omega)).trans m7; have m8 := (hc3 E 8 (by omega)).trans m8; have p0 := (hc3 B 0 (by omega)).trans p0; have q0 := (hc3 C 0 (by omega)).trans q0; have p1 := (hc3 B 1 (by omega)).trans p1; have q1 := (hc3 C 1 (by omega)).trans q1; have p2 := (hc3 B 2 (by omega)).trans p2; have q2 := (hc3 C 2 (by omega)).trans q2; have p3 := (hc3 B 3 (by omega)).trans p3; have q3 := (hc3 C 3 (by omega)).trans q3; have eE3 : E < w3.heap.size := (by omega); have eB3 : B < w3.heap.size := (by omega); have eC3 : C < w3.heap.size := (by omega); clear hc3 hf3) | (at_builtin; refine stop_at ?_; intro G hG))
            rw [← hG.out]; clear hG G
            refine wpList_append_any rfl _ _ 66 78 9 72 _ rfl eiMatch W.heap.size _ ((SM).map matchCells) rfl (by first | exact N1.out.alloc _ | exact (N1.out.below hb2).alloc _ | exact (N1.out.below hb3).alloc _ | exact ((N1.out.below hb2).below hb3).alloc _) _ (([r]).map matchCells) rfl (sl_mat r (by simp)) (by intro c hc; obtain ⟨r, _, rfl⟩ := List.mem_map.1 hc; exact matchCells_one r) (by skip; first | omega | (simp; omega)) (by decide) (by first | omega | (simp; done) | (simp; omega)) ?_
            intro v4 w4 hown4 hb4
            rw [← List.map_append] at hown4
            obtain ⟨xs4, hxs4⟩ : ∃ x : List MatchD, x = (SM) ++ ([r]) := ⟨_, rfl⟩
            rw [← hxs4] at hown4
            have hl4 : xs4.length = (SM).length + ([r]).length := by rw [hxs4, List.length_append]
            have HX4 := Lib.hid hxs4
            clear hxs4
            have HL4 := Lib.hid hl4
            clear hl4
            obtain ⟨a4, cap4, rfl⟩ := hown4.shape
            rw [List.length_map] at hown4 ⊢
            have HO4 := Lib.hid hown4
            clear hown4
            obtain ⟨hc4, hf4⟩ := bcellB hb4; have hz4 := hb4.size; (repeat (first | rw [World.size_alloc] at hz4 | rw [World.size_drew] at hz4 | rw [World.size_setCell] at hz4)); (try have : B < w4.heap.size := by omega); (try have : B < w4.heap.size + 1 := by omega); (try have : B < w4.heap.size + 1 + 1 := by omega); (try have : B < w4.heap.size + 1 + 1 + 1 := by omega); (try have : C < w4.heap.size := by omega); (try have : C < w4.heap.size + 1 := by omega); (try have : C < w4.heap.size + 1 + 1 := by omega); (try have : C < w4.heap.size + 1 + 1 + 1 := by omega); (try have : b < w4.heap.size := by omega); (try have : b < w4.heap.size + 1 := by omega); (try have : b < w4.heap.size + 1 + 1 := by omega); (try have : b < w4.heap.size + 1 + 1 + 1 := by omega); (try have : w1.heap.size < w4.heap.size := by omega); (try have : w1.heap.size < w4.heap.size + 1 := by omega); (try have : w1.heap.size < w4.heap.size + 1 + 1 := by omega); (try have : w1.heap.size < w4.heap.size + 1 + 1 + 1 := by omega); (try have : w2.heap.size < w4.heap.size := by omega); (try have : w2.heap.size < w4.heap.size + 1 := by omega); (try have : w2.heap.size < w4.heap.size + 1 + 1 := by omega); (try have : w2.heap.size < w4.heap.size + 1 + 1 + 1 := by omega)
            have HO5 : Hid (Own w4 W.heap.size 78 9 (.slice a4 xs4.length cap4) (((l.take (t + 1)).filter (somM n k m j)).map matchCells)) := by
              rw [HF.out, ← HX4.out]; exact HO4
            clear N1 HF HO4 HX4
            go_wp2
            go_roundw
            case rel => exact ⟨t + 1, by omega, by go_num, HN2, HO5, by (repeat' (first | (with_reducible exact Below.refl _ _) | (with_reducible assumption) | (with_reducible refine Below.alloc ?_ ?_ _) | (with_reducible refine Below.drew ?_) | (with_reducible refine Below.stepG ?_ (by assumption) ?_) | (with_reducible refine Below.setCell ?_ ?_ _) | omega | (dsimp only; omega) | (simp; done) | (simp; omega)))⟩
            case measure => simp [intOf]; omega
        · have hRt : R = true := by
            have := HR.out
            unfold wholeF at this
            rw [if_pos] at this
            · exact this.symm
            · rw [List.any_eq_true]
              exact ⟨r, HMEM.out, HH.out⟩
          subst hRt
          go_wp2
          go_returns
          exact ⟨rfl, FB.trans (B1.mono (by have := FB.size; omega))⟩
    · obtain rfl : t = l.length := by omega
      have HN2 := HN.out
      have HO2 := HO.out
      rw [List.take_length] at HN2 HO2
      have hu : wholeF (f + 1) l n k m j = R := HR.out
      unfold wholeF at hu
      rw [if_neg (by rw [HN2]; simp)] at hu
      have SL := fun h => som_lt (n := n) (k := k) (m := m) (j := j) HOK.out HP.out HQ.out HN2 h
      have hoks : ∀ q ∈ l.filter (somM n k m j), MatchD.ok q := fun q hq => HOK.out q (List.mem_filter.1 hq).1
      have hsl : (l.filter (somM n k m j)).length ≤ 100 := Nat.le_trans (List.length_filter_le _ _) hlen
      generalize l.filter (somM n k m j) = SM at *
      obtain ⟨a2, cap2, hv, hc2, hc3⟩ := HO2.sl.shape
      rw [List.length_map] at hv hc2
      subst hv
      have FW : Below w.heap.size w wr := FB.trans (hbr.mono (by have := FB.size; omega))
      have hk32 : k ≤ 32 := HP.out.2.1
      have hj32 : j ≤ 32 := HQ.out.2.1
      clear P0 P1 P2 P3 Q0 Q1 Q2 Q3 FB HOK HN HO HN2 FO HR V1 V2 V3 V4
      by_cases hs : SM = []
      · subst hs
        rw [if_pos rfl] at hu
        subst hu
        clear HO2 SL
        go_wp2
        go_returns
        exact ⟨rfl, FW⟩
      · obtain ⟨l1, l2⟩ := SL hs
        rw [if_neg hs] at hu
        have hs0 : ((SM.length : Int) == 0) = false := by
          have := List.length_pos_iff.2 hs
          rw [beq_eq_false_iff_ne]; omega
        have HO3 := Lib.hid HO2
        have MC := Lib.hid (fun w hs c hb => mContains_any a2 cap2 SM k B w hs hsl c hb)
        have U1 := Lib.hid (fun w => half_low false n k w (by omega))
        have U2 := Lib.hid (fun w => half_low false m j w (by omega))
        clear HO2 SL
        generalize hany : SM.any (fun q => decide (k < q.k)) = x at *
        rcases x with _ | _
        · have hjl := l2 rfl
          rw [if_neg (by simp)] at hu
          have hvp := half_vp (six := false) HQ.out hjl
          have U3 := Lib.hid (fun w => half_high false m j w HQ.out hjl)
          have C0 := Lib.hid (fun a cap w hs => IH.out SM a cap n k m (j + 1) w hs hsl hoks HP.out hvp.1 (by omega))
          have C1 := Lib.hid (fun a cap w hs => IH.out SM a cap n k (halfN 32 m j 1) (j + 1) w hs hsl hoks HP.out hvp.2 (by omega))
          generalize wholeF f SM n k m (j + 1) = y0 at *
          generalize wholeF f SM n k (halfN 32 m j 1) (j + 1) = y1 at *
          have HU := Lib.hid hu
          clear hvp hoks hu hs l1 l2 hany
          rw [show wd false = 32 from rfl] at U3
          go_wp2_with fail
          refine (MC.out _ HO3.out.sl p3 gB).mono ?_
          rintro e w1 ⟨rfl, hb1⟩; (repeat (with_reducible (replace hb1 := Below.undrew hb1))); obtain ⟨hc1, hf1⟩ := bcell hb1; have hz1 := hb1.size; (repeat (first | rw [World.size_alloc] at hz1 | rw [World.size_drew] at hz1 | rw [World.size_setCell] at hz1)); (try have : B < w1.heap.size := by omega); (try have : B < w1.heap.size + 1 := by omega); (try have : B < w1.heap.size + 1 + 1 := by omega); (try have : B < w1.heap.size + 1 + 1 + 1 := by omega); (try have : C < w1.heap.size := by omega); (try have : C < w1.heap.size + 1 := by omega); (try have : C < w1.heap.size + 1 + 1 := by omega); (try have : C < w1.heap.size + 1 + 1 + 1 := by omega); (try have : b < w1.heap.size := by omega); (try have : b < w1.heap.size + 1 := by omega); (try have : b < w1.heap.size + 1 + 1 := by omega); (try have : b < w1.heap.size + 1 + 1 + 1 := by omega)
          have r0 := (hc1 B 0 gB).trans p0
          have s0 := (hc1 C 0 gC).trans q0
          have r1 := (hc1 B 1 gB).trans p1
          have s1 := (hc1 C 1 gC).trans q1
          have r2 := (hc1 B 2 gB).trans p2
          have s2 := (hc1 C 2 gC).trans q2
          have r3 := (hc1 B 3 gB).trans p3
          have s3 := (hc1 C 3 gC).trans q3
          have gB1 : B < w1.heap.size := by omega
          have gC1 : C < w1.heap.size := by omega
          clear hc1 hf1 p0 p1 p2 p3 q0 q1 q2 q3
          have HS1 := HO3.out.sl.below hb1
          have K0 := Lib.hid (fun d os => C0.out a2 cap2 (grow (redrawn w1 d) os) (HS1.below (below_regrown _ _ _)))
          have K1 := Lib.hid (fun d os => C1.out a2 cap2 (grow (redrawn w1 d) os) (HS1.below (below_regrown _ _ _)))
          simp only [Int.natCast_add, Int.cast_ofNat_Int] at K0 K1
          clear HS1 C0 C1
          go_wp2_with fail
          rcases y0 with _ | _
          · obtain rfl : false = R := HU.out
            refine wp_region_qb (by kernel_rfl) (by kernel_rfl) (fun kq => ?_)
            repeat (quiet_step (first | (with_reducible exact Calls.regrown_of (U2.out _)) | (with_reducible exact Calls.regrown_of (K0.out _ _))))
            clear kq
            refine wpQuiet_nil ?_; intro w2 hb2; (repeat (with_reducible (replace hb2 := Below.undrew hb2))); obtain ⟨hc2, hf2⟩ := bcell hb2; have hz2 := hb2.size; (repeat (first | rw [World.size_alloc] at hz2 | rw [World.size_drew] at hz2 | rw [World.size_setCell] at hz2)); (try have : B < w2.heap.size := by omega); (try have : B < w2.heap.size + 1 := by omega); (try have : B < w2.heap.size + 1 + 1 := by omega); (try have : B < w2.heap.size + 1 + 1 + 1 := by omega); (try have : C < w2.heap.size := by omega); (try have : C < w2.heap.size + 1 := by omega); (try have : C < w2.heap.size + 1 + 1 := by omega); (try have : C < w2.heap.size + 1 + 1 + 1 := by omega); (try have : b < w2.heap.size := by omega); (try have : b < w2.heap.size + 1 := by omega); (try have : b < w2.heap.size + 1 + 1 := by omega); (try have : b < w2.heap.size + 1 + 1 + 1 := by omega); (try have : w1.heap.size < w2.heap.size := by omega); (try have : w1.heap.size < w2.heap.size + 1 := by omega); (try have : w1.heap.size < w2.heap.size + 1 + 1 := by omega); (try have : w1.heap.size < w2.heap.size + 1 + 1 + 1 := by omega)
            go_wp2
            go_returns
            exact ⟨rfl, by (repeat' (first | (with_reducible exact Below.refl _ _) | (with_reducible assumption) | (with_reducible refine Below.alloc ?_ ?_ _) | (with_reducible refine Below.drew ?_) | (with_reducible refine Below.stepG ?_ (by assumption) ?_) | (with_reducible refine Below.setCell ?_ ?_ _) | omega | (dsimp only; omega) | (simp; done) | (simp; omega)))⟩
          · obtain rfl : y1 = R := HU.out
            refine wp_region_qb (by kernel_rfl) (by kernel_rfl) (fun kq => ?_)
            repeat (quiet_step (first | (with_reducible exact Calls.regrown_of (U2.out _)) | (with_reducible exact Calls.regrown_of (K0.out _ _)) | (with_reducible exact Calls.regrown_of (U3.out _)) | (with_reducible exact Calls.regrown_of (K1.out _ _))))
            clear kq
            refine wpQuiet_nil ?_; intro w2 hb2; (repeat (with_reducible (replace hb2 := Below.undrew hb2))); obtain ⟨hc2, hf2⟩ := bcell hb2; have hz2 := hb2.size; (repeat (first | rw [World.size_alloc] at hz2 | rw [World.size_drew] at hz2 | rw [World.size_setCell] at hz2)); (try have : B < w2.heap.size := by omega); (try have : B < w2.heap.size + 1 := by omega); (try have : B < w2.heap.size + 1 + 1 := by omega); (try have : B < w2.heap.size + 1 + 1 + 1 := by omega); (try have : C < w2.heap.size := by omega); (try have : C < w2.heap.size + 1 := by omega); (try have : C < w2.heap.size + 1 + 1 := by omega); (try have : C < w2.heap.size + 1 + 1 + 1 := by omega); (try have : b < w2.heap.size := by omega); (try have : b < w2.heap.size + 1 := by omega); (try have : b < w2.heap.size + 1 + 1 := by omega); (try have : b < w2.heap.size + 1 + 1 + 1 := by omega); (try have : w1.heap.size < w2.heap.size := by omega); (try have : w1.heap.size < w2.heap.size + 1 := by omega); (try have : w1.heap.size < w2.heap.size + 1 + 1 := by omega); (try have : w1.heap.size < w2.heap.size + 1 + 1 + 1 := by omega)
            go_wp2
            go_returns
            exact ⟨rfl, by (repeat' (first | (with_reducible exact Below.refl _ _) | (with_reducible assumption) | (with_reducible refine Below.alloc ?_ ?_ _) | (with_reducible refine Below.drew ?_) | (with_reducible refine Below.stepG ?_ (by assumption) ?_) | (with_reducible refine Below.setCell ?_ ?_ _) | omega | (dsimp only; omega) | (simp; done) | (simp; omega)))⟩
        · have hkl := l1 rfl
          rw [if_pos rfl] at hu
          have hvp := half_vp (six := false) HP.out hkl
          have U3 := Lib.hid (fun w => half_high false n k w HP.out hkl)
          have C0 := Lib.hid (fun a cap w hs => IH.out SM a cap n (k + 1) m j w hs hsl hoks hvp.1 HQ.out (by omega))
          have C1 := Lib.hid (fun a cap w hs => IH.out SM a cap (halfN 32 n k 1) (k + 1) m j w hs hsl hoks hvp.2 HQ.out (by omega))
          generalize wholeF f SM n (k + 1) m j = y0 at *
          generalize wholeF f SM (halfN 32 n k 1) (k + 1) m j = y1 at *
          have HU := Lib.hid hu
          clear hvp hoks hu hs l1 l2 hany
          rw [show wd false = 32 from rfl] at U3
          go_wp2_with fail
          refine (MC.out _ HO3.out.sl p3 gB).mono ?_
          rintro e w1 ⟨rfl, hb1⟩; (repeat (with_reducible (replace hb1 := Below.undrew hb1))); obtain ⟨hc1, hf1⟩ := bcell hb1; have hz1 := hb1.size; (repeat (first | rw [World.size_alloc] at hz1 | rw [World.size_drew] at hz1 | rw [World.size_setCell] at hz1)); (try have : B < w1.heap.size := by omega); (try have : B < w1.heap.size + 1 := by omega); (try have : B < w1.heap.size + 1 + 1 := by omega); (try have : B < w1.heap.size + 1 + 1 + 1 := by omega); (try have : C < w1.heap.size := by omega); (try have : C < w1.heap.size + 1 := by omega); (try have : C < w1.heap.size + 1 + 1 := by omega); (try have : C < w1.heap.size + 1 + 1 + 1 := by omega); (try have : b < w1.heap.size := by omega); (try have : b < w1.heap.size + 1 := by omega); (try have : b < w1.heap.size + 1 + 1 := by omega); (try have : b < w1.heap.size + 1 + 1 + 1 := by omega)
          have r0 := (hc1 B 0 gB).trans p0
          have s0 := (hc1 C 0 gC).trans q0
          have r1 := (hc1 B 1 gB).trans p1
          have s1 := (hc1 C 1 gC).trans q1
          have r2 := (hc1 B 2 gB).trans p2
          have s2 := (hc1 C 2 gC).trans q2
          have r3 := (hc1 B 3 gB).trans p3
          have s3 := (hc1 C 3 gC).trans q3
          have gB1 : B < w1.heap.size := by omega
          have gC1 : C < w1.heap.size := by omega
          clear hc1 hf1 p0 p1 p2 p3 q0 q1 q2 q3
          have HS1 := HO3.out.sl.below hb1
          have K0 := Lib.hid (fun d os => C0.out a2 cap2 (grow (redrawn w1 d) os) (HS1.below (below_regrown _ _ _)))
          have K1 := Lib.hid (fun d os => C1.out a2 cap2 (grow (redrawn w1 d) os) (HS1.below (below_regrown _ _ _)))
          simp only [Int.natCast_add, Int.cast_ofNat_Int] at K0 K1
          clear HS1 C0 C1
          go_wp2_with fail
          rcases y0 with _ | _
          · obtain rfl : false = R := HU.out
            refine wp_region_qb (by kernel_rfl) (by kernel_rfl) (fun kq => ?_)
            repeat (quiet_step (first | (with_reducible exact Calls.regrown_of (U1.out _)) | (with_reducible exact Calls.regrown_of (K0.out _ _))))
            clear kq
            refine wpQuiet_nil ?_; intro w2 hb2; (repeat (with_reducible (replace hb2 := Below.undrew hb2))); obtain ⟨hc2, hf2⟩ := bcell hb2; have hz2 := hb2.size; (repeat (first | rw [World.size_alloc] at hz2 | rw [World.size_drew] at hz2 | rw [World.size_setCell] at hz2)); (try have : B < w2.heap.size := by omega); (try have : B < w2.heap.size + 1 := by omega); (try have : B < w2.heap.size + 1 + 1 := by omega); (try have : B < w2.heap.size + 1 + 1 + 1 := by omega); (try have : C < w2.heap.size := by omega); (try have : C < w2.heap.size + 1 := by omega); (try have : C < w2.heap.size + 1 + 1 := by omega); (try have : C < w2.heap.size + 1 + 1 + 1 := by omega); (try have : b < w2.heap.size := by omega); (try have : b < w2.heap.size + 1 := by omega); (try have : b < w2.heap.size + 1 + 1 := by omega); (try have : b < w2.heap.size + 1 + 1 + 1 := by omega); (try have : w1.heap.size < w2.heap.size := by omega); (try have : w1.heap.size < w2.heap.size + 1 := by omega); (try have : w1.heap.size < w2.heap.size + 1 + 1 := by omega); (try have : w1.heap.size < w2.heap.size + 1 + 1 + 1 := by omega)
            go_wp2
            go_returns
            exact ⟨rfl, by (repeat' (first | (with_reducible exact Below.refl _ _) | (with_reducible assumption) | (with_reducible refine Below.alloc ?_ ?_ _) | (with_reducible refine Below.drew ?_) | (with_reducible refine Below.stepG ?_ (by assumption) ?_) | (with_reducible refine Below.setCell ?_ ?_ _) | omega | (dsimp only; omega) | (simp; done) | (simp; omega)))⟩
          · obtain rfl : y1 = R := HU.out
            refine wp_region_qb (by kernel_rfl) (by kernel_rfl) (fun kq => ?_)
            repeat (quiet_step (first | (with_reducible exact Calls.regrown_of (U1.out _)) | (with_reducible exact Calls.regrown_of (K0.out _ _)) | (with_reducible exact Calls.regrown_of (U3.out _)) | (with_reducible exact Calls.regrown_of (K1.out _ _))))
            clear kq
            refine wpQuiet_nil ?_; intro w2 hb2; (repeat (with_reducible (replace hb2 := Below.undrew hb2))); obtain ⟨hc2, hf2⟩ := bcell hb2; have hz2 := hb2.size; (repeat (first | rw [World.size_alloc] at hz2 | rw [World.size_drew] at hz2 | rw [World.size_setCell] at hz2)); (try have : B < w2.heap.size := by omega); (try have : B < w2.heap.size + 1 := by omega); (try have : B < w2.heap.size + 1 + 1 := by omega); (try have : B < w2.heap.size + 1 + 1 + 1 := by omega); (try have : C < w2.heap.size := by omega); (try have : C < w2.heap.size + 1 := by omega); (try have : C < w2.heap.size + 1 + 1 := by omega); (try have : C < w2.heap.size + 1 + 1 + 1 := by omega); (try have : b < w2.heap.size := by omega); (try have : b < w2.heap.size + 1 := by omega); (try have : b < w2.heap.size + 1 + 1 := by omega); (try have : b < w2.heap.size + 1 + 1 + 1 := by omega); (try have : w1.heap.size < w2.heap.size := by omega); (try have : w1.heap.size < w2.heap.size + 1 := by omega); (try have : w1.heap.size < w2.heap.size + 1 + 1 := by omega); (try have : w1.heap.size < w2.heap.size + 1 + 1 + 1 := by omega)
            go_wp2
            go_returns
            exact ⟨rfl, by (repeat' (first | (with_reducible exact Below.refl _ _) | (with_reducible assumption) | (with_reducible refine Below.alloc ?_ ?_ _) | (with_reducible refine Below.drew ?_) | (with_reducible refine Below.stepG ?_ (by assumption) ?_) | (with_reducible refine Below.setCell ?_ ?_ _) | omega | (dsimp only; omega) | (simp; done) | (simp; omega)))⟩

theorem whole_says : ∀ f, WholeSays f
  | 0 => fun _ _ _ _ _ _ _ _ _ _ _ hp hq h => by have h1 : _ ≤ 32 := hp.2.1; have h2 : _ ≤ 32 := hq.2.1; omega
  | f + 1 => whole_step f (Lib.hid (whole_says f))
end Go.Proofs.Ytlcacocecdnpnaa
