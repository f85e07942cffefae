
/- Package stride: trees that are the same. -/
import Derived.Test.YtoecmoicaklbaaaDoorSt6
set_option linter.unusedVariables false
set_option linter.unusedSimpArgs false
namespace Go.Proofs.YtoecmoicaklbaaaDoor
open Go Go.RowKit Go.Sort Wc Wk

theorem nat1_at {w : World} {g o n c : Nat} {xs : List Nat} (h : Sl w 1 (.slice (some ⟨g, o, none⟩) n c) (xs.map nat1)) : ∀ j, j < (xs.map (fun x : Nat => (x : Int))).length → w.cell? ⟨g, o + j, none⟩ = some (.int .i64 ((xs.map (fun x : Nat => (x : Int))).getD j 0)) := by
  intro j hj
  have hj' : j < xs.length := by simpa using hj
  obtain ⟨g2, o2, e, _, hc⟩ := Sl.at h (i := j) (c := nat1 xs[j]) (by rw [List.getElem?_map, List.getElem?_eq_getElem hj']; rfl)
  cases e
  have h0 := hc 0 (.int .i64 (xs[j] : Nat)) rfl
  rw [Nat.mul_one, Nat.add_zero] at h0
  rw [h0, List.getD_eq_getElem?_getD, List.getElem?_map, List.getElem?_eq_getElem hj']
  rfl
theorem ints_eq (a b : Option Addr) (c d n : Nat) (xs : List Nat) (w : World) (hn : n = xs.length) (h1 : Sl w 1 (.slice a n c) (xs.map nat1)) (h2 : Sl w 1 (.slice b n d) (xs.map nat1)) (hl : xs.length ≤ 1000) :
    Calls Tryd.prog 53 #[.slice a n c, .slice b n d] w fun e w' => e = .returned (.bool true) ∧ Below w.heap.size w w' := by
  cases xs with
  | nil =>
    subst hn
    refine (Tryd.slices_Equal_int_empty a b c 0 d w (by decide)).mono ?_
    rintro e w' ⟨rfl, rfl⟩
    exact ⟨by simp, Below.refl _ _⟩
  | cons x xs =>
    obtain ⟨g, o, rfl, _, _⟩ := Sl.at h1 (i := 0) (c := nat1 x) rfl
    obtain ⟨g2, o2, rfl, _, _⟩ := Sl.at h2 (i := 0) (c := nat1 x) rfl
    refine (Tryd.slices_Equal_int g o n c g2 o2 n d ((x :: xs).map (fun x : Nat => (x : Int))) ((x :: xs).map (fun x : Nat => (x : Int))) w (by rw [List.length_map]; omega) (by rw [List.length_map]; omega) (by omega) (by omega) (nat1_at h1) (nat1_at h2)).mono ?_
    rintro e w' ⟨rfl, q, rfl⟩
    exact ⟨by simp, below_drewN (Below.refl _ _) q⟩

set_option maxHeartbeats 2000000 in
theorem same1_any (i o h k : Nat) (hs ks : List Nat) (a1 a2 b1 b2 : Option Addr) (c1 c2 d1 d2 : Nat) (w : World) (hh : h = hs.length) (hk : k = ks.length) (hl : hs.length ≤ 1000 ∧ ks.length ≤ 1000)
    (h1 : Sl w 1 (.slice a1 h c1) (hs.map nat1)) (h2 : Sl w 1 (.slice a2 k c2) (ks.map nat1)) (h3 : Sl w 1 (.slice b1 h d1) (hs.map nat1)) (h4 : Sl w 1 (.slice b2 k d2) (ks.map nat1)) :
    Calls Tryd.prog 52 #[.agg #[.int .u64 i, .int .u64 o, .slice a1 h c1, .slice a2 k c2], .agg #[.int .u64 i, .int .u64 o, .slice b1 h d1, .slice b2 k d2]] w fun e w' => e = .returned (.bool true) ∧ Below w.heap.size w w' := by
  have E1 := Lib.hid (fun W (hb : Below w.heap.size w W) => ints_eq a1 b1 c1 d1 h hs W hh (h1.below hb) (h3.below hb) hl.1)
  have E2 := Lib.hid (fun W (hb : Below w.heap.size w W) => ints_eq a2 b2 c2 d2 k ks W hk (h2.below hb) (h4.below hb) hl.2)
  clear hh hk hl h1 h2 h3 h4
  go_enter Tryd.func52, Tryd.ntmps52
  go_wp2_with fail
  obtain ⟨Y, hY⟩ : ∃ Y, Y = (w.alloc (.cells #[.int .u64 i, .int .u64 o, .slice a1 h c1, .slice a2 k c2] 34)).alloc (.cells #[.int .u64 i, .int .u64 o, .slice b1 h d1, .slice b2 k d2] 34) := ⟨_, rfl⟩
  have hwY : Below w.heap.size w Y := by rw [hY]; (repeat' (first | (with_reducible exact Below.refl _ _) | (with_reducible assumption) | (with_reducible refine Below.alloc ?_ ?_ _) | (with_reducible refine Below.drew ?_) | (with_reducible refine Below.stepG ?_ (by assumption) ?_) | (with_reducible refine Below.setCell ?_ ?_ _) | omega | (dsimp only; omega) | (simp; done) | (simp; omega)))
  have PX := Lib.hid (show RX Y w.heap.size [.int .u64 i, .int .u64 o, .slice a1 h c1, .slice a2 k c2] from by
    rw [hY]
    exact RX.below (rx_new (w := w) [.int .u64 i, .int .u64 o, .slice a1 h c1, .slice a2 k c2] _) ((Below.refl _ _).alloc (Nat.le_refl _) _))
  have NX := Lib.hid (show RX Y (w.heap.size + 1) [.int .u64 i, .int .u64 o, .slice b1 h d1, .slice b2 k d2] from by
    rw [hY]
    have := rx_new (w := w.alloc (.cells #[.int .u64 i, .int .u64 o, .slice a1 h c1, .slice a2 k c2] 34)) [.int .u64 i, .int .u64 o, .slice b1 h d1, .slice b2 k d2] 34
    rw [World.size_alloc] at this
    exact this)
  rw [← hY]
  have HB := Lib.hid hwY
  clear hY hwY
  refine (E1.out Y HB.out).mono ?_
  rintro e w1 ⟨rfl, hb1⟩
  have HB1 := Lib.hid (HB.out.trans (hb1.mono HB.out.size))
  have PX1 := PX.out.below hb1
  have NX1 := NX.out.below hb1
  have p3 := PX1.cell 3 _ rfl
  have n3 := NX1.cell 3 _ rfl
  have pl := PX1.lt
  have nl := NX1.lt
  clear PX NX HB hb1 PX1 NX1 E1
  go_wp2_with fail
  refine (E2.out w1 HB1.out).mono ?_
  rintro e w2 ⟨rfl, hb2⟩
  have HB2 := Lib.hid (HB1.out.trans (hb2.mono HB1.out.size))
  clear hb2 E2 p3 n3
  go_wp2_with fail
  go_returns
  exact ⟨rfl, HB2.out⟩

set_option maxHeartbeats 2000000 in
theorem eqF_any (a b : Option Addr) (n c d : Nat) (t : List NodeD) (rows1 rows2 : List (List Value)) (w : World) (h1 : NodesR w a n c t rows1) (h2 : NodesR w b n d t rows2) (hl : t.length ≤ 1000) (ht : ∀ x ∈ t, x.hops.length ≤ 1000 ∧ x.kids.length ≤ 1000) :
    Calls Tryd.prog 51 #[.slice a n c, .slice b n d, .func (.func 52) #[] #[]] w fun e w' => e = .returned (.bool true) ∧ Below w.heap.size w w' := by
  have H1 := Lib.hid h1
  have H2 := Lib.hid h2
  have HT := Lib.hid ht
  have HNL := Lib.hid h1.nl
  have hl' : n ≤ 1000 := by rw [h1.nl]; exact hl
  clear h1 h2 ht hl
  go_enter Tryd.func51, Tryd.ntmps51
  go_wp2_with fail
  go_loopw [17] (fun i wr => ∃ j : Nat, j ≤ n ∧ i = .int .i64 j ∧ Hid (Below w.heap.size w wr)) (fun i _ => n - (intOf i).toNat)
  case atStart => exact ⟨0, Nat.zero_le _, rfl, Below.refl _ _⟩
  case round =>
    obtain ⟨j, hj, rfl, HB⟩ := hrel
    have hzr := HB.out.size
    by_cases hlt : j < n
    · obtain ⟨x, hx⟩ : ∃ x, t[j]? = some x := ⟨_, List.getElem?_eq_getElem (by rw [← HNL.out]; exact hlt)⟩
      obtain ⟨r1, hr1⟩ : ∃ r, rows1[j]? = some r := ⟨_, List.getElem?_eq_getElem (by rw [H1.out.rl, ← HNL.out]; exact hlt)⟩
      obtain ⟨r2, hr2⟩ : ∃ r, rows2[j]? = some r := ⟨_, List.getElem?_eq_getElem (by rw [H2.out.rl, ← HNL.out]; exact hlt)⟩
      obtain ⟨a1, c1, a2, c2, e1, s1, s2⟩ := H1.out.ro j x r1 hx hr1
      obtain ⟨b1, d1, b2, d2, e2, s3, s4⟩ := H2.out.ro j x r2 hx hr2
      obtain ⟨g1, o1, rfl, hg1, hc1⟩ := Sl.at H1.out.sl hr1
      obtain ⟨g2, o2, rfl, hg2, hc2⟩ := Sl.at H2.out.sl hr2
      have hgr1 : g1 < wr.heap.size := by omega
      have hgr2 : g2 < wr.heap.size := by omega
      have k1 : ∀ y u, r1[y]? = some u → wr.cell? ⟨g1, o1 + j * 4 + y, none⟩ = some u := fun y u hu => (HB.out.cell (p := ⟨g1, o1 + j * 4 + y, none⟩) hg1).trans (hc1 y u hu)
      have k2 : ∀ y u, r2[y]? = some u → wr.cell? ⟨g2, o2 + j * 4 + y, none⟩ = some u := fun y u hu => (HB.out.cell (p := ⟨g2, o2 + j * 4 + y, none⟩) hg2).trans (hc2 y u hu)
      rw [e1] at k1
      rw [e2] at k2
      have a0 := k1 0 _ rfl
      have a1' := k1 1 _ rfl
      have a2' := k1 2 _ rfl
      have a3 := k1 3 _ rfl
      have b0 := k2 0 _ rfl
      have b1' := k2 1 _ rfl
      have b2' := k2 2 _ rfl
      have b3 := k2 3 _ rfl
      rw [Nat.add_zero] at a0 b0
      have F := Lib.hid (fun W (hb : Below w.heap.size w W) => same1_any (sumB x.ib) (sumB x.ob) x.hops.length x.kids.length x.hops x.kids a1 a2 b1 b2 c1 c2 d1 d2 W rfl rfl (HT.out x (List.mem_of_getElem? hx)) (s1.below hb) (s2.below hb) (s3.below hb) (s4.below hb))
      obtain ⟨si, hsi⟩ : ∃ s, s = sumB x.ib := ⟨_, rfl⟩
      obtain ⟨so, hso⟩ : ∃ s, s = sumB x.ob := ⟨_, rfl⟩
      obtain ⟨hn, hhn⟩ : ∃ s, s = x.hops.length := ⟨_, rfl⟩
      obtain ⟨kn, hkn⟩ : ∃ s, s = x.kids.length := ⟨_, rfl⟩
      rw [← hsi, ← hso, ← hhn, ← hkn] at F
      rw [← hsi] at a0 b0
      rw [← hso] at a1' b1'
      rw [← hhn] at a2' b2'
      rw [← hkn] at a3 b3
      clear hx hr1 hr2 e1 e2 s1 s2 s3 s4 hc1 hc2 k1 k2 hsi hso hhn hkn hg1 hg2
      go_wp2_with fail
      have hbY : Below w.heap.size w ((wr.alloc (.cells #[.int .u64 si, .int .u64 so, .slice a1 hn c1, .slice a2 kn c2] 34)).alloc (.cells #[.int .u64 si, .int .u64 so, .slice b1 hn d1, .slice b2 kn d2] 34)) := (HB.out.alloc (by omega) _).alloc (by simp; omega) _
      have HBY := Lib.hid hbY
      clear hbY
      refine (F.out _ HBY.out).mono ?_
      rintro e w2 ⟨rfl, hb2⟩
      have HB2 := Lib.hid (HBY.out.trans (hb2.mono HBY.out.size))
      clear hb2 F HBY HB a0 a1' a2' a3 b0 b1' b2' b3
      go_wp2_with fail
      go_roundw
      case rel => exact ⟨j + 1, by omega, by go_num, HB2⟩
      case measure => simp [intOf]; omega
    · obtain rfl : n = j := by omega
      go_wp2_with fail
      exact bodyPost_ret (v := .bool true) (by simp [results, Tryd.results51, go_sem]) rfl ⟨rfl, HB.out⟩
theorem eqF_ne (a b : Option Addr) (n m c d : Nat) (w : World) (hne : n ≠ m) :
    Calls Tryd.prog 51 #[.slice a n c, .slice b m d, .func (.func 52) #[] #[]] w fun e w' => e = .returned (.bool false) ∧ Below w.heap.size w w' := by
  have hne2 : ((n : Int) != (m : Int)) = true := by rw [bne_iff_ne]; omega
  clear hne
  go_enter Tryd.func51, Tryd.ntmps51
  go_wp2_with fail
  go_returns
  exact ⟨rfl, Below.refl _ _⟩
theorem sameN_eq (a b : Option Addr) (n c d : Nat) (t : List NodeD) (rows1 rows2 : List (List Value)) (w : World) (h1 : NodesR w a n c t rows1) (h2 : NodesR w b n d t rows2) (hl : t.length ≤ 1000) (ht : ∀ x ∈ t, x.hops.length ≤ 1000 ∧ x.kids.length ≤ 1000) :
    Calls Tryd.prog 37 #[.slice a n c, .slice b n d] w fun e w' => e = .returned (.bool true) ∧ Below w.heap.size w w' := by
  have F := Lib.hid (eqF_any a b n c d t rows1 rows2 w h1 h2 hl ht)
  clear h1 h2 hl ht
  go_enter Tryd.func37, Tryd.ntmps37
  go_wp2_with fail
  refine F.out.mono ?_
  rintro e w1 ⟨rfl, hb1⟩
  go_wp2_with fail
  go_returns
  exact ⟨rfl, hb1⟩
theorem sameN_ne (a b : Option Addr) (n m c d : Nat) (w : World) (hne : n ≠ m) :
    Calls Tryd.prog 37 #[.slice a n c, .slice b m d] w fun e w' => e = .returned (.bool false) ∧ Below w.heap.size w w' := by
  have F := Lib.hid (eqF_ne a b n m c d w hne)
  clear hne
  go_enter Tryd.func37, Tryd.ntmps37
  go_wp2_with fail
  refine F.out.mono ?_
  rintro e w1 ⟨rfl, hb1⟩
  go_wp2_with fail
  go_returns
  exact ⟨rfl, hb1⟩
end Go.Proofs.YtoecmoicaklbaaaDoor
