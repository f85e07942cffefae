
/- Contract: a table of one family, looked up at an address of the other one. -/
import Derived.Test.YtoecmoicaklbaaaLk
import Derived.Test.YtoecmoicaklbaaaSrR
import Derived.Test.YtoecmoicaklbaaaAp
import Derived.Test.YtoecmoicaklbaaaTk
set_option linter.unusedVariables false
set_option linter.unusedSimpArgs false
namespace Go.Proofs.Ytoecmoicaklbaaa
open Go Go.RowKit Go.Sort Wc Wk


theorem root6_any (tb : Nat) (w : World) : Calls Try.prog 115 #[.pointer (some ⟨tb, 0, none⟩), .agg #[.bool true, .int .u64 0, .int .u64 0, .int .i64 128]] w fun e w' => e = .returned (.pointer (some ⟨tb, 1, none⟩)) ∧ Below w.heap.size w w' := by
  go_enter Try.func115, Try.ntmps115
  go_wp2
  go_returns
  exact ⟨rfl, by (repeat' (first | (with_reducible exact Below.refl _ _) | (with_reducible assumption) | (with_reducible refine Below.al ?_ _) | (with_reducible refine Below.dr ?_) | (with_reducible refine Below.step ?_ (by assumption)) | (with_reducible refine Below.set ?_ ?_ _) | omega | (dsimp only; omega) | (simp; done) | (simp; omega)))⟩

set_option maxRecDepth 100000 in
set_option maxHeartbeats 1000000 in
theorem place6_any (tb o : Nat) (w : World) (hl : tb < w.heap.size) (h1 : w.cell? ⟨tb, 1, none⟩ = some (.pointer none)) :
    Calls Try.prog 87 #[.pointer (some ⟨tb, 0, none⟩), .agg #[.bool true, .int .u64 0, .int .u64 0, .int .i64 128], .func (Fn.func 86) #[] #[.pointer (some ⟨o, 0, none⟩)]] w fun e w' => e = .returned (.pointer (some ⟨tb, 1, none⟩)) ∧ Below w.heap.size w w' := by
  have R := Lib.hid (fun w => root6_any tb w)
  have H1 := Lib.hid h1
  have HL := Lib.hid hl
  clear h1 hl
  go_enter Try.func87, Try.ntmps87
  go_wp2_with (first | ((with_reducible refine (R.out _).mono ?_); rintro e w1 ⟨rfl, hb1⟩; (repeat (with_reducible (replace hb1 := Below.undrew hb1))); obtain ⟨hc1, hf1⟩ := bcell hb1; have hz1 := hb1.size; (repeat (first | rw [World.size_alloc] at hz1 | rw [World.size_drew] at hz1 | rw [World.size_setCell] at hz1)); (try have : w.heap.size < w1.heap.size := by omega); (try have : w.heap.size < w1.heap.size + 1 := by omega); (try have : w.heap.size < w1.heap.size + 1 + 1 := by omega); (try have : w.heap.size < w1.heap.size + 1 + 1 + 1 := by omega)))
  have HB := Lib.hid (show Below w.heap.size w w1 by (repeat' (first | (with_reducible exact Below.refl _ _) | (with_reducible assumption) | (with_reducible refine Below.alloc ?_ ?_ _) | (with_reducible refine Below.drew ?_) | (with_reducible refine Below.stepG ?_ (by assumption) ?_) | (with_reducible refine Below.setCell ?_ ?_ _) | omega | (dsimp only; omega) | (simp; done) | (simp; omega))))
  clear hb1 hc1 hf1 hz1
  go_loopw [7] (fun v wr => v = .pointer (some ⟨tb, 1, none⟩) ∧ Hid (Below w1.heap.size w1 wr)) (fun v _ => 0)
  case atStart => exact ⟨rfl, Below.refl _ _⟩
  case round =>
    obtain ⟨rfl, HBr⟩ := hrel
    have HBB := Lib.hid (HB.out.trans (HBr.out.mono HB.out.size))
    have c1 := (HBB.out.cell (p := ⟨tb, 1, none⟩) HL.out).trans H1.out
    go_wp2
    go_returns
    exact ⟨rfl, HBB.out⟩

set_option maxRecDepth 100000 in
set_option maxHeartbeats 2000000 in
theorem look6_any (tb : Nat) (w : World) (hl : tb < w.heap.size) (h1 : w.cell? ⟨tb, 1, none⟩ = some (.pointer none)) :
    Calls Try.prog 47 #[.pointer (some ⟨tb, 0, none⟩), .agg #[.bool true, .int .u64 0, .int .u64 0]] w fun e w' => e = .returned (.agg #[.int .i64 0, .int .i64 0, .int .i64 0]) ∧ Below w.heap.size w w' := by
  have WD := Lib.hid (fun w => wide_any true w)
  rw [show wdI true = 128 from rfl] at WD
  have H1 := Lib.hid h1
  have HL := Lib.hid hl
  clear h1 hl
  go_enter Try.func47, Try.ntmps47
  go_wp2_with fail
  obtain ⟨W, hW⟩ : ∃ W, W = ((w.alloc (.cells #[.bool true, .int .u64 0, .int .u64 0] 28)).alloc (.cells #[.int .i64 0, .int .i64 0, .int .i64 0] 54)).alloc (.cells #[.int .i64 0, .int .i64 0, .int .i64 0] 54) := ⟨_, rfl⟩
  have A0 : W.cell? ⟨w.heap.size, 0, none⟩ = some (.bool true) := by
    rw [hW]
    exact (Below.cell (p := ⟨w.heap.size, 0, none⟩) (((Below.refl (w.heap.size + 1) _).alloc (by simp) _).alloc (by simp) _) (Nat.lt_succ_self _)).trans (by simp)
  have A1 : W.cell? ⟨w.heap.size, 1, none⟩ = some (.int .u64 0) := by
    rw [hW]
    exact (Below.cell (p := ⟨w.heap.size, 1, none⟩) (((Below.refl (w.heap.size + 1) _).alloc (by simp) _).alloc (by simp) _) (Nat.lt_succ_self _)).trans (by simp)
  have A2 : W.cell? ⟨w.heap.size, 2, none⟩ = some (.int .u64 0) := by
    rw [hW]
    exact (Below.cell (p := ⟨w.heap.size, 2, none⟩) (((Below.refl (w.heap.size + 1) _).alloc (by simp) _).alloc (by simp) _) (Nat.lt_succ_self _)).trans (by simp)
  have HR0 : Box W (w.heap.size + 1) 0 0 := by
    rw [hW]
    refine Box.below ?_ ((Below.refl _ _).alloc (Nat.le_refl _) _)
    have := box_new (w.alloc (.cells #[.bool true, .int .u64 0, .int .u64 0] 28)) 54
    rw [World.size_alloc] at this; exact this
  have HO0 : Box W (w.heap.size + 1 + 1) 0 0 := by
    rw [hW]
    have := box_new ((w.alloc (.cells #[.bool true, .int .u64 0, .int .u64 0] 28)).alloc (.cells #[.int .i64 0, .int .i64 0, .int .i64 0] 54)) 54
    rw [World.size_alloc, World.size_alloc] at this; exact this
  have HRB := Lib.hid HR0
  have HOB := Lib.hid HO0
  have WS : W.heap.size = w.heap.size + 1 + 1 + 1 := by rw [hW]; simp
  have FB : Below w.heap.size w W := by rw [hW]; (repeat' (first | (with_reducible exact Below.refl _ _) | (with_reducible assumption) | (with_reducible refine Below.alloc ?_ ?_ _) | (with_reducible refine Below.drew ?_) | (with_reducible refine Below.stepG ?_ (by assumption) ?_) | (with_reducible refine Below.setCell ?_ ?_ _) | omega | (dsimp only; omega) | (simp; done) | (simp; omega)))
  rw [← hW]
  have HWS := Lib.hid WS
  have hw0 : w.heap.size < W.heap.size := by omega
  clear hW WS HR0 HO0
  go_cut [6] (fun v wx => ∃ pb, v = .pointer (some ⟨pb, 0, none⟩) ∧ Hid (wx.cell? ⟨pb, 0, none⟩ = some (.bool true) ∧ wx.cell? ⟨pb, 1, none⟩ = some (.int .u64 0) ∧ wx.cell? ⟨pb, 2, none⟩ = some (.int .u64 0) ∧ wx.cell? ⟨pb, 3, none⟩ = some (.int .i64 128) ∧ pb < wx.heap.size) ∧ W.heap.size ≤ pb ∧ Hid (Below W.heap.size W wx))
  case first =>
    go_region_held3 (fun w' => w'.cell? ⟨w.heap.size, 0, none⟩ = some (.bool true) ∧ w'.cell? ⟨w.heap.size, 1, none⟩ = some (.int .u64 0) ∧ w'.cell? ⟨w.heap.size, 2, none⟩ = some (.int .u64 0)) (first | (go_simp; done) | (simp [*, go_sem, World.cell?_alloc_past]; done) | (simp [*, go_sem, World.cell?_alloc_past, World.cell?_setCell_far]; done))
      (first | ((with_reducible refine (WD.out _).mono ?_); rintro e w' ⟨rfl, rfl⟩))
    all_goals go_wp2_with fail
    all_goals go_meet
    all_goals exact ⟨_, rfl, Lib.hid (by refine ⟨?_, ?_, ?_, ?_, ?_⟩ <;> simp), Nat.le_refl _, by show Below _ _ _; (repeat' (first | (with_reducible exact Below.refl _ _) | (with_reducible assumption) | (with_reducible refine Below.alloc ?_ ?_ _) | (with_reducible refine Below.drew ?_) | (with_reducible refine Below.stepG ?_ (by assumption) ?_) | (with_reducible refine Below.setCell ?_ ?_ _) | omega | (dsimp only; omega) | (simp; done) | (simp; omega)))⟩
  case rest =>
    obtain ⟨pb, rfl, HPX, hpb, HBW⟩ := hcut
    obtain ⟨p0, p1, p2, p3, px⟩ := HPX.out
    have FBc := Lib.hid (FB.trans (HBW.out.mono (by omega)))
    have HOBc := Lib.hid (HOB.out.below HBW.out)
    have HRBc := Lib.hid (HRB.out.below HBW.out)
    have HTl : tb < wc.heap.size := Nat.lt_of_lt_of_le HL.out FBc.out.size
    have HT1 := (FBc.out.cell (p := ⟨tb, 1, none⟩) HL.out).trans H1.out
    have PN := Lib.hid (place6_any tb (w.heap.size + 1 + 1) wc HTl HT1)
    clear A0 A1 A2 FB HPX HRB HOB HBW hw0
    go_wp2_with fail
    refine PN.out.mono ?_
    rintro e w4 ⟨rfl, hb4⟩
    have T1 := (hb4.cell (p := ⟨tb, 1, none⟩) HTl).trans HT1
    have P0 := (hb4.cell (p := ⟨pb, 0, none⟩) px).trans p0
    have P1 := (hb4.cell (p := ⟨pb, 1, none⟩) px).trans p1
    have P2 := (hb4.cell (p := ⟨pb, 2, none⟩) px).trans p2
    have P3 := (hb4.cell (p := ⟨pb, 3, none⟩) px).trans p3
    have hz4 := hb4.size
    have htb4 : tb < w4.heap.size := by omega
    have hpb4 : pb < w4.heap.size := by omega
    have HF4 := Lib.hid (FBc.out.trans (hb4.mono FBc.out.size))
    have HOX := Lib.hid (HOBc.out.below hb4)
    have HRX := Lib.hid (HRBc.out.below hb4)
    clear hb4 p0 p1 p2 p3 HT1 PN HOBc HRBc FBc
    go_wp2_with fail
    refine wp_region_qb (by kernel_rfl) (by kernel_rfl) (fun kq => ?_)
    repeat (quiet_step (fail))
    clear kq
    refine wpQuiet_nil ?_; intro w5 hb5; (repeat (with_reducible (replace hb5 := Below.undrew hb5))); obtain ⟨hc5, hf5⟩ := bcell hb5; have hz5 := hb5.size; (repeat (first | rw [World.size_alloc] at hz5 | rw [World.size_drew] at hz5 | rw [World.size_setCell] at hz5)); (try have : w.heap.size < w5.heap.size := by omega); (try have : w.heap.size < w5.heap.size + 1 := by omega); (try have : w.heap.size < w5.heap.size + 1 + 1 := by omega); (try have : w.heap.size < w5.heap.size + 1 + 1 + 1 := by omega); (try have : w.heap.size + 1 < w5.heap.size := by omega); (try have : w.heap.size + 1 < w5.heap.size + 1 := by omega); (try have : w.heap.size + 1 < w5.heap.size + 1 + 1 := by omega); (try have : w.heap.size + 1 < w5.heap.size + 1 + 1 + 1 := by omega); (try have : w.heap.size + 2 < w5.heap.size := by omega); (try have : w.heap.size + 2 < w5.heap.size + 1 := by omega); (try have : w.heap.size + 2 < w5.heap.size + 1 + 1 := by omega); (try have : w.heap.size + 2 < w5.heap.size + 1 + 1 + 1 := by omega); (try have : w1.heap.size < w5.heap.size := by omega); (try have : w1.heap.size < w5.heap.size + 1 := by omega); (try have : w1.heap.size < w5.heap.size + 1 + 1 := by omega); (try have : w1.heap.size < w5.heap.size + 1 + 1 + 1 := by omega)
    have B5 := HOX.out.below hb5
    have R5 := HRX.out.below hb5
    obtain ⟨b5l, b50, b51, b52, _, _, _⟩ := B5
    have HRF := Lib.hid R5
    obtain ⟨r5l, r50, r51, r52, r5f, r5g, r5h⟩ := R5
    clear hc5 hf5 HOX HRX T1 P0 P1 P2 P3
    go_wp2_with fail
    have RF := (HRF.out.set0.set1 0).set2 0
    obtain ⟨_, k0, k1, k2, _, _, _⟩ := RF
    change (((w5.setCell ⟨w.heap.size + 1, 0, none⟩ (.int .i64 0)).setCell ⟨w.heap.size + 1, 1, none⟩ (.int .i64 0)).setCell ⟨w.heap.size + 1, 2, none⟩ (.int .i64 0)).cell? ⟨w.heap.size + 1, 0, none⟩ = some (.int .i64 0) at k0
    change (((w5.setCell ⟨w.heap.size + 1, 0, none⟩ (.int .i64 0)).setCell ⟨w.heap.size + 1, 1, none⟩ (.int .i64 0)).setCell ⟨w.heap.size + 1, 2, none⟩ (.int .i64 0)).cell? ⟨w.heap.size + 1, 1, none⟩ = some (.int .i64 0) at k1
    change (((w5.setCell ⟨w.heap.size + 1, 0, none⟩ (.int .i64 0)).setCell ⟨w.heap.size + 1, 1, none⟩ (.int .i64 0)).setCell ⟨w.heap.size + 1, 2, none⟩ (.int .i64 0)).cell? ⟨w.heap.size + 1, 2, none⟩ = some (.int .i64 0) at k2
    exact bodyPost_ret (v := .agg #[.int .i64 0, .int .i64 0, .int .i64 0]) (by simp [results, Try.results47, go_sem, k0, k1, k2]) rfl ⟨rfl, (((HF4.out.trans (hb5.mono HF4.out.size)).setCell (by simp) _).setCell (by simp) _).setCell (by simp) _⟩
theorem OwnTab.look6 {w wr : World} {tb : Nat} {L : List (Nat × Nat × Nat)} (h : OwnTab w wr tb L) :
    Calls Try.prog 47 #[.pointer (some ⟨tb, 0, none⟩), .agg #[.bool true, .int .u64 0, .int .u64 0]] wr fun e w' => e = .returned (.agg #[.int .i64 0, .int .i64 0, .int .i64 0]) ∧ Below wr.heap.size wr w' := by
  obtain ⟨F, t, f, b⟩ := h
  obtain ⟨T, tr, _⟩ := t
  exact look6_any tb wr tr.tab.lt tr.tab.r1
end Go.Proofs.Ytoecmoicaklbaaa


/- fewest.Same: the addresses that are looked up; do two tables differ at one of them? -/
set_option linter.unusedVariables false
set_option linter.unusedSimpArgs false
namespace Go.Proofs.Ytoecmoicaklbaaa
open Go Go.RowKit Go.Sort Wc Wk

/-- An address to look up: of the one family any, of the other one the first. -/
def prC (p : Bool × Nat) : List Value := [.bool p.1, .int .u64 (hiOf p.1 p.2), .int .u64 (loOf p.2)]
theorem prC_one (p : Bool × Nat) : ∀ u ∈ prC p, u.oneCell' = true := by
  intro u hu
  simp [prC] at hu
  rcases hu with rfl | rfl | rfl <;> rfl
theorem eiAd : EI Try.prog 112 28 3 24 (.agg #[.bool false, .int .u64 0, .int .u64 0]) := ⟨by kernel_rfl, by kernel_rfl, rfl, by decide⟩
def prOk (p : Bool × Nat) : Prop := (p.1 = true ∧ p.2 = 0) ∨ (p.1 = false ∧ Fits false p.2)
def goesP (L : List (Nat × Nat × Nat)) (p : Bool × Nat) : Nat := if p.1 then 0 else (goesL L p.2).1
theorem Sl.pr {w w' : World} {a : Option Addr} {n cap : Nat} {l : List (Bool × Nat)} (hs : Sl w 3 (.slice a n cap) (l.map prC)) {B : Nat} (hb : Below B w w') (ha : ∀ x, a = some x → x.block < B) {i : Nat} {v : Bool × Nat} (hv : l[i]? = some v) :
    ∃ b off, a = some ⟨b, off, none⟩ ∧ b < B ∧ b < w'.heap.size ∧ w'.cell? ⟨b, off + i * 3, none⟩ = some (.bool v.1) ∧ w'.cell? ⟨b, off + i * 3 + 1, none⟩ = some (.int .u64 (hiOf v.1 v.2)) ∧ w'.cell? ⟨b, off + i * 3 + 2, none⟩ = some (.int .u64 (loOf v.2)) := by
  obtain ⟨b, off, ha', hlt, hc⟩ := Sl.at hs (i := i) (c := prC v) (by rw [List.getElem?_map, hv]; rfl)
  have hB := ha _ ha'
  have g := fun j u (h : (prC v)[j]? = some u) => (hb.cell (p := ⟨b, off + i * 3 + j, none⟩) hB).trans (hc j u h)
  exact ⟨b, off, ha', hB, Nat.lt_of_lt_of_le hlt hb.size, g 0 _ rfl, g 1 _ rfl, g 2 _ rfl⟩
/-- A table's Look at such an address, in each world that has it. -/
def LookW (w : World) (tb : Nat) (L : List (Nat × Nat × Nat)) : Prop :=
  ∀ p, prOk p → ∃ c l : Int, ∀ W, Below w.heap.size w W → Calls Try.prog 47 #[.pointer (some ⟨tb, 0, none⟩), Value.agg #[.bool p.1, .int .u64 (hiOf p.1 p.2), .int .u64 (loOf p.2)]] W fun e w' => e = .returned (.agg #[.int .i64 c, .int .i64 (goesP L p : Nat), .int .i64 l]) ∧ Below W.heap.size W w'
theorem LookW.below {w w' : World} {tb : Nat} {L : List (Nat × Nat × Nat)} (h : LookW w tb L) (hb : Below w.heap.size w w') : LookW w' tb L := fun p hp => by
  obtain ⟨c, l, k⟩ := h p hp
  exact ⟨c, l, fun W hW => k W (hb.trans (hW.mono hb.size))⟩
theorem OwnTab.lookW {w wr : World} {tb : Nat} {L : List (Nat × Nat × Nat)} (h : OwnTab w wr tb L) : LookW wr tb L := fun p hp => by
  obtain ⟨s, n⟩ := p
  rcases hp with ⟨h1, h2⟩ | ⟨h1, h2⟩
  · dsimp only at h1 h2
    subst h1 h2
    exact ⟨0, 0, fun W hW => (h.below hW).look6⟩
  · dsimp only at h1 h2
    subst h1
    exact ⟨0, ((goesL L n).2 : Nat), fun W hW => (h.below hW).look h2⟩

set_option maxRecDepth 100000 in
set_option maxHeartbeats 2000000 in
theorem fnS_any (pa pb ta tb : Nat) (L M : List (Nat × Nat × Nat)) (w : World) (hA : LookW w ta L) (hB : LookW w tb M) (ca : w.cell? ⟨pa, 0, none⟩ = some (.pointer (some ⟨ta, 0, none⟩))) (cb : w.cell? ⟨pb, 0, none⟩ = some (.pointer (some ⟨tb, 0, none⟩))) (la : pa < w.heap.size) (lb : pb < w.heap.size) (p : Bool × Nat) (hp : prOk p) :
    Calls Try.prog 64 #[Value.agg #[.bool p.1, .int .u64 (hiOf p.1 p.2), .int .u64 (loOf p.2)], .pointer (some ⟨pa, 0, none⟩), .pointer (some ⟨pb, 0, none⟩)] w fun e w' => e = .returned (.bool (decide (goesP L p ≠ goesP M p))) ∧ Below w.heap.size w w' := by
  obtain ⟨c1, l1, k1⟩ := hA p hp
  obtain ⟨c2, l2, k2⟩ := hB p hp
  have KA := Lib.hid k1
  have KB := Lib.hid k2
  have CA := Lib.hid ca
  have CB := Lib.hid cb
  have LA := Lib.hid la
  have LB := Lib.hid lb
  generalize goesP L p = u at *
  generalize goesP M p = v at *
  have hd : ((u : Int) != (v : Int)) = decide (u ≠ v) := by
    by_cases h : u = v
    · subst h; simp
    · rw [decide_eq_true h]; simp; omega
  obtain ⟨s, n⟩ := p
  dsimp only at KA KB ⊢
  generalize decide (u ≠ v) = d at *
  have HD := Lib.hid hd
  clear hA hB hp k1 k2 ca cb la lb hd
  go_enter Try.func64, Try.ntmps64
  go_wp2_with fail
  obtain ⟨Z, hZ⟩ : ∃ Z, Z = w.alloc (.cells #[.bool s, .int .u64 (hiOf s n), .int .u64 (loOf n)] 28) := ⟨_, rfl⟩
  have hwZ : Below w.heap.size w Z := by rw [hZ]; exact (Below.refl _ _).alloc (Nat.le_refl _) _
  have g0 : Z.cell? ⟨w.heap.size, 0, none⟩ = some (.bool s) := by rw [hZ]; simp
  have g1 : Z.cell? ⟨w.heap.size, 1, none⟩ = some (.int .u64 (hiOf s n)) := by rw [hZ]; simp
  have g2 : Z.cell? ⟨w.heap.size, 2, none⟩ = some (.int .u64 (loOf n)) := by rw [hZ]; simp
  have hPs : w.heap.size < Z.heap.size := by rw [hZ]; simp
  have ca := (hwZ.cell (p := ⟨pa, 0, none⟩) LA.out).trans CA.out
  have cb := (hwZ.cell (p := ⟨pb, 0, none⟩) LB.out).trans CB.out
  have la : pa < Z.heap.size := Nat.lt_of_lt_of_le LA.out hwZ.size
  have lb : pb < Z.heap.size := Nat.lt_of_lt_of_le LB.out hwZ.size
  rw [← hZ]
  have HWZ := Lib.hid hwZ
  clear hZ CA CB LA LB
  have KA' := Lib.hid (fun W (h : Below Z.heap.size Z W) => KA.out W (hwZ.trans (h.mono hwZ.size)))
  have KB' := Lib.hid (fun W (h : Below Z.heap.size Z W) => KB.out W (hwZ.trans (h.mono hwZ.size)))
  have hyy : Z.heap.size ≤ Z.heap.size := Nat.le_refl _
  have hwz := hwZ.size
  have FA : ∀ W : World, (Instr.field 54 (.agg #[.int .i64 c1, .int .i64 (u : Nat), .int .i64 l1]) 1).run Try.prog W = .ok (.int .i64 (u : Nat)) W := fun W => by kernel_rfl
  have FB : ∀ W : World, (Instr.field 54 (.agg #[.int .i64 c2, .int .i64 (v : Nat), .int .i64 l2]) 1).run Try.prog W = .ok (.int .i64 (v : Nat)) W := fun W => by kernel_rfl
  clear KA KB hwZ
  obtain ⟨P, hP⟩ : ∃ P, P = w.heap.size := ⟨_, rfl⟩
  rw [← hP] at g0 g1 g2 hPs ⊢
  clear hP
  refine wp_region_held_drew (S := (fun w' => Below Z.heap.size Z w')) (by kernel_rfl) ?_ (fun hHeld => ?_)
  · ((try dsimp only); (repeat' (first | (with_reducible exact Below.refl _ _) | (with_reducible assumption) | (with_reducible refine Below.alloc ?_ ?_ _) | (with_reducible refine Below.drew ?_) | (with_reducible refine Below.stepG ?_ (by assumption) ?_) | (with_reducible refine Below.setCell ?_ ?_ _) | omega | (dsimp only; omega) | (simp; done) | (simp; omega))))
  (refine wpAnyH_take (i := 0) (oi := _) (v := ?_) (by simp only [List.getElem?_toArray, List.getElem?_cons_zero, List.getElem?_cons_succ]; rfl) (by kernel_rfl) (by decide +kernel) (by decide +kernel) (by exact fun _ _ _ h => h) (Or.inl ⟨by rfl, ?_⟩) (by assumption) ?_; rotate_left; (· ((intro w hSw); (have hSc := Below.cellAt hSw); clear hSw; go_simp; (try with_reducible rfl))); (try simp only [Act.put, List.setIfInBounds_toArray, List.set_cons_zero, List.set_cons_succ]))
  (refine wpAnyH_take (i := 1) (oi := _) (v := ?_) (by simp only [List.getElem?_toArray, List.getElem?_cons_zero, List.getElem?_cons_succ]; rfl) (by kernel_rfl) (by decide +kernel) (by decide +kernel) (by exact fun _ _ _ h => h) (Or.inl ⟨by rfl, ?_⟩) (by assumption) ?_; rotate_left; (· ((intro w hSw); (have hSc := Below.cellAt hSw); clear hSw; go_simp; (try with_reducible rfl))); (try simp only [Act.put, List.setIfInBounds_toArray, List.set_cons_zero, List.set_cons_succ]))
  (refine wpAnyH_take (i := 4) (oi := _) (v := ?_) (by simp only [List.getElem?_toArray, List.getElem?_cons_zero, List.getElem?_cons_succ]; rfl) (by kernel_rfl) (by decide +kernel) (by decide +kernel) (by exact fun _ _ _ h => h) (Or.inl ⟨by rfl, ?_⟩) (by assumption) ?_; rotate_left; (· ((intro w hSw); (have hSc := Below.cellAt hSw); clear hSw; go_simp; (try with_reducible rfl))); (try simp only [Act.put, List.setIfInBounds_toArray, List.set_cons_zero, List.set_cons_succ]))
  (refine wpAnyH_take (i := 5) (oi := _) (v := ?_) (by simp only [List.getElem?_toArray, List.getElem?_cons_zero, List.getElem?_cons_succ]; rfl) (by kernel_rfl) (by decide +kernel) (by decide +kernel) (by exact fun _ _ _ h => h) (Or.inl ⟨by rfl, ?_⟩) (by assumption) ?_; rotate_left; (· ((intro w hSw); (have hSc := Below.cellAt hSw); clear hSw; go_simp; (try with_reducible rfl))); (try simp only [Act.put, List.setIfInBounds_toArray, List.set_cons_zero, List.set_cons_succ]))
  repeat' (first
    | (refine wpAnyH_take (i := 3) (oi := _) (v := ?_) (by simp only [List.getElem?_toArray, List.getElem?_cons_zero, List.getElem?_cons_succ]; rfl) (by kernel_rfl) (by decide +kernel) (by decide +kernel) (by exact fun _ _ _ h => h) (Or.inl ⟨by rfl, ?_⟩) (by assumption) ?_; rotate_left; (· ((intro w hSw); (have hSc := Below.cellAt hSw); clear hSw; go_simp; (try with_reducible rfl))); (try simp only [Act.put, List.setIfInBounds_toArray, List.set_cons_zero, List.set_cons_succ]))
    | (refine wpAnyH_take (i := 7) (oi := _) (v := ?_) (by simp only [List.getElem?_toArray, List.getElem?_cons_zero, List.getElem?_cons_succ]; rfl) (by kernel_rfl) (by decide +kernel) (by decide +kernel) (by exact fun _ _ _ h => h) (Or.inl ⟨by rfl, ?_⟩) (by assumption) ?_; rotate_left; (· ((intro w hSw); (have hSc := Below.cellAt hSw); clear hSw; go_simp; (try with_reducible rfl))); (try simp only [Act.put, List.setIfInBounds_toArray, List.set_cons_zero, List.set_cons_succ]))
    | (refine wpAnyH_take (i := 8) (oi := _) (v := ?_) (by simp only [List.getElem?_toArray, List.getElem?_cons_zero, List.getElem?_cons_succ]; rfl) (by kernel_rfl) (by decide +kernel) (by decide +kernel) (by exact fun _ _ _ h => h) (Or.inl ⟨by rfl, ?_⟩) (by assumption) ?_; rotate_left; (· ((intro w hSw); (have hSc := Below.cellAt hSw); clear hSw; go_simp; (try with_reducible rfl))); (try simp only [Act.put, List.setIfInBounds_toArray, List.set_cons_zero, List.set_cons_succ]))
    | (refine wpAnyH_take (i := 9) (oi := _) (v := ?_) (by simp only [List.getElem?_toArray, List.getElem?_cons_zero, List.getElem?_cons_succ]; rfl) (by kernel_rfl) (by decide +kernel) (by decide +kernel) (by exact fun _ _ _ h => h) (Or.inl ⟨by rfl, ?_⟩) (by assumption) ?_; rotate_left; (· ((intro w hSw); (have hSc := Below.cellAt hSw); clear hSw; go_simp; (try with_reducible rfl))); (try simp only [Act.put, List.setIfInBounds_toArray, List.set_cons_zero, List.set_cons_succ]))
    | (refine wpAnyH_ready (rs := [2, 6]) (by decide +kernel) (by simp) (AllReadyH.cons (by simp only [List.getElem?_toArray, List.getElem?_cons_zero, List.getElem?_cons_succ]; rfl) (fun K hK => ?_) (AllReadyH.cons (by simp only [List.getElem?_toArray, List.getElem?_cons_zero, List.getElem?_cons_succ]; rfl) (fun K hK => ?_) AllReadyH.nil)); all_goals ((first | fail | (go_simp; (first | ((with_reducible refine (KA'.out _ (by (repeat' (first | (with_reducible exact Below.refl _ _) | (with_reducible assumption) | (with_reducible refine Below.alloc ?_ ?_ _) | (with_reducible refine Below.drew ?_) | (with_reducible refine Below.stepG ?_ (by assumption) ?_) | (with_reducible refine Below.setCell ?_ ?_ _) | omega | (dsimp only; omega) | (simp; done) | (simp; omega))))).mono ?_); rintro e w11 ⟨rfl, hb11⟩; (repeat (with_reducible (replace hb11 := Below.undrew hb11))); obtain ⟨hc11, hf11⟩ := bcell hb11; have hz11 := hb11.size; (repeat (first | rw [World.size_alloc] at hz11 | rw [World.size_drew] at hz11 | rw [World.size_setCell] at hz11)); (try have : w.heap.size < w11.heap.size := by omega); (try have : w.heap.size < w11.heap.size + 1 := by omega); (try have : w.heap.size < w11.heap.size + 1 + 1 := by omega); (try have : w.heap.size < w11.heap.size + 1 + 1 + 1 := by omega)) | ((with_reducible refine (KB'.out _ (by (repeat' (first | (with_reducible exact Below.refl _ _) | (with_reducible assumption) | (with_reducible refine Below.alloc ?_ ?_ _) | (with_reducible refine Below.drew ?_) | (with_reducible refine Below.stepG ?_ (by assumption) ?_) | (with_reducible refine Below.setCell ?_ ?_ _) | omega | (dsimp only; omega) | (simp; done) | (simp; omega))))).mono ?_); rintro e w12 ⟨rfl, hb12⟩; (repeat (with_reducible (replace hb12 := Below.undrew hb12))); obtain ⟨hc12, hf12⟩ := bcell hb12; have hz12 := hb12.size; (repeat (first | rw [World.size_alloc] at hz12 | rw [World.size_drew] at hz12 | rw [World.size_setCell] at hz12)); (try have : w.heap.size < w12.heap.size := by omega); (try have : w.heap.size < w12.heap.size + 1 := by omega); (try have : w.heap.size < w12.heap.size + 1 + 1 := by omega); (try have : w.heap.size < w12.heap.size + 1 + 1 + 1 := by omega)) | skip))); (refine hK.out _ _ ?_ (fun hHeld => ?_)); (· ((try dsimp only); (repeat' (first | (with_reducible exact Below.refl _ _) | (with_reducible assumption) | (with_reducible refine Below.alloc ?_ ?_ _) | (with_reducible refine Below.drew ?_) | (with_reducible refine Below.stepG ?_ (by assumption) ?_) | (with_reducible refine Below.setCell ?_ ?_ _) | omega | (dsimp only; omega) | (simp; done) | (simp; omega))))); (clear hK K; (try simp only [Act.put, List.setIfInBounds_toArray, List.set_cons_zero, List.set_cons_succ]))))
    | (refine wpAnyH_ready (rs := [2]) (by decide +kernel) (by simp) (AllReadyH.cons (by simp only [List.getElem?_toArray, List.getElem?_cons_zero, List.getElem?_cons_succ]; rfl) (fun K hK => ?_) AllReadyH.nil); all_goals ((first | fail | (go_simp; (first | ((with_reducible refine (KA'.out _ (by (repeat' (first | (with_reducible exact Below.refl _ _) | (with_reducible assumption) | (with_reducible refine Below.alloc ?_ ?_ _) | (with_reducible refine Below.drew ?_) | (with_reducible refine Below.stepG ?_ (by assumption) ?_) | (with_reducible refine Below.setCell ?_ ?_ _) | omega | (dsimp only; omega) | (simp; done) | (simp; omega))))).mono ?_); rintro e w11 ⟨rfl, hb11⟩; (repeat (with_reducible (replace hb11 := Below.undrew hb11))); obtain ⟨hc11, hf11⟩ := bcell hb11; have hz11 := hb11.size; (repeat (first | rw [World.size_alloc] at hz11 | rw [World.size_drew] at hz11 | rw [World.size_setCell] at hz11)); (try have : w.heap.size < w11.heap.size := by omega); (try have : w.heap.size < w11.heap.size + 1 := by omega); (try have : w.heap.size < w11.heap.size + 1 + 1 := by omega); (try have : w.heap.size < w11.heap.size + 1 + 1 + 1 := by omega)) | ((with_reducible refine (KB'.out _ (by (repeat' (first | (with_reducible exact Below.refl _ _) | (with_reducible assumption) | (with_reducible refine Below.alloc ?_ ?_ _) | (with_reducible refine Below.drew ?_) | (with_reducible refine Below.stepG ?_ (by assumption) ?_) | (with_reducible refine Below.setCell ?_ ?_ _) | omega | (dsimp only; omega) | (simp; done) | (simp; omega))))).mono ?_); rintro e w12 ⟨rfl, hb12⟩; (repeat (with_reducible (replace hb12 := Below.undrew hb12))); obtain ⟨hc12, hf12⟩ := bcell hb12; have hz12 := hb12.size; (repeat (first | rw [World.size_alloc] at hz12 | rw [World.size_drew] at hz12 | rw [World.size_setCell] at hz12)); (try have : w.heap.size < w12.heap.size := by omega); (try have : w.heap.size < w12.heap.size + 1 := by omega); (try have : w.heap.size < w12.heap.size + 1 + 1 := by omega); (try have : w.heap.size < w12.heap.size + 1 + 1 + 1 := by omega)) | skip))); (refine hK.out _ _ ?_ (fun hHeld => ?_)); (· ((try dsimp only); (repeat' (first | (with_reducible exact Below.refl _ _) | (with_reducible assumption) | (with_reducible refine Below.alloc ?_ ?_ _) | (with_reducible refine Below.drew ?_) | (with_reducible refine Below.stepG ?_ (by assumption) ?_) | (with_reducible refine Below.setCell ?_ ?_ _) | omega | (dsimp only; omega) | (simp; done) | (simp; omega))))); (clear hK K; (try simp only [Act.put, List.setIfInBounds_toArray, List.set_cons_zero, List.set_cons_succ]))))
    | (refine wpAnyH_ready (rs := [6]) (by decide +kernel) (by simp) (AllReadyH.cons (by simp only [List.getElem?_toArray, List.getElem?_cons_zero, List.getElem?_cons_succ]; rfl) (fun K hK => ?_) AllReadyH.nil); all_goals ((first | fail | (go_simp; (first | ((with_reducible refine (KA'.out _ (by (repeat' (first | (with_reducible exact Below.refl _ _) | (with_reducible assumption) | (with_reducible refine Below.alloc ?_ ?_ _) | (with_reducible refine Below.drew ?_) | (with_reducible refine Below.stepG ?_ (by assumption) ?_) | (with_reducible refine Below.setCell ?_ ?_ _) | omega | (dsimp only; omega) | (simp; done) | (simp; omega))))).mono ?_); rintro e w11 ⟨rfl, hb11⟩; (repeat (with_reducible (replace hb11 := Below.undrew hb11))); obtain ⟨hc11, hf11⟩ := bcell hb11; have hz11 := hb11.size; (repeat (first | rw [World.size_alloc] at hz11 | rw [World.size_drew] at hz11 | rw [World.size_setCell] at hz11)); (try have : w.heap.size < w11.heap.size := by omega); (try have : w.heap.size < w11.heap.size + 1 := by omega); (try have : w.heap.size < w11.heap.size + 1 + 1 := by omega); (try have : w.heap.size < w11.heap.size + 1 + 1 + 1 := by omega)) | ((with_reducible refine (KB'.out _ (by (repeat' (first | (with_reducible exact Below.refl _ _) | (with_reducible assumption) | (with_reducible refine Below.alloc ?_ ?_ _) | (with_reducible refine Below.drew ?_) | (with_reducible refine Below.stepG ?_ (by assumption) ?_) | (with_reducible refine Below.setCell ?_ ?_ _) | omega | (dsimp only; omega) | (simp; done) | (simp; omega))))).mono ?_); rintro e w12 ⟨rfl, hb12⟩; (repeat (with_reducible (replace hb12 := Below.undrew hb12))); obtain ⟨hc12, hf12⟩ := bcell hb12; have hz12 := hb12.size; (repeat (first | rw [World.size_alloc] at hz12 | rw [World.size_drew] at hz12 | rw [World.size_setCell] at hz12)); (try have : w.heap.size < w12.heap.size := by omega); (try have : w.heap.size < w12.heap.size + 1 := by omega); (try have : w.heap.size < w12.heap.size + 1 + 1 := by omega); (try have : w.heap.size < w12.heap.size + 1 + 1 + 1 := by omega)) | skip))); (refine hK.out _ _ ?_ (fun hHeld => ?_)); (· ((try dsimp only); (repeat' (first | (with_reducible exact Below.refl _ _) | (with_reducible assumption) | (with_reducible refine Below.alloc ?_ ?_ _) | (with_reducible refine Below.drew ?_) | (with_reducible refine Below.stepG ?_ (by assumption) ?_) | (with_reducible refine Below.setCell ?_ ?_ _) | omega | (dsimp only; omega) | (simp; done) | (simp; omega))))); (clear hK K; (try simp only [Act.put, List.setIfInBounds_toArray, List.set_cons_zero, List.set_cons_succ]))))
    | (refine wpAnyH_done (by decide +kernel) ?_ _)
    | fail)
  have HF := Lib.hid (HWZ.out.trans (hHeld.mono hwz))
  clear hHeld HWZ KA' KB' g0 g1 g2 ca cb FA FB
  rw [HD.out]
  go_wp2
  go_returns
  exact ⟨rfl, HF.out⟩
def differs (L M : List (Nat × Nat × Nat)) (ps : List (Bool × Nat)) : Bool := ps.any (fun p => decide (goesP L p ≠ goesP M p))

set_option maxHeartbeats 2000000 in
theorem indexS_any (a : Option Addr) (cap pa pb ta tb : Nat) (L M : List (Nat × Nat × Nat)) (ps : List (Bool × Nat)) (w : World) (hs : Sl w 3 (.slice a ps.length cap) (ps.map prC)) (hl : ps.length ≤ 1000) (ha : ∀ x, a = some x → x.block < w.heap.size) (hp : ∀ p ∈ ps, prOk p)
    (hA : LookW w ta L) (hB : LookW w tb M) (ca : w.cell? ⟨pa, 0, none⟩ = some (.pointer (some ⟨ta, 0, none⟩))) (cb : w.cell? ⟨pb, 0, none⟩ = some (.pointer (some ⟨tb, 0, none⟩))) (la : pa < w.heap.size) (lb : pb < w.heap.size) :
    Calls Try.prog 107 #[.slice a ps.length cap, .func (.func 64) #[] #[.pointer (some ⟨pa, 0, none⟩), .pointer (some ⟨pb, 0, none⟩)]] w fun e w' => ((∃ i : Nat, e = .returned (.int .i64 (i : Nat)) ∧ differs L M ps = true) ∨ (e = .returned (.int .i64 (-1)) ∧ differs L M ps = false)) ∧ Below w.heap.size w w' := by
  have HS := Lib.hid hs
  have HA := Lib.hid ha
  have HP := Lib.hid hp
  have FS := Lib.hid (fun W (hb : Below w.heap.size w W) => fnS_any pa pb ta tb L M W (hA.below hb) (hB.below hb) ((hb.cell (p := ⟨pa, 0, none⟩) la).trans ca) ((hb.cell (p := ⟨pb, 0, none⟩) lb).trans cb) (Nat.lt_of_lt_of_le la hb.size) (Nat.lt_of_lt_of_le lb hb.size))
  clear hs ha hp hA hB ca cb la lb
  go_enter Try.func107, Try.ntmps107
  go_wp2_with fail
  go_loopw [8] (fun i wr => ∃ j : Nat, j ≤ ps.length ∧ i = .int .i64 j ∧ Hid (∀ m, m < j → ∀ p, ps[m]? = some p → goesP L p = goesP M p) ∧ Hid (Below w.heap.size w wr)) (fun i _ => ps.length - (intOf i).toNat)
  case atStart => exact ⟨0, Nat.zero_le _, rfl, fun m hm => absurd hm (Nat.not_lt_zero m), Below.refl _ _⟩
  case round =>
    obtain ⟨j, hj, rfl, HNO, HB⟩ := hrel
    have hzr := HB.out.size
    by_cases hlt : j < ps.length
    · obtain ⟨p, hp⟩ : ∃ s, ps[j]? = some s := ⟨_, List.getElem?_eq_getElem hlt⟩
      obtain ⟨g, off, rfl, hg, hgw, d0, d1, d2⟩ := Sl.pr HS.out HB.out HA.out hp
      have HX := Lib.hid hp
      have F := Lib.hid (FS.out wr HB.out p (HP.out p (List.mem_of_getElem? hp)))
      clear hp
      by_cases h0 : goesP L p ≠ goesP M p
      · rw [decide_eq_true h0] at F
        have HD : Hid (differs L M ps = true) := Lib.hid (List.any_eq_true.2 ⟨p, List.mem_of_getElem? HX.out, decide_eq_true h0⟩)
        clear h0
        go_wp2_with fail
        refine F.out.mono ?_
        rintro e w2 ⟨rfl, hb2⟩
        have HB2 := Lib.hid (HB.out.trans (hb2.mono hzr))
        clear hb2
        go_wp2_with fail
        exact bodyPost_ret (v := .int .i64 (j : Nat)) (by simp [results, Try.results107, go_sem]) rfl ⟨.inl ⟨j, rfl, HD.out⟩, HB2.out⟩
      · have HN2 : Hid (∀ m, m < j + 1 → ∀ p, ps[m]? = some p → goesP L p = goesP M p) := fun m hm y hy => by
          by_cases e : m = j
          · subst e
            rw [HX.out] at hy
            cases hy
            exact Decidable.of_not_not h0
          · exact HNO.out m (by omega) y hy
        rw [decide_eq_false h0] at F
        clear h0 HNO
        go_wp2_with fail
        refine F.out.mono ?_
        rintro e w2 ⟨rfl, hb2⟩
        have HB2 := Lib.hid (HB.out.trans (hb2.mono hzr))
        clear hb2
        go_wp2_with fail
        go_roundw
        case rel => exact ⟨j + 1, by omega, by go_num, HN2, HB2⟩
        case measure => simp [intOf]; omega
    · obtain rfl : j = ps.length := by omega
      have HD : differs L M ps = false := by
        refine List.any_eq_false.2 (fun p hp => ?_)
        obtain ⟨m, hm⟩ := List.mem_iff_getElem?.1 hp
        have := HNO.out m (List.getElem?_eq_some_iff.1 hm).1 p hm
        simp [this]
      go_wp2_with fail
      exact bodyPost_ret (v := .int .i64 (-1)) (by simp [results, Try.results107, go_sem]) rfl ⟨.inr ⟨rfl, HD⟩, HB.out⟩
theorem containsS_any (a : Option Addr) (cap pa pb ta tb : Nat) (L M : List (Nat × Nat × Nat)) (ps : List (Bool × Nat)) (w : World) (hs : Sl w 3 (.slice a ps.length cap) (ps.map prC)) (hl : ps.length ≤ 1000) (ha : ∀ x, a = some x → x.block < w.heap.size) (hp : ∀ p ∈ ps, prOk p)
    (hA : LookW w ta L) (hB : LookW w tb M) (ca : w.cell? ⟨pa, 0, none⟩ = some (.pointer (some ⟨ta, 0, none⟩))) (cb : w.cell? ⟨pb, 0, none⟩ = some (.pointer (some ⟨tb, 0, none⟩))) (la : pa < w.heap.size) (lb : pb < w.heap.size) :
    Calls Try.prog 63 #[.slice a ps.length cap, .func (.func 64) #[] #[.pointer (some ⟨pa, 0, none⟩), .pointer (some ⟨pb, 0, none⟩)]] w fun e w' => e = .returned (.bool (differs L M ps)) ∧ Below w.heap.size w w' := by
  have IX := Lib.hid (indexS_any a cap pa pb ta tb L M ps w hs hl ha hp hA hB ca cb la lb)
  clear hs ha hp hA hB ca cb la lb
  generalize differs L M ps = d at *
  go_enter Try.func63, Try.ntmps63
  go_wp2_with fail
  refine IX.out.mono ?_
  rintro e w1 ⟨h, hb1⟩
  rcases h with ⟨i, rfl, rfl⟩ | ⟨rfl, rfl⟩
  · have hi : decide ((0 : Int) ≤ (i : Nat)) = true := by simp
    have hi2 : (0 : Int) ≤ (i : Nat) := by omega
    go_wp2_with fail
    go_returns
    exact ⟨by simp, hb1⟩
  · go_wp2_with fail
    go_returns
    exact ⟨by simp, hb1⟩
end Go.Proofs.Ytoecmoicaklbaaa

