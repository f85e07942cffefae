
/- Contract: plainList of a range's prefixes. -/
import Derived.Test.YtoecmoicaklbaaaRg3
set_option linter.unusedVariables false
namespace Wk
open Go Go.RowKit Go.Sort
end Wk
namespace Go.Proofs.Ytoecmoicaklbaaa
open Go Go.RowKit Go.Sort Wc Wk

/-- A prefix of an own slice, read from a later world. -/
theorem own_pfx {w w' : World} {B : Nat} {six : Bool} {a : Option Addr} {n cap : Nat} {xs : List (Nat × Nat)} (h : Own w B 30 4 (.slice a n cap) (xs.map (pfxRow six))) (hb : Below w.heap.size w w') {i : Nat} {x : Nat × Nat} (hi : xs[i]? = some x) :
    ∃ g, a = some ⟨g, 0, none⟩ ∧ g < w.heap.size ∧ w'.cell? ⟨g, i * 4, none⟩ = some (.bool six) ∧ w'.cell? ⟨g, i * 4 + 1, none⟩ = some (.int .u64 (hiOf six x.1)) ∧
      w'.cell? ⟨g, i * 4 + 2, none⟩ = some (.int .u64 (loOf x.1)) ∧ w'.cell? ⟨g, i * 4 + 3, none⟩ = some (.int .i64 (x.2 : Nat)) := by
  have hx : (xs.map (pfxRow six))[i]? = some (pfxRow six x) := by rw [List.getElem?_map, hi]; rfl
  obtain ⟨g, cap', hv, _, hg, _, _, _, hc⟩ := h.at (Nat.lt_of_le_of_lt (Nat.zero_le i) (List.getElem?_eq_some_iff.1 hx).1)
  simp only [Value.slice.injEq] at hv
  obtain ⟨rfl, _, _⟩ := hv
  exact ⟨g, rfl, hg, (hb.cell (p := ⟨g, _, none⟩) hg).trans (hc i _ hx 0 _ rfl), (hb.cell (p := ⟨g, _, none⟩) hg).trans (hc i _ hx 1 _ rfl), (hb.cell (p := ⟨g, _, none⟩) hg).trans (hc i _ hx 2 _ rfl), (hb.cell (p := ⟨g, _, none⟩) hg).trans (hc i _ hx 3 _ rfl)⟩

theorem RunP.two {six : Bool} {m n : Nat} {xs : List (Nat × Nat)} {a i : Nat} {x y : Nat × Nat} (h : RunP six m n xs a) (hx : xs[i]? = some x) (hy : xs[i + 1]? = some y) :
    MaxP six m x.1 x.2 ∧ MaxP six m y.1 y.2 ∧ y.1 = x.1 + 2 ^ (wd six - x.2) := by
  obtain ⟨b, hb⟩ := h.at (Nat.le_of_lt (List.getElem?_eq_some_iff.1 hx).1)
  obtain ⟨h1, h2, h3⟩ := hb.drop hx
  obtain ⟨g1, g2, g3⟩ := h3.drop hy
  rw [← h1] at h2
  rw [← g1] at g2
  exact ⟨h2, g2, by rw [g1, h1]⟩

theorem plain_pair {six : Bool} {m : Nat} {x y : Nat × Nat} (h1 : MaxP six m x.1 x.2) (h2 : MaxP six m y.1 y.2) (h3 : y.1 = x.1 + 2 ^ (wd six - x.2)) :
    lastN (wd six) x.1 x.2 < y.1 ∧ (x.2 = y.2 → (comLen six x.1 x.2 y.1 y.2 : Int) ≠ (y.2 : Nat) - 1) := by
  have hp := Nat.one_le_two_pow (n := wd six - x.2)
  refine ⟨by unfold lastN; omega, fun he hc => ?_⟩
  have hle := comLen_le six x.1 x.2 y.1 y.2
  have hk : 1 ≤ x.2 := by omega
  have e : comLen six x.1 x.2 y.1 y.2 = x.2 - 1 := by omega
  have ha := com_alike (k := x.2) (k' := y.2) h1.1.1 h2.1.1 h1.1.2.1
  rw [e, h3] at ha
  refine no_halves h1 ?_ hk ha
  obtain ⟨_, _, hs, _⟩ := h2.grows
  rw [← he] at hs
  omega


set_option maxRecDepth 100000 in
set_option maxHeartbeats 1000000 in
theorem plainList_any (six : Bool) (n m : Nat) (a : Option Addr) (cap B : Nat) (xs : List (Nat × Nat)) (e : Nat) (w : World) (hrun : RunP six m n xs e) (hown : Own w B 30 4 (.slice a xs.length cap) (xs.map (pfxRow six))) (hlen : xs.length ≤ 1048576) :
    Calls Try.prog 34 #[.slice a xs.length cap] w fun e w' => e = .returned (.bool true) ∧ Below w.heap.size w w' := by
  have HR := Lib.hid hrun
  have HO := Lib.hid hown
  have HG : Hid (∀ i, i < xs.length → ∃ x, xs[i]? = some x) := fun i hi => ⟨_, List.getElem?_eq_getElem hi⟩
  clear hrun hown
  generalize xs.length = L at *
  go_enter Try.func34, Try.ntmps34
  go_wp2_with fail
  go_loopw [3] (fun i wr => ∃ k : Nat, (k + 1 ≤ L ∨ k = 0) ∧ i = .int .i64 (k + 1 : Nat) ∧ Hid (Below w.heap.size w wr)) (fun i _ => L + 1 - (intOf i).toNat)
  case atStart => exact ⟨0, .inr rfl, rfl, Below.refl _ _⟩
  case round =>
    obtain ⟨k, hk, rfl, HB⟩ := hrel
    have hzr := HB.out.size
    by_cases hlt : k + 1 < L
    · obtain ⟨x, hx⟩ := HG.out k (by omega)
      obtain ⟨y, hy⟩ := HG.out (k + 1) hlt
      obtain ⟨h1, h2, h3⟩ := HR.out.two hx hy
      obtain ⟨g, rfl, hg, x0, x1, x2, x3⟩ := own_pfx HO.out HB.out hx
      obtain ⟨g', hgg, _, y0, y1, y2, y3⟩ := own_pfx HO.out HB.out hy
      simp only [Option.some.injEq, Addr.mk.injEq, and_true] at hgg
      subst hgg
      obtain ⟨q1, q2⟩ := plain_pair h1 h2 h3
      have hgr : g < wr.heap.size := by omega
      have S1 := Lib.hid (fun w => span_ok six x.1 x.2 w h1.1)
      have S2 := Lib.hid (fun w => span_ok six y.1 y.2 w h2.1)
      have C := Lib.hid (fun w => common_ok six x.1 x.2 y.1 y.2 w h1.1 h2.1)
      have A := Lib.hid (fun w => ahead_any six _ _ w (last_fits h1.1) h2.1.1)
      rw [decide_eq_true q1] at A
      clear q1 h3 hx hy
      go_upto_region 6 with (first | ((with_reducible refine (S1.out _).mono ?_); rintro e w1 ⟨rfl, hb1⟩; (repeat (with_reducible (replace hb1 := Below.undrew hb1))); obtain ⟨hc1, hf1⟩ := bcell hb1; have hz1 := hb1.size; (repeat (first | rw [World.size_alloc] at hz1 | rw [World.size_drew] at hz1 | rw [World.size_setCell] at hz1)); (try have : g < w1.heap.size := by omega); (try have : g < w1.heap.size + 1 := by omega); (try have : g < w1.heap.size + 1 + 1 := by omega); (try have : g < w1.heap.size + 1 + 1 + 1 := by omega)) | ((with_reducible refine (S2.out _).mono ?_); rintro e w2 ⟨rfl, hb2⟩; (repeat (with_reducible (replace hb2 := Below.undrew hb2))); obtain ⟨hc2, hf2⟩ := bcell hb2; have hz2 := hb2.size; (repeat (first | rw [World.size_alloc] at hz2 | rw [World.size_drew] at hz2 | rw [World.size_setCell] at hz2)); (try have : g < w2.heap.size := by omega); (try have : g < w2.heap.size + 1 := by omega); (try have : g < w2.heap.size + 1 + 1 := by omega); (try have : g < w2.heap.size + 1 + 1 + 1 := by omega); (try have : w1.heap.size < w2.heap.size := by omega); (try have : w1.heap.size < w2.heap.size + 1 := by omega); (try have : w1.heap.size < w2.heap.size + 1 + 1 := by omega); (try have : w1.heap.size < w2.heap.size + 1 + 1 + 1 := by omega); (try have : w1.heap.size + 1 < w2.heap.size := by omega); (try have : w1.heap.size + 1 < w2.heap.size + 1 := by omega); (try have : w1.heap.size + 1 < w2.heap.size + 1 + 1 := by omega); (try have : w1.heap.size + 1 < w2.heap.size + 1 + 1 + 1 := by omega)))
      have i1 : (k : Int) + 1 < L := by omega
      have i2 : (k : Int) < L := by omega
      have i3 : (0 : Int) ≤ k := by omega
      have i4 : (0 : Int) ≤ (k : Int) + 1 := by omega
      have i5 : (k : Int) + 1 - 1 = k := by omega
      have i6 : IntKind.i64.wrap ((k : Int) + 1 - 1) = k := by rw [i5]; exact IntWalk.i64_in _ (by omega)
      have i8 : IntKind.i64.wrap (k : Int) = k := IntWalk.i64_in _ (by omega)
      have i7 : ((k : Int) + 1).toNat = k + 1 := by omega
      go_cut [10, 11] (fun v e wx => e = .int .i64 0 ∧ ∃ cb : Nat, v = .pointer (some ⟨cb, 0, none⟩) ∧ wx.cell? ⟨cb, 3, none⟩ = some (.int .i64 (comLen six x.1 x.2 y.1 y.2 : Nat)) ∧ cb < wx.heap.size ∧
        wx.cell? ⟨w1.heap.size + 1, 0, none⟩ = some (.bool six) ∧ wx.cell? ⟨w1.heap.size + 1, 1, none⟩ = some (.int .u64 (hiOf six (lastN (wd six) x.1 x.2))) ∧ wx.cell? ⟨w1.heap.size + 1, 2, none⟩ = some (.int .u64 (loOf (lastN (wd six) x.1 x.2))) ∧
        wx.cell? ⟨w2.heap.size, 0, none⟩ = some (.bool six) ∧ wx.cell? ⟨w2.heap.size, 1, none⟩ = some (.int .u64 (hiOf six y.1)) ∧ wx.cell? ⟨w2.heap.size, 2, none⟩ = some (.int .u64 (loOf y.1)) ∧
        wx.cell? ⟨g, k * 4 + 3, none⟩ = some (.int .i64 (x.2 : Nat)) ∧ wx.cell? ⟨g, (k + 1) * 4 + 3, none⟩ = some (.int .i64 (y.2 : Nat)) ∧ w2.heap.size + 1 < wx.heap.size ∧ Below wr.heap.size wr wx)
      case first =>
        go_region_held3 (fun w' => w'.cell? ⟨g, k * 4, none⟩ = some (.bool six) ∧ w'.cell? ⟨g, k * 4 + 1, none⟩ = some (.int .u64 (hiOf six x.1)) ∧ w'.cell? ⟨g, k * 4 + 2, none⟩ = some (.int .u64 (loOf x.1)) ∧ w'.cell? ⟨g, k * 4 + 3, none⟩ = some (.int .i64 (x.2 : Nat)) ∧
            w'.cell? ⟨g, (k + 1) * 4, none⟩ = some (.bool six) ∧ w'.cell? ⟨g, (k + 1) * 4 + 1, none⟩ = some (.int .u64 (hiOf six y.1)) ∧ w'.cell? ⟨g, (k + 1) * 4 + 2, none⟩ = some (.int .u64 (loOf y.1)) ∧ w'.cell? ⟨g, (k + 1) * 4 + 3, none⟩ = some (.int .i64 (y.2 : Nat))) (first | (go_simp; done) | (simp [*, go_sem, World.cell?_alloc_past]; done) | (simp [*, go_sem, World.cell?_alloc_past, World.cell?_setCell_far]; done))
          (first | ((with_reducible refine (C.out _).mono ?_); rintro e w3 ⟨rfl, hb3⟩; (repeat (with_reducible (replace hb3 := Below.undrew hb3))); obtain ⟨hc3, hf3⟩ := bcell hb3; have hz3 := hb3.size; (repeat (first | rw [World.size_alloc] at hz3 | rw [World.size_drew] at hz3 | rw [World.size_setCell] at hz3)); (try have : g < w3.heap.size := by omega); (try have : g < w3.heap.size + 1 := by omega); (try have : g < w3.heap.size + 1 + 1 := by omega); (try have : g < w3.heap.size + 1 + 1 + 1 := by omega); (try have : w1.heap.size < w3.heap.size := by omega); (try have : w1.heap.size < w3.heap.size + 1 := by omega); (try have : w1.heap.size < w3.heap.size + 1 + 1 := by omega); (try have : w1.heap.size < w3.heap.size + 1 + 1 + 1 := by omega); (try have : w1.heap.size + 1 < w3.heap.size := by omega); (try have : w1.heap.size + 1 < w3.heap.size + 1 := by omega); (try have : w1.heap.size + 1 < w3.heap.size + 1 + 1 := by omega); (try have : w1.heap.size + 1 < w3.heap.size + 1 + 1 + 1 := by omega); (try have : w2.heap.size < w3.heap.size := by omega); (try have : w2.heap.size < w3.heap.size + 1 := by omega); (try have : w2.heap.size < w3.heap.size + 1 + 1 := by omega); (try have : w2.heap.size < w3.heap.size + 1 + 1 + 1 := by omega); (try have : w2.heap.size + 1 < w3.heap.size := by omega); (try have : w2.heap.size + 1 < w3.heap.size + 1 := by omega); (try have : w2.heap.size + 1 < w3.heap.size + 1 + 1 := by omega); (try have : w2.heap.size + 1 < w3.heap.size + 1 + 1 + 1 := by omega)))
        all_goals go_wp2_with fail
        all_goals go_meet
        all_goals refine ⟨rfl, _, rfl, ?_, ?_, ?_, ?_, ?_, ?_, ?_, ?_, ?_, ?_, ?_, by (repeat' (first | (with_reducible exact Below.refl _ _) | (with_reducible assumption) | (with_reducible refine Below.al ?_ _) | (with_reducible refine Below.dr ?_) | (with_reducible refine Below.step ?_ (by assumption)) | (with_reducible refine Below.set ?_ ?_ _) | omega | (dsimp only; omega) | (simp; done) | (simp; omega)))⟩
        all_goals first | (go_simp; done) | (simp; omega) | (simp; done)
      case rest =>
        obtain ⟨rfl, cb, rfl, hcb, hcl, l0, l1, l2, f0, f1, f2, x3', y3', hz2, HBc⟩ := hcut
        have hzc := HBc.size
        clear hb1 hc1 hc2 hf1 hf2 x0 x1 x2 x3 y0 y1 y2 y3
        have b1 : w1.heap.size + 1 < wc.heap.size := by omega
        have b2 : w2.heap.size < wc.heap.size := by omega
        have b3 : g < wc.heap.size := by omega
        have hky : y.2 ≤ 128 := by have := h2.1.2.1; have := (pwide_range six).2.1; omega
        have ey : IntKind.i64.wrap ((y.2 : Nat) - 1 : Int) = (y.2 : Nat) - 1 := IntWalk.i64_in _ (by omega)
        clear C S1 S2 h1 h2 HR HO hb2
        generalize x.2 = kx at *
        generalize y.2 = ky at *
        generalize comLen six x.1 kx y.1 ky = cl at *
        by_cases hkk : kx = ky
        · have q3 := q2 hkk
          clear q2
          subst hkk
          go_wp2_with fail
          refine wp_region_qb (by kernel_rfl) (by kernel_rfl) (fun kq => ?_)
          repeat (quiet_step (first | (with_reducible exact Calls.regrown_of (A.out _))))
          clear kq
          refine wpQuiet_nil ?_; intro w9 hb9; (repeat (with_reducible (replace hb9 := Below.undrew hb9))); obtain ⟨hc9, hf9⟩ := bcell hb9; have hz9 := hb9.size; (repeat (first | rw [World.size_alloc] at hz9 | rw [World.size_drew] at hz9 | rw [World.size_setCell] at hz9)); (try have : g < w9.heap.size := by omega); (try have : g < w9.heap.size + 1 := by omega); (try have : g < w9.heap.size + 1 + 1 := by omega); (try have : g < w9.heap.size + 1 + 1 + 1 := by omega); (try have : w1.heap.size < w9.heap.size := by omega); (try have : w1.heap.size < w9.heap.size + 1 := by omega); (try have : w1.heap.size < w9.heap.size + 1 + 1 := by omega); (try have : w1.heap.size < w9.heap.size + 1 + 1 + 1 := by omega); (try have : w1.heap.size + 1 < w9.heap.size := by omega); (try have : w1.heap.size + 1 < w9.heap.size + 1 := by omega); (try have : w1.heap.size + 1 < w9.heap.size + 1 + 1 := by omega); (try have : w1.heap.size + 1 < w9.heap.size + 1 + 1 + 1 := by omega); (try have : w2.heap.size < w9.heap.size := by omega); (try have : w2.heap.size < w9.heap.size + 1 := by omega); (try have : w2.heap.size < w9.heap.size + 1 + 1 := by omega); (try have : w2.heap.size < w9.heap.size + 1 + 1 + 1 := by omega); (try have : w2.heap.size + 1 < w9.heap.size := by omega); (try have : w2.heap.size + 1 < w9.heap.size + 1 := by omega); (try have : w2.heap.size + 1 < w9.heap.size + 1 + 1 := by omega); (try have : w2.heap.size + 1 < w9.heap.size + 1 + 1 + 1 := by omega)
          have hbz : Below w.heap.size w w9 := (HB.out.trans (HBc.mono hzr)).trans (hb9.mono (by omega))
          have HBZ := Lib.hid hbz
          clear hbz hb9 hc9 hf9 HBc
          go_wp2_with fail
          go_roundw
          case rel => exact ⟨k + 1, by omega, by go_num, HBZ⟩
          case measure => simp [intOf]; omega
        · have hkk' : ¬ (kx : Int) = ky := by omega
          clear q2 hkk
          go_wp2_with fail
          refine wp_region_qb (by kernel_rfl) (by kernel_rfl) (fun kq => ?_)
          repeat (quiet_step (first | (with_reducible exact Calls.regrown_of (A.out _))))
          clear kq
          refine wpQuiet_nil ?_; intro w9 hb9; (repeat (with_reducible (replace hb9 := Below.undrew hb9))); obtain ⟨hc9, hf9⟩ := bcell hb9; have hz9 := hb9.size; (repeat (first | rw [World.size_alloc] at hz9 | rw [World.size_drew] at hz9 | rw [World.size_setCell] at hz9)); (try have : g < w9.heap.size := by omega); (try have : g < w9.heap.size + 1 := by omega); (try have : g < w9.heap.size + 1 + 1 := by omega); (try have : g < w9.heap.size + 1 + 1 + 1 := by omega); (try have : w1.heap.size < w9.heap.size := by omega); (try have : w1.heap.size < w9.heap.size + 1 := by omega); (try have : w1.heap.size < w9.heap.size + 1 + 1 := by omega); (try have : w1.heap.size < w9.heap.size + 1 + 1 + 1 := by omega); (try have : w1.heap.size + 1 < w9.heap.size := by omega); (try have : w1.heap.size + 1 < w9.heap.size + 1 := by omega); (try have : w1.heap.size + 1 < w9.heap.size + 1 + 1 := by omega); (try have : w1.heap.size + 1 < w9.heap.size + 1 + 1 + 1 := by omega); (try have : w2.heap.size < w9.heap.size := by omega); (try have : w2.heap.size < w9.heap.size + 1 := by omega); (try have : w2.heap.size < w9.heap.size + 1 + 1 := by omega); (try have : w2.heap.size < w9.heap.size + 1 + 1 + 1 := by omega); (try have : w2.heap.size + 1 < w9.heap.size := by omega); (try have : w2.heap.size + 1 < w9.heap.size + 1 := by omega); (try have : w2.heap.size + 1 < w9.heap.size + 1 + 1 := by omega); (try have : w2.heap.size + 1 < w9.heap.size + 1 + 1 + 1 := by omega)
          have hbz : Below w.heap.size w w9 := (HB.out.trans (HBc.mono hzr)).trans (hb9.mono (by omega))
          have HBZ := Lib.hid hbz
          clear hbz hb9 hc9 hf9 HBc
          go_wp2_with fail
          go_roundw
          case rel => exact ⟨k + 1, by omega, by go_num, HBZ⟩
          case measure => simp [intOf]; omega
    · have hd : decide (((k + 1 : Nat) : Int) < L) = false := by simp; omega
      go_wp2
      go_returns
      exact ⟨rfl, HB.out⟩
end Go.Proofs.Ytoecmoicaklbaaa
