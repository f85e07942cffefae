
/- Contracts of package class: find in a tree. -/
import Derived.Test.YtlcacocecdnpnaaTrie
import Derived.Test.YtlcacocecdnpnaaFree0
set_option linter.unusedVariables false
namespace Go.Proofs.Ytlcacocecdnpnaa
open Go.RowKit Go.Sort Wc Wk

def hd (n i : Nat) : Nat := n / 2 ^ (32 - i)
theorem hd_zero {n : Nat} (h : Fits false n) : hd n 0 = 0 := by
  have h1 : n < 2 ^ 32 := h
  unfold hd
  exact Nat.div_eq_of_lt (by simpa using h1)
theorem hd_succ (n i : Nat) (hi : i < 32) : hd n (i + 1) = 2 * hd n i + bitAt false n i := by
  unfold hd bitAt
  have := div_step n (32 - (i + 1))
  rw [show 32 - (i + 1) + 1 = 32 - i by omega] at this
  rw [show wd false - 1 - i = 32 - (i + 1) by show 32 - 1 - i = _; omega]
  exact this
def orTo (H : Nat → Nat → Nat) (n : Nat) : Nat → Nat
  | 0 => H 0 (hd n 0)
  | i + 1 => orTo H n i ||| H (i + 1) (hd n (i + 1))
theorem hd_half (n i : Nat) (hi : i < 32) : hd n (i + 1) / 2 = hd n i := by
  have := hd_succ n i hi
  have hb := bitAt_le false n i
  omega
theorem orTo_void {w : World} {rb ro : Nat} {D : Nat → Nat → Option (Nat × Nat)} {H : Nat → Nat → Nat} (t : Tr w rb ro D H) (n i : Nat) (hn : D (i + 1) (hd n (i + 1)) = none) : ∀ j, i + 1 + j ≤ 32 → D (i + 1 + j) (hd n (i + 1 + j)) = none ∧ orTo H n (i + 1 + j) = orTo H n i
  | 0, h => ⟨hn, by show orTo H n i ||| H (i + 1) (hd n (i + 1)) = _; rw [t.void _ _ hn, Nat.or_zero]⟩
  | j + 1, h => by
    obtain ⟨a, b⟩ := orTo_void t n i hn j (by omega)
    have : D (i + 1 + j + 1) (hd n (i + 1 + j + 1)) = none := t.clos _ _ (by rw [hd_half n _ (by omega)]; exact a)
    exact ⟨this, by show orTo H n (i + 1 + j) ||| H (i + 1 + j + 1) (hd n (i + 1 + j + 1)) = _; rw [t.void _ _ this, Nat.or_zero, b]⟩
theorem or_lt {a b m : Nat} (ha : a < 2 ^ m) (hb : b < 2 ^ m) : a ||| b < 2 ^ m := Nat.or_lt_two_pow ha hb
theorem orTo_lt {H : Nat → Nat → Nat} {n m : Nat} (h : ∀ i v, H i v < 2 ^ m) : ∀ i, orTo H n i < 2 ^ m
  | 0 => h _ _
  | i + 1 => or_lt (orTo_lt h i) (h _ _)
theorem or_u64 {a b : Nat} (ha : a < 2 ^ 64) (hb : b < 2 ^ 64) : bits .or .u64 (a : Int) (b : Int) = ((a ||| b : Nat) : Int) := u64_or_nat _ _ ha hb


set_option maxRecDepth 100000 in
set_option maxHeartbeats 4000000 in
theorem find_any (rb ro n : Nat) (D : Nat → Nat → Option (Nat × Nat)) (H : Nat → Nat → Nat) (w : World) (t : Tr w rb ro D H) (hH : ∀ i v, H i v < 2 ^ 30) (hn : Fits false n) :
    Calls Try.prog 53 #[.pointer (some ⟨rb, ro, none⟩), Value.agg #[.bool false, .int .u64 (hiOf false n), .int .u64 (loOf n)]] w fun e w' => e = .returned (.int .u64 (orTo H n 32 : Nat)) ∧ Below w.heap.size w w' := by
  have HT := Lib.hid t
  have HN := Lib.hid hn
  have A := Lib.hid (fun i w h0 h1 => at_any false n i w hn h0 h1)
  have WD := Lib.hid (fun w => wide_any false w)
  rw [show wdI false = 32 from rfl] at A WD
  obtain ⟨lt0, g0, g1, g2, f0, f1, f2⟩ := t.node 0 0 rb ro t.root
  have e0 : orTo H n 0 = H 0 0 := by show H 0 (hd n 0) = _; rw [hd_zero hn]
  clear t hn
  go_enter Try.func53, Try.ntmps53
  go_wp2_with fail
  have F0 : (w.alloc (.cells #[.bool false, .int .u64 (hiOf false n), .int .u64 (loOf n)] 38)).cell? ⟨w.heap.size, 0, none⟩ = some (.bool false) := by simp
  have F1 : (w.alloc (.cells #[.bool false, .int .u64 (hiOf false n), .int .u64 (loOf n)] 38)).cell? ⟨w.heap.size, 1, none⟩ = some (.int .u64 (hiOf false n)) := by simp
  have F2 : (w.alloc (.cells #[.bool false, .int .u64 (hiOf false n), .int .u64 (loOf n)] 38)).cell? ⟨w.heap.size, 2, none⟩ = some (.int .u64 (loOf n)) := by simp
  have FS : w.heap.size < (w.alloc (.cells #[.bool false, .int .u64 (hiOf false n), .int .u64 (loOf n)] 38)).heap.size := by simp
  have FB : Below w.heap.size w (w.alloc (.cells #[.bool false, .int .u64 (hiOf false n), .int .u64 (loOf n)] 38)) := by (repeat' (first | (with_reducible exact Below.refl _ _) | (with_reducible assumption) | (with_reducible refine Below.alloc ?_ ?_ _) | (with_reducible refine Below.drew ?_) | (with_reducible refine Below.stepG ?_ (by assumption) ?_) | (with_reducible refine Below.setCell ?_ ?_ _) | omega | (dsimp only; omega) | (simp; done) | (simp; omega)))
  have FT := Lib.hid (HT.out.below (w' := w.alloc (.cells #[.bool false, .int .u64 (hiOf false n), .int .u64 (loOf n)] 38)) FB)
  clear HT g0 g1 g2 f0 f1 f2
  generalize w.alloc (.cells #[.bool false, .int .u64 (hiOf false n), .int .u64 (loOf n)] 38) = W at *
  obtain ⟨B, hB⟩ : ∃ B, B = w.heap.size := ⟨_, rfl⟩
  rw [← hB] at F0 F1 F2 FS ⊢
  have hBe : w.heap.size ≤ B := by omega
  clear hB lt0
  go_loopw [0, 5, 6] (fun pv ov iv wr => ∃ i b o : Nat, i ≤ 32 ∧ iv = .int .i64 i ∧ pv = .pointer (some ⟨b, o, none⟩) ∧ Hid (D i (hd n i) = some (b, o)) ∧ ov = .int .u64 (orTo H n i : Nat) ∧ Below W.heap.size W wr) (fun _ _ iv _ => 32 - (intOf iv).toNat)
  case atStart => exact ⟨0, rb, ro, by omega, rfl, rfl, by show D 0 (hd n 0) = _; rw [hd_zero HN.out]; exact FT.out.root, by rw [e0], Below.refl _ _⟩
  case round =>
    obtain ⟨i, b, o, hi, rfl, rfl, HD, rfl, hbr⟩ := hrel
    have hzr := hbr.size
    have q0 := (hbr.cell (p := ⟨B, 0, none⟩) FS).trans F0
    have q1 := (hbr.cell (p := ⟨B, 1, none⟩) FS).trans F1
    have q2 := (hbr.cell (p := ⟨B, 2, none⟩) FS).trans F2
    have qs : B < wr.heap.size := by omega
    clear F0 F1 F2 e0
    by_cases hlt : i < 32
    · obtain ⟨ltb, g0, g1, g2, _, _, _⟩ := FT.out.node _ _ _ _ HD.out
      have g1' := (hbr.cell (p := ⟨b, o + 1, none⟩) ltb).trans g1
      have g2' := (hbr.cell (p := ⟨b, o + 2, none⟩) ltb).trans g2
      have HS := Lib.hid (hd_succ n i hlt)
      have hbit := bitAt_le false n i
      have Ai := Lib.hid (fun w => A.out i w (by omega) (by omega))
      rw [show ((i : Int)).toNat = i from rfl] at Ai
      have ltr : b < wr.heap.size := by omega
      have HV := Lib.hid (orTo_void FT.out n i)
      clear g0 g1 g2
      generalize hc : bitAt false n i = c at *
      clear hc
      have hc2 : c = 0 ∨ c = 1 := by omega
      rcases hc2 with rfl | rfl
      · have HS2 := Lib.hid (show hd n (i + 1) = 2 * hd n i by have := HS.out; omega)
        rcases hx : D (i + 1) (2 * hd n i) with _ | ⟨b2, o2⟩
        · rw [hx, ptrV_none] at g1'
          have HE := Lib.hid (show orTo H n 32 = orTo H n i by
            have := (HV.out (by rw [HS2.out]; exact hx) (31 - i) (by omega)).2
            rwa [show i + 1 + (31 - i) = 32 by omega] at this)
          clear hx HV HS HS2
          go_wp2_with (first | ((with_reducible refine (WD.out _).mono ?_); rintro e w' ⟨rfl, rfl⟩))
          refine wp_region_qb (by kernel_rfl) (by kernel_rfl) (fun kq => ?_)
          repeat (quiet_step (first | (with_reducible exact Calls.regrown_of (Ai.out _))))
          clear kq
          refine wpQuiet_nil ?_; intro w1 hb1; (repeat (with_reducible (replace hb1 := Below.undrew hb1))); obtain ⟨hc1, hf1⟩ := bcell hb1; have hz1 := hb1.size; (repeat (first | rw [World.size_alloc] at hz1 | rw [World.size_drew] at hz1 | rw [World.size_setCell] at hz1)); (try have : w.heap.size < w1.heap.size := by omega); (try have : w.heap.size < w1.heap.size + 1 := by omega); (try have : w.heap.size < w1.heap.size + 1 + 1 := by omega); (try have : w.heap.size < w1.heap.size + 1 + 1 + 1 := by omega); (try have : wr.heap.size < w1.heap.size := by omega); (try have : wr.heap.size < w1.heap.size + 1 := by omega); (try have : wr.heap.size < w1.heap.size + 1 + 1 := by omega); (try have : wr.heap.size < w1.heap.size + 1 + 1 + 1 := by omega)
          go_wp2
          go_returns
          exact ⟨ret_int (by rw [HE.out]), by (repeat' (first | (with_reducible exact Below.refl _ _) | (with_reducible assumption) | (with_reducible refine Below.alloc ?_ ?_ _) | (with_reducible refine Below.drew ?_) | (with_reducible refine Below.stepG ?_ (by assumption) ?_) | (with_reducible refine Below.setCell ?_ ?_ _) | omega | (dsimp only; omega) | (simp; done) | (simp; omega)))⟩
        · rw [hx, ptrV_some] at g1'
          obtain ⟨ltb2, k0, _, _, _, _, _⟩ := FT.out.node _ _ _ _ hx
          have k0' := (hbr.cell (p := ⟨b2, o2, none⟩) ltb2).trans k0
          have ltr2 : b2 < wr.heap.size := by omega
          have HX := Lib.hid (show D (i + 1) (hd n (i + 1)) = some (b2, o2) by rw [HS2.out]; exact hx)
          have HO : Hid ((bits .or .u64 (orTo H n i : Int) (H (i + 1) (2 * hd n i) : Int)) = (orTo H n (i + 1) : Nat)) := by
            show _ = ((orTo H n i ||| H (i + 1) (hd n (i + 1)) : Nat) : Int)
            rw [HS2.out]
            exact or_u64 (Nat.lt_trans (orTo_lt hH i) (by decide)) (Nat.lt_trans (hH _ _) (by decide))
          clear hx HV HS HS2 k0
          go_wp2_with (first | ((with_reducible refine (WD.out _).mono ?_); rintro e w' ⟨rfl, rfl⟩))
          refine wp_region_qb (by kernel_rfl) (by kernel_rfl) (fun kq => ?_)
          repeat (quiet_step (first | (with_reducible exact Calls.regrown_of (Ai.out _))))
          clear kq
          refine wpQuiet_nil ?_; intro w1 hb1; (repeat (with_reducible (replace hb1 := Below.undrew hb1))); obtain ⟨hc1, hf1⟩ := bcell hb1; have hz1 := hb1.size; (repeat (first | rw [World.size_alloc] at hz1 | rw [World.size_drew] at hz1 | rw [World.size_setCell] at hz1)); (try have : w.heap.size < w1.heap.size := by omega); (try have : w.heap.size < w1.heap.size + 1 := by omega); (try have : w.heap.size < w1.heap.size + 1 + 1 := by omega); (try have : w.heap.size < w1.heap.size + 1 + 1 + 1 := by omega); (try have : wr.heap.size < w1.heap.size := by omega); (try have : wr.heap.size < w1.heap.size + 1 := by omega); (try have : wr.heap.size < w1.heap.size + 1 + 1 := by omega); (try have : wr.heap.size < w1.heap.size + 1 + 1 + 1 := by omega)
          go_wp2
          rw [HO.out]
          go_roundw
          case rel => exact ⟨i + 1, b2, o2, by omega, by go_num, rfl, HX, rfl, by (repeat' (first | (with_reducible exact Below.refl _ _) | (with_reducible assumption) | (with_reducible refine Below.alloc ?_ ?_ _) | (with_reducible refine Below.drew ?_) | (with_reducible refine Below.stepG ?_ (by assumption) ?_) | (with_reducible refine Below.setCell ?_ ?_ _) | omega | (dsimp only; omega) | (simp; done) | (simp; omega)))⟩
          case measure => simp [intOf]; omega
      · have HS2 := Lib.hid (show hd n (i + 1) = 2 * hd n i + 1 by have := HS.out; omega)
        rcases hx : D (i + 1) (2 * hd n i + 1) with _ | ⟨b2, o2⟩
        · rw [hx, ptrV_none] at g2'
          have HE := Lib.hid (show orTo H n 32 = orTo H n i by
            have := (HV.out (by rw [HS2.out]; exact hx) (31 - i) (by omega)).2
            rwa [show i + 1 + (31 - i) = 32 by omega] at this)
          clear hx HV HS HS2
          go_wp2_with (first | ((with_reducible refine (WD.out _).mono ?_); rintro e w' ⟨rfl, rfl⟩))
          refine wp_region_qb (by kernel_rfl) (by kernel_rfl) (fun kq => ?_)
          repeat (quiet_step (first | (with_reducible exact Calls.regrown_of (Ai.out _))))
          clear kq
          refine wpQuiet_nil ?_; intro w1 hb1; (repeat (with_reducible (replace hb1 := Below.undrew hb1))); obtain ⟨hc1, hf1⟩ := bcell hb1; have hz1 := hb1.size; (repeat (first | rw [World.size_alloc] at hz1 | rw [World.size_drew] at hz1 | rw [World.size_setCell] at hz1)); (try have : w.heap.size < w1.heap.size := by omega); (try have : w.heap.size < w1.heap.size + 1 := by omega); (try have : w.heap.size < w1.heap.size + 1 + 1 := by omega); (try have : w.heap.size < w1.heap.size + 1 + 1 + 1 := by omega); (try have : wr.heap.size < w1.heap.size := by omega); (try have : wr.heap.size < w1.heap.size + 1 := by omega); (try have : wr.heap.size < w1.heap.size + 1 + 1 := by omega); (try have : wr.heap.size < w1.heap.size + 1 + 1 + 1 := by omega)
          go_wp2
          go_returns
          exact ⟨ret_int (by rw [HE.out]), by (repeat' (first | (with_reducible exact Below.refl _ _) | (with_reducible assumption) | (with_reducible refine Below.alloc ?_ ?_ _) | (with_reducible refine Below.drew ?_) | (with_reducible refine Below.stepG ?_ (by assumption) ?_) | (with_reducible refine Below.setCell ?_ ?_ _) | omega | (dsimp only; omega) | (simp; done) | (simp; omega)))⟩
        · rw [hx, ptrV_some] at g2'
          obtain ⟨ltb2, k0, _, _, _, _, _⟩ := FT.out.node _ _ _ _ hx
          have k0' := (hbr.cell (p := ⟨b2, o2, none⟩) ltb2).trans k0
          have ltr2 : b2 < wr.heap.size := by omega
          have HX := Lib.hid (show D (i + 1) (hd n (i + 1)) = some (b2, o2) by rw [HS2.out]; exact hx)
          have HO : Hid ((bits .or .u64 (orTo H n i : Int) (H (i + 1) (2 * hd n i + 1) : Int)) = (orTo H n (i + 1) : Nat)) := by
            show _ = ((orTo H n i ||| H (i + 1) (hd n (i + 1)) : Nat) : Int)
            rw [HS2.out]
            exact or_u64 (Nat.lt_trans (orTo_lt hH i) (by decide)) (Nat.lt_trans (hH _ _) (by decide))
          clear hx HV HS HS2 k0
          go_wp2_with (first | ((with_reducible refine (WD.out _).mono ?_); rintro e w' ⟨rfl, rfl⟩))
          refine wp_region_qb (by kernel_rfl) (by kernel_rfl) (fun kq => ?_)
          repeat (quiet_step (first | (with_reducible exact Calls.regrown_of (Ai.out _))))
          clear kq
          refine wpQuiet_nil ?_; intro w1 hb1; (repeat (with_reducible (replace hb1 := Below.undrew hb1))); obtain ⟨hc1, hf1⟩ := bcell hb1; have hz1 := hb1.size; (repeat (first | rw [World.size_alloc] at hz1 | rw [World.size_drew] at hz1 | rw [World.size_setCell] at hz1)); (try have : w.heap.size < w1.heap.size := by omega); (try have : w.heap.size < w1.heap.size + 1 := by omega); (try have : w.heap.size < w1.heap.size + 1 + 1 := by omega); (try have : w.heap.size < w1.heap.size + 1 + 1 + 1 := by omega); (try have : wr.heap.size < w1.heap.size := by omega); (try have : wr.heap.size < w1.heap.size + 1 := by omega); (try have : wr.heap.size < w1.heap.size + 1 + 1 := by omega); (try have : wr.heap.size < w1.heap.size + 1 + 1 + 1 := by omega)
          go_wp2
          rw [HO.out]
          go_roundw
          case rel => exact ⟨i + 1, b2, o2, by omega, by go_num, rfl, HX, rfl, by (repeat' (first | (with_reducible exact Below.refl _ _) | (with_reducible assumption) | (with_reducible refine Below.alloc ?_ ?_ _) | (with_reducible refine Below.drew ?_) | (with_reducible refine Below.stepG ?_ (by assumption) ?_) | (with_reducible refine Below.setCell ?_ ?_ _) | omega | (dsimp only; omega) | (simp; done) | (simp; omega)))⟩
          case measure => simp [intOf]; omega
    · obtain rfl : i = 32 := by omega
      go_wp2_with (first | ((with_reducible refine (WD.out _).mono ?_); rintro e w' ⟨rfl, rfl⟩))
      go_returns
      exact ⟨rfl, by (repeat' (first | (with_reducible exact Below.refl _ _) | (with_reducible assumption) | (with_reducible refine Below.alloc ?_ ?_ _) | (with_reducible refine Below.drew ?_) | (with_reducible refine Below.stepG ?_ (by assumption) ?_) | (with_reducible refine Below.setCell ?_ ?_ _) | omega | (dsimp only; omega) | (simp; done) | (simp; omega)))⟩
end Go.Proofs.Ytlcacocecdnpnaa
