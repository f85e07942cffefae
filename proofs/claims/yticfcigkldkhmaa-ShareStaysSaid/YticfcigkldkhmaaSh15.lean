
/- Shares: hash, Pick. -/
import Derived.Test.YticfcigkldkhmaaSMovP
set_option linter.unusedVariables false
set_option linter.unusedSimpArgs false
namespace Go.Proofs.Yticfcigkldkhmaa
open Go Go.RowKit Go.Sort Wc Wk

def hs1 (n : Nat) (x : Int) : Nat := (n * 31 + (x % 65521).toNat) % 65521
theorem hs1_lt (n : Nat) (x : Int) : hs1 n x < 65521 := Nat.mod_lt _ (by decide)
theorem hs1_go (k : Nat) (x : Int) (hk : k < 65521) (hx : 0 ≤ x) : (IntKind.u64.wrap (IntKind.u64.wrap ((k : Int) * 31) + x.tmod 65521)).tmod 65521 = ((hs1 k x : Nat) : Int) := by
  have h0 := Int.emod_nonneg x (show (65521 : Int) ≠ 0 by decide)
  have h1 := Int.emod_lt_of_pos x (show (0 : Int) < 65521 by decide)
  rw [Int.tmod_eq_emod_of_nonneg hx]
  unfold hs1
  obtain ⟨r, hr⟩ := Int.eq_ofNat_of_zero_le h0
  rw [hr] at h0 h1 ⊢
  have e1 : IntKind.u64.wrap ((k : Int) * 31) = (k : Int) * 31 := by rw [IntKind.wrap_u64]; omega
  have e2 : IntKind.u64.wrap ((k : Int) * 31 + (r : Int)) = (k : Int) * 31 + (r : Int) := by rw [IntKind.wrap_u64]; omega
  rw [e1]
  show (IntKind.u64.wrap ((k : Int) * 31 + (r : Int))).tmod 65521 = _
  rw [e2, Int.tmod_eq_emod_of_nonneg (by omega)]
  simp only [Int.toNat_natCast]
  show _ = (((k * 31 + r) % 65521 : Nat) : Int)
  omega
def hsh (x0 x1 x2 x3 : Int) : Nat := hs1 (hs1 (hs1 (hs1 17 x0) x1) x2) x3
def hshN (x0 x1 x2 x3 : Int) : Nat → Nat
  | 0 => 17
  | 1 => hs1 17 x0
  | 2 => hs1 (hs1 17 x0) x1
  | 3 => hs1 (hs1 (hs1 17 x0) x1) x2
  | _ => hsh x0 x1 x2 x3
def hshX (x0 x1 x2 x3 : Int) : Nat → Int
  | 0 => x0
  | 1 => x1
  | 2 => x2
  | _ => x3
theorem hshN_lt (x0 x1 x2 x3 : Int) (m : Nat) : hshN x0 x1 x2 x3 m < 65521 := by
  match m with
  | 0 => exact (by decide : (17 : Nat) < 65521)
  | 1 => exact hs1_lt _ _
  | 2 => exact hs1_lt _ _
  | 3 => exact hs1_lt _ _
  | _ + 4 => exact hs1_lt _ _
theorem hshN_step (x0 x1 x2 x3 : Int) (m : Nat) (h : m < 4) : hshN x0 x1 x2 x3 (m + 1) = hs1 (hshN x0 x1 x2 x3 m) (hshX x0 x1 x2 x3 m) := by
  match m, h with
  | 0, _ => rfl
  | 1, _ => rfl
  | 2, _ => rfl
  | 3, _ => rfl


set_option maxRecDepth 100000 in
set_option maxHeartbeats 1000000 in
theorem hash_any (s1 s2 : Bool) (x0 x1 x2 x3 : Int) (w : World) (h0 : 0 ≤ x0) (h1 : 0 ≤ x1) (h2 : 0 ≤ x2) (h3 : 0 ≤ x3) :
    Calls Try.prog 61 #[.agg #[.bool s1, .int .u64 x0, .int .u64 x1, .bool s2, .int .u64 x2, .int .u64 x3]] w fun e w' => e = .returned (.int .i64 (hsh x0 x1 x2 x3 : Nat)) ∧ Below w.heap.size w w' := by
  have IX0 : ∀ W : World, (Instr.index 154 (.agg #[.int .u64 x0, .int .u64 x1, .int .u64 x2, .int .u64 x3]) (.int .i64 (0 : Nat))).run Try.prog W = .ok (.int .u64 x0) W := fun W => by kernel_rfl
  have IX1 : ∀ W : World, (Instr.index 154 (.agg #[.int .u64 x0, .int .u64 x1, .int .u64 x2, .int .u64 x3]) (.int .i64 (1 : Nat))).run Try.prog W = .ok (.int .u64 x1) W := fun W => by kernel_rfl
  have IX2 : ∀ W : World, (Instr.index 154 (.agg #[.int .u64 x0, .int .u64 x1, .int .u64 x2, .int .u64 x3]) (.int .i64 (2 : Nat))).run Try.prog W = .ok (.int .u64 x2) W := fun W => by kernel_rfl
  have IX3 : ∀ W : World, (Instr.index 154 (.agg #[.int .u64 x0, .int .u64 x1, .int .u64 x2, .int .u64 x3]) (.int .i64 (3 : Nat))).run Try.prog W = .ok (.int .u64 x3) W := fun W => by kernel_rfl
  go_enter Try.func61, Try.ntmps61
  go_wp2_with fail
  go_loopw [3, 19] (fun n i wr => ∃ m : Nat, m ≤ 4 ∧ i = .int .i64 m ∧ n = .int .u64 (hshN x0 x1 x2 x3 m : Nat) ∧ Hid (Below w.heap.size w wr)) (fun _ i _ => 4 - (intOf i).toNat)
  case atStart => exact ⟨0, Nat.zero_le _, by go_num, by rfl, by show Below _ _ _; (repeat' (first | (with_reducible exact Below.refl _ _) | (with_reducible assumption) | (with_reducible refine Below.alloc ?_ ?_ _) | (with_reducible refine Below.drew ?_) | (with_reducible refine Below.stepG ?_ (by assumption) ?_) | (with_reducible refine Below.setCell ?_ ?_ _) | omega | (dsimp only; omega) | (simp; done) | (simp; omega)))⟩
  case round =>
    obtain ⟨m, hm, rfl, rfl, HB⟩ := hrel
    by_cases hlt : m < 4
    · have IX : ∀ W : World, (Instr.index 154 (.agg #[.int .u64 x0, .int .u64 x1, .int .u64 x2, .int .u64 x3]) (.int .i64 m)).run Try.prog W = .ok (.int .u64 (hshX x0 x1 x2 x3 m)) W := by
        intro W
        match m, hlt with
        | 0, _ => exact IX0 W
        | 1, _ => exact IX1 W
        | 2, _ => exact IX2 W
        | 3, _ => exact IX3 W
      have hst := hshN_step x0 x1 x2 x3 m hlt
      have hl := hshN_lt x0 x1 x2 x3 m
      have hx : 0 ≤ hshX x0 x1 x2 x3 m := by
        match m, hlt with
        | 0, _ => exact h0
        | 1, _ => exact h1
        | 2, _ => exact h2
        | 3, _ => exact h3
      generalize hshX x0 x1 x2 x3 m = x at *
      generalize hshN x0 x1 x2 x3 m = k at *
      have HGO := Lib.hid (hs1_go k x hl hx)
      have HST := Lib.hid hst
      clear hst IX0 IX1 IX2 IX3 hl hx
      go_wp2_with fail
      go_roundw
      case rel => exact ⟨m + 1, by omega, by go_num, by rw [HST.out]; exact congrArg _ HGO.out, HB.out⟩
      case measure => simp [intOf]; omega
    · obtain rfl : m = 4 := by omega
      have hl := hshN_lt x0 x1 x2 x3 4
      have e : hshN x0 x1 x2 x3 4 = hsh x0 x1 x2 x3 := rfl
      rw [e] at hl ⊢
      have ew : IntKind.i64.wrap ((hsh x0 x1 x2 x3 : Nat) : Int) = ((hsh x0 x1 x2 x3 : Nat) : Int) := by rw [IntKind.wrap_i64]; omega
      have ew2 : wrap64 ((hsh x0 x1 x2 x3 : Nat) : Int) = ((hsh x0 x1 x2 x3 : Nat) : Int) := wrap64_in (by omega) (by omega)
      clear e hl
      go_wp2_with fail
      go_returns
      exact ⟨by simp [ew, ew2], HB.out⟩

def pickN (xs : List Nat) (six : Bool) (n1 n2 : Nat) : Nat := xs.getD (hsh (hiOf six n1) (loOf n1) (hiOf six n2) (loOf n2) % xs.length) 0
theorem hiOf_nn (six : Bool) (n : Nat) : 0 ≤ hiOf six n := by
  unfold hiOf
  split <;> omega
theorem loOf_nn (n : Nat) : 0 ≤ loOf n := by unfold loOf; omega
theorem pick_mem {xs : List Nat} (h : 1 ≤ xs.length) (six : Bool) (n1 n2 : Nat) : pickN xs six n1 n2 ∈ xs := by
  unfold pickN
  rw [getD_eq (Nat.mod_lt _ h)]
  exact List.getElem_mem _


set_option maxRecDepth 100000 in
set_option maxHeartbeats 1000000 in
theorem pick_any (ab : Option Addr) (capb nb : Nat) (xs : List Nat) (six : Bool) (n1 n2 : Nat) (w : World) (hnb : nb = xs.length) (hsb : Sl w 1 (.slice ab nb capb) (xs.map nC)) (hbk : BuckOk xs) (f1 : Fits six n1) (f2 : Fits six n2) :
    Calls Try.prog 40 #[.slice ab nb capb, .agg #[.bool six, .int .u64 (hiOf six n1), .int .u64 (loOf n1), .bool six, .int .u64 (hiOf six n2), .int .u64 (loOf n2)]] w fun e w' => e = .returned (.tuple #[.int .i64 (pickN xs six n1 n2 : Nat), .int .i64 0]) ∧ Below w.heap.size w w' := by
  have nb1 : 1 ≤ nb := by rw [hnb]; exact hbk.one
  have nb2 : nb ≤ 64 := by rw [hnb]; exact hbk.len
  have k1 := hsb.lens.2.1
  have k2 := hsb.lens.2.2
  obtain ⟨H, hH⟩ : ∃ H, H = hsh (hiOf six n1) (loOf n1) (hiOf six n2) (loOf n2) := ⟨_, rfl⟩
  obtain ⟨idx, hidx⟩ : ∃ i, i = H % nb := ⟨_, rfl⟩
  have hil : idx < nb := by rw [hidx]; exact Nat.mod_lt _ nb1
  obtain ⟨bb, ob, rfl, hbb, c0⟩ := Sl.nat hsb (Below.refl _ _) (i := idx) (by rw [← hnb]; exact hil)
  obtain ⟨x, hx⟩ : ∃ x, x = xs.getD idx 0 := ⟨_, rfl⟩
  rw [← hx] at c0
  have ex : pickN xs six n1 n2 = x := by unfold pickN; rw [← hH, ← hnb, ← hidx, hx]
  have FA := Lib.hid (fun W (hb : Below w.heap.size w W) => fault_any (some ⟨bb, ob, none⟩) capb nb xs W hnb (hsb.below hb) hbk.top nb1 nb2)
  have M1 := Lib.hid (fun w => may_any six n1 w f1)
  have M2 := Lib.hid (fun w => may_any six n2 w f2)
  have HA := Lib.hid (fun w => hash_any six six (hiOf six n1) (loOf n1) (hiOf six n2) (loOf n2) w (hiOf_nn _ _) (loOf_nn _) (hiOf_nn _ _) (loOf_nn _))
  rw [← hH] at HA
  have er : (H : Int) % (nb : Int) = (idx : Int) := by rw [hidx]; exact (Int.natCast_emod H nb).symm
  have nb0 : ¬ nb = 0 := Nat.pos_iff_ne_zero.1 nb1
  have nb0b : ((nb : Int) == 0) = false := by rw [beq_eq_false_iff_ne]; exact fun h => nb0 (Int.ofNat.inj h)
  rw [ex]
  clear hnb hsb hbk f1 f2 hH hidx hx ex nb1 nb2
  generalize hiOf six n1 = p1 at *
  generalize loOf n1 = q1 at *
  generalize hiOf six n2 = p2 at *
  generalize loOf n2 = q2 at *
  go_enter Try.func40, Try.ntmps40
  go_wp2_with (first | ((with_reducible refine (FA.out _ (by (repeat' (first | (with_reducible exact Below.refl _ _) | (with_reducible assumption) | (with_reducible refine Below.alloc ?_ ?_ _) | (with_reducible refine Below.drew ?_) | (with_reducible refine Below.stepG ?_ (by assumption) ?_) | (with_reducible refine Below.setCell ?_ ?_ _) | omega | (dsimp only; omega) | (simp; done) | (simp; omega))))).mono ?_); rintro e w' ⟨rfl, rfl⟩) | ((with_reducible refine (M1.out _).mono ?_); rintro e w2 ⟨rfl, hb2⟩; (repeat (with_reducible (replace hb2 := Below.undrew hb2))); obtain ⟨hc2, hf2⟩ := bcell hb2; have hz2 := hb2.size; (repeat (first | rw [World.size_alloc] at hz2 | rw [World.size_drew] at hz2 | rw [World.size_setCell] at hz2)); (try have : w.heap.size < w2.heap.size := by omega); (try have : w.heap.size < w2.heap.size + 1 := by omega); (try have : w.heap.size < w2.heap.size + 1 + 1 := by omega); (try have : w.heap.size < w2.heap.size + 1 + 1 + 1 := by omega); (try have : w.heap.size + 1 < w2.heap.size := by omega); (try have : w.heap.size + 1 < w2.heap.size + 1 := by omega); (try have : w.heap.size + 1 < w2.heap.size + 1 + 1 := by omega); (try have : w.heap.size + 1 < w2.heap.size + 1 + 1 + 1 := by omega)) | ((with_reducible refine (M2.out _).mono ?_); rintro e w3 ⟨rfl, hb3⟩; (repeat (with_reducible (replace hb3 := Below.undrew hb3))); obtain ⟨hc3, hf3⟩ := bcell hb3; have hz3 := hb3.size; (repeat (first | rw [World.size_alloc] at hz3 | rw [World.size_drew] at hz3 | rw [World.size_setCell] at hz3)); (try have : w.heap.size < w3.heap.size := by omega); (try have : w.heap.size < w3.heap.size + 1 := by omega); (try have : w.heap.size < w3.heap.size + 1 + 1 := by omega); (try have : w.heap.size < w3.heap.size + 1 + 1 + 1 := by omega); (try have : w.heap.size + 1 < w3.heap.size := by omega); (try have : w.heap.size + 1 < w3.heap.size + 1 := by omega); (try have : w.heap.size + 1 < w3.heap.size + 1 + 1 := by omega); (try have : w.heap.size + 1 < w3.heap.size + 1 + 1 + 1 := by omega)) | (((with_reducible refine (HA.out _).mono ?_); rintro e w4 ⟨rfl, hb4⟩; (repeat (with_reducible (replace hb4 := Below.undrew hb4))); obtain ⟨hc4, hf4⟩ := bcell hb4; have hz4 := hb4.size; (repeat (first | rw [World.size_alloc] at hz4 | rw [World.size_drew] at hz4 | rw [World.size_setCell] at hz4)); (try have : w.heap.size < w4.heap.size := by omega); (try have : w.heap.size < w4.heap.size + 1 := by omega); (try have : w.heap.size < w4.heap.size + 1 + 1 := by omega); (try have : w.heap.size < w4.heap.size + 1 + 1 + 1 := by omega); (try have : w.heap.size + 1 < w4.heap.size := by omega); (try have : w.heap.size + 1 < w4.heap.size + 1 := by omega); (try have : w.heap.size + 1 < w4.heap.size + 1 + 1 := by omega); (try have : w.heap.size + 1 < w4.heap.size + 1 + 1 + 1 := by omega)); have hB4 : Below w.heap.size w w4 := bt (bt (bt (Below.alloc (Below.refl _ _) (Nat.le_refl _) _) hb2) hb3) hb4; have c4 := (hB4.cell (p := ⟨bb, ob + idx, none⟩) hbb).trans c0; clear hc4 hc3 hc2))

  go_returns
  exact ⟨rfl, hB4⟩
end Go.Proofs.Yticfcigkldkhmaa
