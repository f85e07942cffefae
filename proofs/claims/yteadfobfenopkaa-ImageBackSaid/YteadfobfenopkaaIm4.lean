
/- Contracts of package image: a route is read. -/
import Derived.Test.YteadfobfenopkaaIm3
set_option linter.unusedVariables false
set_option linter.unusedSimpArgs false
namespace Go.Proofs.Yteadfobfenopkaa
open Go Go.RowKit Go.Sort Wc Wk

def loF (g : Nat → Nat) (q : Nat) : Nat → Nat
  | 0 => 0
  | i + 1 => loF g q i * 256 + (if i < q then g (2 + i) else 0)
theorem loF_lt (g : Nat → Nat) (q : Nat) (h : ∀ i, g i < 256) : ∀ i, loF g q i < 256 ^ i
  | 0 => by show 0 < 1; decide
  | i + 1 => by
    have h1 := loF_lt g q h i
    have h2 : (if i < q then g (2 + i) else 0) < 256 := by split; (· exact h _); (· decide)
    show loF g q i * 256 + _ < 256 ^ (i + 1)
    rw [Nat.pow_succ]
    omega
def ov (lo k h : Nat) (n : Nat) : Value := if n = 0 then .bool false else if n = 1 then .int .u64 0 else if n = 2 then .int .u64 lo else if n = 3 then .int .i64 k else .int .i64 h
theorem ov_lo (lo k h lo' n : Nat) : up (ov lo k h) 2 (.int .u64 (lo' : Int)) n = ov lo' k h n := by
  unfold up ov
  by_cases e : n = 2
  · subst e; rfl
  · rw [if_neg e, if_neg e, if_neg e]
theorem ov_k (lo k h k' n : Nat) : up (ov lo k h) 3 (.int .i64 (k' : Int)) n = ov lo k' h n := by
  unfold up ov
  by_cases e : n = 3
  · subst e; rfl
  · rw [if_neg e, if_neg e, if_neg e]
theorem ov_h (lo k h h' n : Nat) (hn : n < 5) : up (ov lo k h) 4 (.int .i64 (h' : Int)) n = ov lo k h' n := by
  unfold up ov
  by_cases e : n = 4
  · subst e; rfl
  · rw [if_neg e]
    match n, hn, e with
    | 0, _, _ => rfl
    | 1, _, _ => rfl
    | 2, _, _ => rfl
    | 3, _, _ => rfl
    | 4, _, e => exact absurd rfl e
theorem ov_six (lo k h n : Nat) : up (ov lo k h) 0 (.bool false) n = ov lo k h n := by
  unfold up ov
  by_cases e : n = 0
  · subst e; rfl
  · rw [if_neg e, if_neg e]
theorem grown_new {w w1 w2 : World} {R O : Nat} (h1 : w.grownBy w1 (some R)) (h2 : w1.grownBy w2 (some O)) (hO : w.heap.size ≤ O ∨ O = R) : w.grownBy w2 (some R) :=
  ⟨h2.os.trans h1.os, h2.tape.trans h1.tape, h2.output.trans h1.output, Nat.le_trans h1.size h2.size, fun k hk hne => (h2.block k (Nat.lt_of_lt_of_le hk h1.size) (fun e => by
    cases e
    rcases hO with g | g
    · omega
    · subst g; exact hne rfl)).trans (h1.block k hk hne)⟩
theorem or_u64 (a b : Nat) (ha : a < 16777216) (hb : b < 256) : bits .or .u64 ((a : Int) * 256) (b : Int) = ((a * 256 + b : Nat) : Int) := by
  have e : (a : Int) * 256 = ((a * 256 : Nat) : Int) := by omega
  have h0 : a * 256 ||| b = a * 256 + b := by
    have := Nat.shiftLeft_add_eq_or_of_lt (i := 8) (b := b) (by omega) a
    rw [Nat.shiftLeft_eq] at this
    exact this.symm
  rw [e, bits_or_u64_nat _ _ (by omega) (by omega), h0]
theorem or_i64 (a b : Nat) (ha : a < 256) (hb : b < 256) : bits .or .i64 ((a : Int) * 256) (b : Int) = ((a * 256 + b : Nat) : Int) := by
  have e : (a : Int) * 256 = ((a * 256 : Nat) : Int) := by omega
  have h0 : a * 256 ||| b = a * 256 + b := by
    have := Nat.shiftLeft_add_eq_or_of_lt (i := 8) (b := b) (by omega) a
    rw [Nat.shiftLeft_eq] at this
    exact this.symm
  have h1 : (BitVec.ofInt 64 ((a * 256 : Nat) : Int)).toNat = a * 256 := by
    rw [BitVec.ofInt_natCast, BitVec.toNat_ofNat]; exact Nat.mod_eq_of_lt (by omega)
  have h2 : (BitVec.ofInt 64 (b : Int)).toNat = b := by
    rw [BitVec.ofInt_natCast, BitVec.toNat_ofNat]; exact Nat.mod_eq_of_lt (by omega)
  rw [e]
  show IntKind.i64.wrap ((BitVec.ofInt 64 ((a * 256 : Nat) : Int) ||| BitVec.ofInt 64 (b : Int)).toNat : Int) = _
  rw [BitVec.toNat_or, h1, h2, h0, IntKind.wrap_i64]
  omega
theorem getD_lt {l : List Nat} (h : ∀ x ∈ l, x < 256) (i : Nat) : l.getD i 0 < 256 := by
  rw [List.getD_eq_getElem?_getD]
  cases e : l[i]? with
  | none => decide
  | some x => exact h x (List.mem_of_getElem? e)

set_option maxRecDepth 100000 in
set_option maxHeartbeats 4000000 in
theorem route_any (R : Nat) (l : List Nat) (bad : Bool) (c : Nat) (w : World) (h : RdAt w R l bad c) (h256 : ∀ x ∈ l, x < 256) (h0 : l.getD c 0 = 0) (hk : l.getD (c + 1) 0 ≤ 32) :
    Calls Try.prog 54 #[.pointer (some ⟨R, 0, none⟩)] w fun e w' =>
      e = .returned (.agg #[.bool false, .int .u64 0, .int .u64 ((loF (fun i => l.getD (c + i) 0) (wide8 (l.getD (c + 1) 0)) 4 : Nat) : Int), .int .i64 ((l.getD (c + 1) 0 : Nat) : Int), .int .i64 ((l.getD (c + 2 + wide8 (l.getD (c + 1) 0)) 0 * 256 + l.getD (c + 3 + wide8 (l.getD (c + 1) 0)) 0 : Nat) : Int)]) ∧
      RdAt w' R l bad (c + 4 + wide8 (l.getD (c + 1) 0)) ∧ w.grownBy w' (some R) := by
  have hlt := h.lt
  have H := Lib.hid h
  have TK := Lib.hid (fun (i : Nat) (W : World) (hW : RdAt W R l bad i) => take_at R l bad i W hW h256)
  have HLT := Lib.hid (fun i => getD_lt h256 i)
  have hg256 : ∀ i, (fun i => l.getD (c + i) 0) i < 256 := fun i => getD_lt h256 _
  have HG := Lib.hid (fun q i => loF_lt (fun i => l.getD (c + i) 0) q hg256 i)
  have H00 := Lib.hid h0
  obtain ⟨k, hkk⟩ : ∃ k, k = l.getD (c + 1) 0 := ⟨_, rfl⟩
  rw [← hkk] at hk ⊢
  have HK := Lib.hid hkk
  have hqq2 := (wide_div k).2.1
  have hq4 := (wide_div k).2.2 hk
  obtain ⟨q, hq⟩ : ∃ q, q = wide8 k := ⟨_, rfl⟩
  rw [← hq] at hqq2 hq4 ⊢
  obtain ⟨g, hg⟩ : ∃ g : Nat → Nat, g = fun i => l.getD (c + i) 0 := ⟨_, rfl⟩
  rw [← hg] at HG ⊢
  have HGG := Lib.hid hg
  clear h h256 h0 hkk hq hg hg256
  go_enter Try.func54, Try.ntmps54
  go_upto_region 2 with fail
  have HO0 : Hid (BxN (w.alloc (.cells #[.bool false, .int .u64 0, .int .u64 0, .int .i64 0, .int .i64 0] 53)) w.heap.size 5 (ov 0 0 0)) := Lib.hid ⟨by simp, fun n hn => by
      rw [World.cell?_alloc_new]
      match n, hn with
      | 0, _ => rfl
      | 1, _ => rfl
      | 2, _ => rfl
      | 3, _ => rfl
      | 4, _ => rfl, fun n hn => by simp⟩
  have HR0 : Hid (RdAt (w.alloc (.cells #[.bool false, .int .u64 0, .int .u64 0, .int .i64 0, .int .i64 0] 53)) R l bad c) := Lib.hid (Rdr.below' H.out ((Below.refl _ _).alloc (Nat.le_refl _) _) hlt)
  have HGW : Hid (w.grownBy (w.alloc (.cells #[.bool false, .int .u64 0, .int .u64 0, .int .i64 0, .int .i64 0] 53)) (some R)) := Lib.hid (World.grownBy_alloc w _ _)
  generalize w.alloc (.cells #[.bool false, .int .u64 0, .int .u64 0, .int .i64 0, .int .i64 0] 53) = W at *
  obtain ⟨O, hO⟩ : ∃ O, O = w.heap.size := ⟨_, rfl⟩
  rw [← hO] at HO0 ⊢
  have hRO : R < O := by omega
  have HOW := Lib.hid (show w.heap.size ≤ O by omega)
  clear hO H
  have tk0 := TK.out c W HR0.out
  rw [H00.out] at tk0
  have TK0 := Lib.hid tk0
  have hOW := HO0.out.lt
  clear tk0 HR0
  go_wp2_with ((with_reducible refine TK0.out.mono ?_); rintro e w1 ⟨rfl, hr1, hg1⟩; have hx1 := HO0.out.kept hg1.size (hg1.block O hOW (fun e => by cases e; omega)); have c1 := hx1.c 0 (by decide); have f1 := hx1.fz 0 (by decide); have l1 := hx1.lt)
  have HR1 : Hid (RdAt (w1.setCell ⟨O, 0, none⟩ (.bool false)) R l bad (c + 1)) := Lib.hid (Rdr.below' hr1 (Below.setCell (Below.refl O w1) (Nat.le_refl O) (p := ⟨O, 0, none⟩) _) hRO)
  have HO1 : Hid (BxN (w1.setCell ⟨O, 0, none⟩ (.bool false)) O 5 (ov 0 0 0)) := Lib.hid ((hx1.set (n := 0) (by decide) (.bool false)).cast (fun n _ => ov_six 0 0 0 n))
  have HG1 : Hid (w.grownBy (w1.setCell ⟨O, 0, none⟩ (.bool false)) (some R)) := Lib.hid (grown_new (grown_new HGW.out hg1 (.inr rfl)) (grown_put _ O 0 _) (.inl HOW.out))
  clear hr1 hg1 hx1 c1 f1 l1 TK0 HO0 HGW hOW
  generalize w1.setCell ⟨O, 0, none⟩ (.bool false) = V1 at *
  have tk1 := TK.out (c + 1) V1 HR1.out
  rw [← HK.out] at tk1
  have TK1 := Lib.hid tk1
  have hOW := HO1.out.lt
  clear tk1 HR1
  go_upto_region 4 with ((with_reducible refine TK1.out.mono ?_); rintro e w2 ⟨rfl, hr2, hg2⟩; have hx2 := HO1.out.kept hg2.size (hg2.block O hOW (fun e => by cases e; omega)); have c2 := hx2.c 3 (by decide); have f2 := hx2.fz 3 (by decide); have l2 := hx2.lt)
  have HR2 : Hid (RdAt (w2.setCell ⟨O, 3, none⟩ (.int .i64 k)) R l bad (c + 2)) := Lib.hid (Rdr.below' hr2 (Below.setCell (Below.refl O w2) (Nat.le_refl O) (p := ⟨O, 3, none⟩) _) hRO)
  have HO2 : Hid (BxN (w2.setCell ⟨O, 3, none⟩ (.int .i64 k)) O 5 (ov 0 k 0)) := Lib.hid ((hx2.set (n := 3) (by decide) (.int .i64 k)).cast (fun n _ => ov_k 0 0 0 k n))
  have HG2 : Hid (w.grownBy (w2.setCell ⟨O, 3, none⟩ (.int .i64 k)) (some R)) := Lib.hid (grown_new (grown_new HG1.out hg2 (.inr rfl)) (grown_put _ O 3 _) (.inl HOW.out))
  clear hr2 hg2 hx2 c2 f2 l2 TK1 HO1 HG1 hOW
  generalize w2.setCell ⟨O, 3, none⟩ (.int .i64 k) = V at *
  have c0 := HO2.out.c 0 (by decide)
  have c3 := HO2.out.c 3 (by decide)
  have hOV := HO2.out.lt
  have hd : ¬ 32 < k := by omega
  have WD := Lib.hid (fun w => wide_any false w)
  have c0' : V.cell? ⟨O, 0, none⟩ = some (.bool false) := c0
  have c3' : V.cell? ⟨O, 3, none⟩ = some (.int .i64 k) := c3
  clear c0 c3
  go_wp2_with ((with_reducible refine (WD.out _).mono ?_); rintro e w' ⟨rfl, rfl⟩; dsimp only [wdI])
  clear c0' c3' hOV hd
  go_loopw [35] (fun i wr => ∃ m : Nat, m ≤ 4 ∧ i = .int .i64 m ∧ Hid (RdAt wr R l bad (c + 2 + min m q)) ∧ Hid (BxN wr O 5 (ov (loF g q m) k 0)) ∧ Hid (w.grownBy wr (some R))) (fun i _ => 4 - (intOf i).toNat)
  case atStart => exact ⟨0, Nat.zero_le _, rfl, by rw [Nat.zero_min]; exact HR2, HO2, HG2⟩
  case round =>
    clear HR2 HO2 HG2
    obtain ⟨m, hm, rfl, HR, HO, HGW⟩ := hrel
    have hOV := HO.out.lt
    have c0 : wr.cell? ⟨O, 0, none⟩ = some (.bool false) := HO.out.c 0 (by decide)
    have c3 : wr.cell? ⟨O, 3, none⟩ = some (.int .i64 k) := HO.out.c 3 (by decide)
    have c2 : wr.cell? ⟨O, 2, none⟩ = some (.int .u64 ((loF g q m : Nat) : Int)) := HO.out.c 2 (by decide)
    have f2 := HO.out.fz 2 (by decide)
    by_cases hlt : m < 4
    · have hlo := HG.out q m
      have hlo3 : loF g q m < 16777216 := Nat.lt_of_lt_of_le hlo (by
        calc 256 ^ m ≤ 256 ^ 3 := Nat.pow_le_pow_right (by decide) (by omega)
          _ = 16777216 := rfl)
      by_cases hmq : m < q
      · have hgx : l.getD (c + 2 + m) 0 = g (2 + m) := by rw [HGG.out]; dsimp only; congr 1; omega
        have hx256 := HLT.out (c + 2 + m)
        have tk := TK.out (c + 2 + m) wr (by have := HR.out; rwa [Nat.min_eq_left (by omega)] at this)
        rw [hgx] at tk hx256
        have HST := Lib.hid (show loF g q (m + 1) = loF g q m * 256 + g (2 + m) by show loF g q m * 256 + _ = _; rw [if_pos hmq])
        have TKm := Lib.hid tk
        generalize g (2 + m) = x at *
        generalize loF g q m = lo at *
        have eo := or_u64 lo x hlo3 hx256
        have ewx : IntKind.u64.wrap (x : Int) = (x : Int) := by rw [IntKind.wrap_u64]; omega
        clear tk hgx hlo
        go_wp2_with ((with_reducible refine TKm.out.mono ?_); rintro e w1 ⟨rfl, hr1, hg1⟩; have hx1 := HO.out.kept hg1.size (hg1.block O hOV (fun e => by cases e; omega)); have c0' : w1.cell? ⟨O, 0, none⟩ = some (.bool false) := hx1.c 0 (by decide); have c2' : w1.cell? ⟨O, 2, none⟩ = some (.int .u64 (lo : Int)) := hx1.c 2 (by decide); have f2' := hx1.fz 2 (by decide); have l1 := hx1.lt)
        have HR1 : Hid (RdAt (w1.setCell ⟨O, 2, none⟩ (.int .u64 ((lo * 256 + x : Nat) : Int))) R l bad (c + 2 + min (m + 1) q)) := Lib.hid (by rw [Nat.min_eq_left (by omega), show c + 2 + (m + 1) = c + 2 + m + 1 by omega]; exact Rdr.below' hr1 (Below.setCell (Below.refl O w1) (Nat.le_refl O) (p := ⟨O, 2, none⟩) _) hRO)
        have HO1 : Hid (BxN (w1.setCell ⟨O, 2, none⟩ (.int .u64 ((lo * 256 + x : Nat) : Int))) O 5 (ov (loF g q (m + 1)) k 0)) := Lib.hid (by rw [HST.out]; exact (hx1.set (n := 2) (by decide) _).cast (fun n _ => ov_lo lo k 0 _ n))
        have HG1 : Hid (w.grownBy (w1.setCell ⟨O, 2, none⟩ (.int .u64 ((lo * 256 + x : Nat) : Int))) (some R)) := Lib.hid (grown_new (grown_new HGW.out hg1 (.inr rfl)) (grown_put _ O 2 _) (.inl HOW.out))
        go_roundw
        case rel => exact ⟨m + 1, by omega, by go_num, HR1, HO1, HG1⟩
        case measure => simp [intOf]; omega
      · have HST := Lib.hid (show loF g q (m + 1) = loF g q m * 256 + 0 by show loF g q m * 256 + _ = _; rw [if_neg hmq])
        have hmin : min (m + 1) q = min m q := by omega
        have HMIN := Lib.hid hmin
        generalize loF g q m = lo at *
        have eo : bits .or .u64 ((lo : Int) * 256) 0 = ((lo * 256 + 0 : Nat) : Int) := or_u64 lo 0 hlo3 (by decide)
        clear hlo hmin
        go_wp2_with fail
        have HR1 : Hid (RdAt (wr.setCell ⟨O, 2, none⟩ (.int .u64 ((lo * 256 + 0 : Nat) : Int))) R l bad (c + 2 + min (m + 1) q)) := Lib.hid (by rw [HMIN.out]; exact Rdr.below' HR.out (Below.setCell (Below.refl O wr) (Nat.le_refl O) (p := ⟨O, 2, none⟩) _) hRO)
        have HO1 : Hid (BxN (wr.setCell ⟨O, 2, none⟩ (.int .u64 ((lo * 256 + 0 : Nat) : Int))) O 5 (ov (loF g q (m + 1)) k 0)) := Lib.hid (by rw [HST.out]; exact (HO.out.set (n := 2) (by decide) _).cast (fun n _ => ov_lo lo k 0 _ n))
        have HG1 : Hid (w.grownBy (wr.setCell ⟨O, 2, none⟩ (.int .u64 ((lo * 256 + 0 : Nat) : Int))) (some R)) := Lib.hid (grown_new HGW.out (grown_put _ O 2 _) (.inl HOW.out))
        go_roundw
        case rel => exact ⟨m + 1, by omega, by go_num, HR1, HO1, HG1⟩
        case measure => simp [intOf]; omega
    · obtain rfl : m = 4 := by omega
      have hr := HR.out
      rw [Nat.min_eq_right (by omega)] at hr
      have T1 := Lib.hid (TK.out (c + 2 + q) wr hr)
      have hh1 := HLT.out (c + 2 + q)
      have hh0 := HLT.out (c + 3 + q)
      have e3 : c + 2 + q + 1 = c + 3 + q := by omega
      have E3 := Lib.hid e3
      obtain ⟨p1, hp1⟩ : ∃ p, p = l.getD (c + 2 + q) 0 := ⟨_, rfl⟩
      obtain ⟨p0, hp0⟩ : ∃ p, p = l.getD (c + 3 + q) 0 := ⟨_, rfl⟩
      rw [← hp1] at T1 hh1
      rw [← hp0] at hh0
      have HP1 := Lib.hid hp1
      have HP0 := Lib.hid hp0
      have eo := or_i64 p1 p0 hh1 hh0
      clear hr e3 hp1 hp0 c0 c2 c3 f2 HR
      go_wp2_with ((with_reducible refine T1.out.mono ?_); rintro e w1 ⟨rfl, hr1, hg1⟩)
      have HO1 := HO.out.kept hg1.size (hg1.block O hOV (fun e => by cases e; omega))
      rw [E3.out] at hr1
      have t2 := TK.out (c + 3 + q) w1 hr1
      rw [← HP0.out] at t2
      have T2 := Lib.hid t2
      have hO1 := HO1.lt
      clear t2
      go_wp2_with ((with_reducible refine T2.out.mono ?_); rintro e w2 ⟨rfl, hr2, hg2⟩; have hx2 := HO1.kept hg2.size (hg2.block O hO1 (fun e => by cases e; omega)); have c0 : w2.cell? ⟨O, 0, none⟩ = some (.bool false) := hx2.c 0 (by decide); have c1 : w2.cell? ⟨O, 1, none⟩ = some (.int .u64 0) := hx2.c 1 (by decide); have c2 : w2.cell? ⟨O, 2, none⟩ = some (.int .u64 ((loF g q 4 : Nat) : Int)) := hx2.c 2 (by decide); have c3 : w2.cell? ⟨O, 3, none⟩ = some (.int .i64 k) := hx2.c 3 (by decide); have c4 : w2.cell? ⟨O, 4, none⟩ = some (.int .i64 0) := hx2.c 4 (by decide); have f0 := hx2.fz 0 (by decide); have f1 := hx2.fz 1 (by decide); have f2 := hx2.fz 2 (by decide); have f3 := hx2.fz 3 (by decide); have f4 := hx2.fz 4 (by decide); have l2 := hx2.lt)
      have hxF := (((((hx2.set (n := 4) (by decide) (.int .i64 ((p1 : Int) * 256 + p0))).set (n := 0) (by decide) (.bool false)).set (n := 1) (by decide) (.int .u64 0)).set (n := 2) (by decide) (.int .u64 ((loF g q 4 : Nat) : Int))).set (n := 3) (by decide) (.int .i64 k)).set (n := 4) (by decide) (.int .i64 ((p1 : Int) * 256 + p0))
      have HRF : Hid (RdAt ((((((w2.setCell ⟨O, 4, none⟩ (.int .i64 ((p1 : Int) * 256 + p0))).setCell ⟨O, 0, none⟩ (.bool false)).setCell ⟨O, 1, none⟩ (.int .u64 0)).setCell ⟨O, 2, none⟩ (.int .u64 ((loF g q 4 : Nat) : Int))).setCell ⟨O, 3, none⟩ (.int .i64 k)).setCell ⟨O, 4, none⟩ (.int .i64 ((p1 : Int) * 256 + p0))) R l bad (c + 4 + q)) := Lib.hid (by
        rw [show c + 4 + q = c + 3 + q + 1 by omega]
        refine Rdr.below' hr2 (B := O) ?_ hRO
        (repeat refine Below.setCell ?_ (Nat.le_refl O) _)
        exact Below.refl _ _)
      have HGF : Hid (w.grownBy ((((((w2.setCell ⟨O, 4, none⟩ (.int .i64 ((p1 : Int) * 256 + p0))).setCell ⟨O, 0, none⟩ (.bool false)).setCell ⟨O, 1, none⟩ (.int .u64 0)).setCell ⟨O, 2, none⟩ (.int .u64 ((loF g q 4 : Nat) : Int))).setCell ⟨O, 3, none⟩ (.int .i64 k)).setCell ⟨O, 4, none⟩ (.int .i64 ((p1 : Int) * 256 + p0))) (some R)) := Lib.hid (by
        (repeat refine grown_new ?_ (grown_put _ O _ _) (.inl HOW.out))
        exact grown_new (grown_new HGW.out hg1 (.inr rfl)) hg2 (.inr rfl))
      clear c0 c1 c2 c3 c4 f0 f1 f2 f3 f4 l2 hr1 hr2 hg1 hg2 hx2 HO1 hO1 T1 T2
      generalize ((((((w2.setCell ⟨O, 4, none⟩ (.int .i64 ((p1 : Int) * 256 + p0))).setCell ⟨O, 0, none⟩ (.bool false)).setCell ⟨O, 1, none⟩ (.int .u64 0)).setCell ⟨O, 2, none⟩ (.int .u64 ((loF g q 4 : Nat) : Int))).setCell ⟨O, 3, none⟩ (.int .i64 k)).setCell ⟨O, 4, none⟩ (.int .i64 ((p1 : Int) * 256 + p0))) = F at *
      have c0 : F.cell? ⟨O, 0, none⟩ = some (.bool false) := (hxF.c 0 (by decide)).trans rfl
      have c1 : F.cell? ⟨O, 1, none⟩ = some (.int .u64 0) := (hxF.c 1 (by decide)).trans rfl
      have c2 : F.cell? ⟨O, 2, none⟩ = some (.int .u64 ((loF g q 4 : Nat) : Int)) := (hxF.c 2 (by decide)).trans rfl
      have c3 : F.cell? ⟨O, 3, none⟩ = some (.int .i64 k) := (hxF.c 3 (by decide)).trans rfl
      have c4 : F.cell? ⟨O, 4, none⟩ = some (.int .i64 ((p1 : Int) * 256 + p0)) := (hxF.c 4 (by decide)).trans rfl
      have lF := hxF.lt
      clear hxF
      rw [← HP1.out, ← HP0.out]
      refine bodyPost_ret (v := .agg #[.bool false, .int .u64 0, .int .u64 ((loF g q 4 : Nat) : Int), .int .i64 k, .int .i64 ((p1 : Int) * 256 + p0)]) (by simp [results, Try.results54, go_sem, c0, c1, c2, c3, c4]) rfl ⟨rfl, HRF.out, HGF.out⟩
end Go.Proofs.Yteadfobfenopkaa
