
/- The laws' maker of prefixes: Pres. -/
import Derived.Test.YtoecmoicaklbaaaDoorPre4
import Derived.Test.YtoecmoicaklbaaaDoorKit
set_option linter.unusedVariables false
namespace Go.Proofs.YtoecmoicaklbaaaDoor
open Go.RowKit Go.Sort Wc Wk

theorem eiPre : EI Tryd.prog 62 39 4 32 (.agg #[.bool false, .int .u64 0, .int .u64 0, .int .i64 0]) := ⟨by kernel_rfl, by kernel_rfl, rfl, by decide⟩

def presK (x : Int) : Nat := 24 + (x % 9).toNat
def presN (x : Int) : Nat := cutN 32 (167772160 + (x.tdiv 9 % 512).toNat) (presK x)
def preCells (six : Bool) (n k : Nat) : List Value := [.bool six, .int .u64 (hiOf six n), .int .u64 (loOf n), .int .i64 k]
def presRow (x : Int) : List Value := preCells false (presN x) (presK x)

theorem presK_le (x : Int) : presK x ≤ 32 := by
  unfold presK
  have := Int.emod_lt_of_pos x (show (0 : Int) < 9 by decide)
  omega
theorem pres_vp (x : Int) : VP false (presN x) (presK x) := by
  have h2 := Int.emod_lt_of_pos (x.tdiv 9) (show (0 : Int) < 512 by decide)
  exact vp_cut (six := false) (by unfold Fits wd; simp; omega) (presK_le x)

/-- It returns a slice of its own that reads so. -/
def RetOwn (w : World) (e : TypeId) (sz : Nat) (xs : List (List Value)) (r : Ending) (w' : World) : Prop := ∃ v, r = .returned v ∧ Own w' w.heap.size e sz v xs ∧ Below w.heap.size w w'

theorem pres_round (r q : Nat) (hr : r < 9) (hq : q < 512) : IntKind.u64.wrap ((167772160 + (q : Int)) / 2 ^ (32 - (24 + r)) * 2 ^ (32 - (24 + r))) = loOf (cutN 32 (167772160 + q) (24 + r)) := by
  have hf : Fits false (167772160 + q) := by unfold Fits wd; simp; omega
  have := shl_four hf (show 24 + r ≤ 32 by omega)
  rw [loOf_false hf] at this
  rw [← this]; rfl

theorem sl_one {w : World} {sz : Nat} {b : Nat} {c : List Value} (hc : c.length = sz) (hb : b < w.heap.size) (h : ∀ j u, c[j]? = some u → w.cell? ⟨b, j, none⟩ = some u) : Sl w sz (.slice (some ⟨b, 0, none⟩) 1 1) [c] := by
  refine ⟨by simpa using hc, some ⟨b, 0, none⟩, 1, rfl, by simp, by unfold maxLen; omega, fun _ => ⟨b, 0, rfl, hb, fun i c' hi j u hu => ?_⟩⟩
  match i, hi with
  | 0, hi => simp at hi; subst hi; simpa using h j u hu
theorem preCells_one (six : Bool) (n k : Nat) : ∀ u ∈ preCells six n k, u.oneCell' = true := by
  intro u hu
  simp [preCells] at hu
  rcases hu with rfl | rfl | rfl | rfl <;> rfl

set_option maxHeartbeats 2000000 in
set_option maxRecDepth 100000 in
theorem pres_any (a : Option Addr) (len cap : Nat) (zs : List Int) (n : Nat) (w : World) (h : IsRow .i64 w a len cap zs) (hn : n ≤ 1000) :
    Calls Tryd.prog 19 #[.slice a len cap, .int .i64 n] w (RetOwn w 39 4 ((zs.take (min len n)).map presRow)) := by
  obtain ⟨hlm, hlz⟩ := h.len_le
  go_enter Tryd.func19, Tryd.ntmps19
  go_wp2_with fail
  go_loopw [5, 6] (fun v i wr => ∃ k : Nat, k ≤ len ∧ k ≤ n ∧ i = .int .i64 k ∧ Own wr w.heap.size 39 4 v ((zs.take k).map presRow) ∧ Below w.heap.size w wr) (fun _ i _ => len - (intOf i).toNat)
  case atStart => exact ⟨0, Nat.zero_le _, Nat.zero_le _, rfl, Own.nil _ _ _ _, Below.refl _ _⟩
  case round =>
    obtain ⟨k, hk, hkn, rfl, hown, hbr⟩ := hrel
    have hzr := hbr.size
    by_cases hlt : k < len
    · by_cases hlt2 : k < n
      · obtain ⟨b, off, rfl, hb, hcs⟩ := h.opened (by omega)
        obtain ⟨hc, x0, x1⟩ := hcs k hlt
        have hcr := (hbr.cell (p := ⟨b, off + k, none⟩) hb).trans hc
        have hsn := take_snoc_getD presRow zs 0 k (by omega)
        generalize zs.getD k 0 = x at *
        have P1 := Lib.hid (fun w => picked_any x 9 w (by decide) (by decide))
        have P2 := Lib.hid (fun w => picked_any (x.tdiv 9) 512 w (by decide) (by decide))
        have r0 := Int.emod_nonneg x (show (9 : Int) ≠ 0 by decide)
        have r1 := Int.emod_lt_of_pos x (show (0 : Int) < 9 by decide)
        have q0 := Int.emod_nonneg (x.tdiv 9) (show (512 : Int) ≠ 0 by decide)
        have q1 := Int.emod_lt_of_pos (x.tdiv 9) (show (0 : Int) < 512 by decide)
        have hrow : presRow x = preCells false (cutN 32 (167772160 + (x.tdiv 9 % 512).toNat) (24 + (x % 9).toNat)) (24 + (x % 9).toNat) := rfl
        obtain ⟨r, hr⟩ := Int.eq_ofNat_of_zero_le r0
        obtain ⟨q, hq⟩ := Int.eq_ofNat_of_zero_le q0
        rw [hr] at P1 hrow r1
        rw [hq] at P2 hrow q1
        simp only [Int.toNat_natCast] at hrow
        have hw64 := pres_round r q (by omega) (by omega)
        have HR := Lib.hid hrow
        have HS := Lib.hid hsn
        have H64 := Lib.hid hw64
        clear hr hq r0 q0 hrow hsn hw64 hcs hc
        go_wp2_with (first | ((with_reducible refine (P1.out _).mono ?_); rintro e w' ⟨rfl, rfl⟩) | ((with_reducible refine (P2.out _).mono ?_); rintro e w' ⟨rfl, rfl⟩) | (at_builtin; refine wpList_append_rows rfl _ _ 62 39 4 32 _ rfl eiPre w.heap.size _ _ rfl (hown.alloc _) _ [[.bool false, .int .u64 0, .int .u64 (IntKind.u64.wrap ((167772160 + (q : Int)) / 2 ^ (32 - (24 + r)) * 2 ^ (32 - (24 + r)))), .int .i64 (24 + (r : Int))]] rfl (sl_one (b := wr.heap.size) rfl ?c0 ?c1) ?c2 ?c3 ?c4 ?c5 ?c6 ?_))
        case c0 => simp
        case c1 =>
          intro j u hj
          match j, hj with
          | 0, hj => simp at hj; subst hj; simp
          | 1, hj => simp at hj; subst hj; simp
          | 2, hj => simp at hj; subst hj; simp
          | 3, hj => simp at hj; subst hj; simp
        case c2 =>
          intro c hc u hu
          simp at hc; subst hc
          simp at hu
          rcases hu with rfl | rfl | rfl | rfl <;> rfl
        case c3 =>
          rw [take_map_len _ _ _ (by omega)]
          simp only [List.length_singleton]
          omega
        case c4 => decide
        case c5 => simp only [World.size_alloc]; omega
        case c6 => simp
        intro v' w1 hown' hgr hbw
        rw [H64.out, show (24 + (r : Int)) = ((24 + r : Nat) : Int) from by omega] at hown'
        have hown2 : Own w1 w.heap.size 39 4 v' ((zs.take (k + 1)).map presRow) := by
          rw [HS.out, HR.out, List.map_take]; exact hown'
        have hb2 : Below w.heap.size w w1 := (Below.al hbr _).trans hbw
        clear hown' hgr hbw hown hbr HR HS H64 P1 P2 hcr
        go_wp2
        go_roundw
        case rel => exact ⟨k + 1, by omega, by omega, by go_num, hown2, hb2⟩
        case measure => simp [intOf]; omega
      · have hd : decide ((k : Int) < n) = false := by simp; omega
        go_wp2
        go_returns
        exact ⟨_, rfl, by rw [show min len n = k from by omega]; exact hown, hbr⟩
    · have hd : decide ((k : Int) < len) = false := by simp; omega
      go_wp2
      go_returns
      exact ⟨_, rfl, by rw [show min len n = k from by omega]; exact hown, hbr⟩

/-- The one prefix of one number. -/
theorem pres_one (b : Nat) (x : Int) (w : World) (hc : w.cell? ⟨b, 0, none⟩ = some (.int .i64 x)) (hx : -9223372036854775808 ≤ x ∧ x ≤ 9223372036854775807) :
    Calls Tryd.prog 19 #[.slice (some ⟨b, 0, none⟩) 1 1, .int .i64 1] w fun e w' => ∃ g cap, e = .returned (.slice (some ⟨g, 0, none⟩) 1 cap) ∧ w.heap.size ≤ g ∧ g < w'.heap.size ∧
      w'.cell? ⟨g, 0, none⟩ = some (.bool false) ∧ w'.cell? ⟨g, 1, none⟩ = some (.int .u64 (hiOf false (presN x))) ∧ w'.cell? ⟨g, 2, none⟩ = some (.int .u64 (loOf (presN x))) ∧ w'.cell? ⟨g, 3, none⟩ = some (.int .i64 (presK x : Nat)) ∧ Below w.heap.size w w' := by
  have hr : IsRow .i64 w (some ⟨b, 0, none⟩) 1 1 [x] := .inr ⟨⟨b, 0, none⟩, rfl, by decide, by unfold maxLen; omega, rfl, fun i hi => by
    have : i = 0 := by simpa using hi
    subst this; simpa [addr_add_none] using hc, fun n hn => by
    simp at hn; subst hn
    simp [Lit.wf]
    exact ⟨by have := hx.1; simpa [IntKind.min, IntKind.bits, IntKind.signed] using this, by have := hx.2; simpa [IntKind.max, IntKind.bits, IntKind.signed] using this⟩⟩
  refine (pres_any (some ⟨b, 0, none⟩) 1 1 [x] 1 w hr (by decide)).mono fun e w' ⟨v, he, ho, hb⟩ => ?_
  have ho' : Own w' w.heap.size 39 4 v [presRow x] := ho
  obtain ⟨hl, hx2, h2⟩ := ho'
  rcases h2 with ⟨_, h0⟩ | ⟨g, cap, cur, rfl, hbg, hg, hn, hm, hs, ht⟩
  · simp at h0
  · have hsl := (show Own w' w.heap.size 39 4 (.slice (some ⟨g, 0, none⟩) [presRow x].length cap) [presRow x] from ⟨hl, hx2, .inr ⟨g, cap, cur, rfl, hbg, hg, hn, hm, hs, ht⟩⟩).sl
    obtain ⟨_, a', cap', hv, _, _, hcc⟩ := hsl
    obtain ⟨b', off', hab, hlt, hcell⟩ := hcc (by simp)
    simp only [Value.slice.injEq] at hv
    rw [hab] at hv
    simp only [Option.some.injEq, Addr.mk.injEq] at hv
    obtain ⟨⟨rfl, rfl, _⟩, _, rfl⟩ := hv
    have c := hcell 0 (presRow x) rfl
    refine ⟨g, cap, he, hbg, hlt, ?_, ?_, ?_, ?_, hb⟩
    · simpa using c 0 _ rfl
    · simpa using c 1 _ rfl
    · simpa using c 2 _ rfl
    · simpa using c 3 _ rfl
end Go.Proofs.YtoecmoicaklbaaaDoor
