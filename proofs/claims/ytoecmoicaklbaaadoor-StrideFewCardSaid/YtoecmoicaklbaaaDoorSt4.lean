
/- Package stride: contract of Make. -/
import Derived.Test.YtoecmoicaklbaaaDoorSt3
set_option linter.unusedVariables false
set_option linter.unusedSimpArgs false
namespace Go.Proofs.YtoecmoicaklbaaaDoor
open Go Go.RowKit Go.Sort Wc Wk

theorem RetNodes.base {w w1 w' : World} {t : List NodeD} {v : Value} (h : RetNodes w1 t v w') (hb : Below w.heap.size w w1) : RetNodes w t v w' := by
  obtain ⟨rows, h1, h2, h3⟩ := h
  refine ⟨rows, h1.base hb.size, ⟨h2.1, fun m nd r e1 e2 => ?_⟩, hb.trans (h3.mono hb.size)⟩
  obtain ⟨a, c, a', c', e, o1, o2⟩ := h2.2 m nd r e1 e2
  exact ⟨a, c, a', c', e, o1.base hb.size, o2.base hb.size⟩
theorem fnM_any (x : Nat × Nat × Nat) (w : World) : Calls Tryd.prog 33 #[.agg #[.bool false, .int .u64 (hiOf false x.1), .int .u64 (loOf x.1), .int .i64 x.2.1, .int .i64 x.2.2]] w fun e w' => e = .returned (.bool false) ∧ Below w.heap.size w w' := by
  go_enter Tryd.func33, Tryd.ntmps33
  go_wp2_with fail
  go_returns
  exact ⟨rfl, (Below.refl _ _).alloc (Nat.le_refl _) _⟩

set_option maxHeartbeats 2000000 in
theorem indexM_any (a : Option Addr) (cap n : Nat) (xs : List (Nat × Nat × Nat)) (w : World) (hn : n = xs.length) (hs : Sl w 5 (.slice a n cap) (xs.map routeCells)) (hl : xs.length ≤ 1000) :
    Calls Tryd.prog 48 #[.slice a n cap, .func (.func 33) #[] #[]] w fun e w' => (e = .returned (.int .i64 (-1))) ∧ Below w.heap.size w w' := by
  have HS := Lib.hid hs
  have HN := Lib.hid hn
  have hl' : n ≤ 1000 := by omega
  clear hs hn hl
  go_enter Tryd.func48, Tryd.ntmps48
  go_wp2_with fail
  go_loopw [8] (fun i wr => ∃ j : Nat, j ≤ n ∧ i = .int .i64 j ∧ Hid (Below w.heap.size w wr)) (fun i _ => n - (intOf i).toNat)
  case atStart => exact ⟨0, Nat.zero_le _, rfl, Below.refl _ _⟩
  case round =>
    obtain ⟨j, hj, rfl, HB⟩ := hrel
    have hzr := HB.out.size
    by_cases hlt : j < n
    · obtain ⟨x, hx⟩ : ∃ s, xs[j]? = some s := ⟨_, List.getElem?_eq_getElem (by rw [← HN.out]; exact hlt)⟩
      obtain ⟨g, off, rfl, hg, d0, d1, d2, d3, d4⟩ := Sl.route HS.out HB.out hx
      have hgr : g < wr.heap.size := by omega
      have F := Lib.hid (fun w => fnM_any x w)
      clear hx
      go_wp2_with fail
      refine (F.out _).mono ?_
      rintro e w2 ⟨rfl, hb2⟩
      have HB2 := Lib.hid (HB.out.trans (hb2.mono hzr))
      clear hb2
      go_wp2_with fail
      go_roundw
      case rel => exact ⟨j + 1, by omega, by go_num, HB2⟩
      case measure => simp [intOf]; omega
    · obtain rfl : j = n := by omega
      go_wp2_with fail
      exact bodyPost_ret (v := .int .i64 (-1)) (by simp [results, Tryd.results48, go_sem]) rfl ⟨rfl, HB.out⟩
theorem containsM_any (a : Option Addr) (cap n : Nat) (xs : List (Nat × Nat × Nat)) (w : World) (hn : n = xs.length) (hs : Sl w 5 (.slice a n cap) (xs.map routeCells)) (hl : xs.length ≤ 1000) :
    Calls Tryd.prog 32 #[.slice a n cap, .func (.func 33) #[] #[]] w fun e w' => e = .returned (.bool false) ∧ Below w.heap.size w w' := by
  have IX := Lib.hid (indexM_any a cap n xs w hn hs hl)
  clear hs hn
  go_enter Tryd.func32, Tryd.ntmps32
  go_wp2_with fail
  refine IX.out.mono ?_
  rintro e w1 ⟨rfl, hb1⟩
  go_wp2_with fail
  go_returns
  exact ⟨by simp, hb1⟩
set_option maxHeartbeats 2000000 in
theorem make_any (a : Option Addr) (c n : Nat) (R : List (Nat × Nat × Nat)) (w : World) (hn : n = R.length) (hs : Sl w 5 (.slice a n c) (R.map routeCells)) (hR : RtOk R) :
    Calls Tryd.prog 20 #[.slice a n c] w fun e w' => ∃ v, e = .returned (.tuple #[v, .int .i64 0]) ∧ RetNodes w (treeOf R) v w' := by
  have HC := Lib.hid (check_any a c n R w hn hs hR)
  have HS := Lib.hid hs
  have HR := Lib.hid hR
  have HN := Lib.hid hn
  have hl := hR.len
  clear hs hR hn
  go_enter Tryd.func20, Tryd.ntmps20
  go_wp2_with fail
  refine HC.out.mono ?_
  rintro e w1 ⟨rfl, hb1⟩
  have HB1 := Lib.hid hb1
  have HS1 := Lib.hid (HS.out.below hb1)
  clear hb1 HC HS
  go_wp2_with fail
  refine (containsM_any a c n R w1 HN.out HS1.out (by omega)).mono ?_
  rintro e w2 ⟨rfl, hb2⟩
  have HB2 := Lib.hid (HB1.out.trans (hb2.mono HB1.out.size))
  have HS2 := Lib.hid (HS1.out.below hb2)
  clear hb2 HB1 HS1
  go_wp2_with fail
  have HT := Lib.hid (tree_any a c R w2 (by rw [← HN.out]; exact HS2.out) HR.out)
  rw [← HN.out] at HT
  refine HT.out.mono ?_
  rintro e w3 ⟨v, rfl, h⟩
  have HF := Lib.hid (h.base HB2.out)
  clear h HT HS2 HB2
  go_wp2_with fail
  go_returns
  exact ⟨v, rfl, HF.out⟩
end Go.Proofs.YtoecmoicaklbaaaDoor
