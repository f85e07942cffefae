
/- Package stride: routes. -/
import Derived.Test.YtoecmoicaklbaaaDoorSt7
import Derived.Test.YtoecmoicaklbaaaDoorSt8
set_option linter.unusedVariables false
set_option linter.unusedSimpArgs false
namespace Go.Proofs.YtoecmoicaklbaaaDoor
open Go Go.RowKit Go.Sort Wc Wk

theorem treeOf_len (R : List (Nat × Nat × Nat)) : ∀ x ∈ treeOf R, x.hops.length ≤ 1000 ∧ x.kids.length ≤ 1000 := by
  intro x hx
  have hb := treeOf_bits R x hx
  obtain ⟨i, _, rfl⟩ := List.mem_map.1 hx
  have h1 := hb.1.bl.len
  have h2 := hb.2.1.bl.len
  unfold nodeAt at h1 h2 ⊢
  dsimp only at h1 h2 ⊢
  rw [List.length_map, List.length_map, List.length_range]
  omega
theorem wk_start (w : World) (n : Nat) : WkSt w ((w.alloc (.cells #[.slice none 0 0] 23)).alloc (.cells #[.int .i64 n] 3)) w.heap.size n [] (.slice none 0 0) := by
  refine ⟨((Below.refl _ _).alloc (Nat.le_refl _) _).alloc (by simp) _, Nat.le_refl _, ?_, ?_, ?_⟩
  · have := rx_new (w := w.alloc (.cells #[.slice none 0 0] 23)) [.int .i64 n] 3
    rw [World.size_alloc] at this
    exact this
  · exact RX.below (rx_new (w := w) [.slice none 0 0] _) ((Below.refl _ _).alloc (Nat.le_refl _) _)
  · exact Wk.Own.nil _ _ _ _
theorem walkFromTop (w : World) (a : Option Addr) (n c : Nat) (t : List NodeD) (rows : List (List Value)) (E : WkEnv w a n c t rows) (hn : n ≤ 6000) (Z : World)
    (hZ : WkSt w Z w.heap.size n [] (.slice none 0 0)) :
    Calls Tryd.prog 35 #[.slice a n c, .int .i64 0, .agg #[.bool false, .int .u64 0, .int .u64 0, .int .i64 0], .pointer (some ⟨w.heap.size + 1, 0, none⟩), .func (.func 36) #[] #[.pointer (some ⟨w.heap.size, 0, none⟩)]] Z (WkSays t 9 n 0 0 0 w Z w.heap.size [] (.slice none 0 0)) :=
  walk_any w a n c t rows w.heap.size E 9 n 0 0 0 Z [] (.slice none 0 0) (by decide) hZ (by simp; omega) ⟨by show 0 < 2 ^ wd false; decide, Nat.zero_le _, by simp [cutN]⟩

set_option maxHeartbeats 2000000 in
theorem routes_bad (a : Option Addr) (n c : Nat) (t : List NodeD) (rows : List (List Value)) (w : World) (E : WkEnv w a n c t rows) (hn : n ≤ 6000) (hw : walkF t 9 n 0 0 0 = none) :
    Calls Tryd.prog 22 #[.slice a n c] w fun e w' => e = .returned (.tuple #[.slice none 0 0, .bool false]) ∧ Below w.heap.size w w' := by
  have HW := Lib.hid hw
  have WZ := Lib.hid (walkFromTop w a n c t rows E hn _ (wk_start w n))
  clear E hw
  go_enter Tryd.func22, Tryd.ntmps22
  go_wp2_with fail
  refine WZ.out.mono ?_
  rintro e w3 (⟨R, b', hf, _⟩ | ⟨_, rfl, b', L', v', k1, k2⟩)
  · rw [HW.out] at hf
    cases hf
  · have HB := Lib.hid k1.lo
    clear k1 k2
    go_wp2_with fail
    go_returns
    exact ⟨rfl, HB.out⟩
set_option maxHeartbeats 2000000 in
theorem routes_ok (a : Option Addr) (n c : Nat) (t : List NodeD) (rows : List (List Value)) (S : List (Nat × Nat × Nat)) (b1 : Nat) (w : World) (E : WkEnv w a n c t rows) (hn : n ≤ 1000) (hw : walkF t 9 n 0 0 0 = some (S, b1)) (hS : RtOk S) (heq : treeOf S = t) :
    Calls Tryd.prog 22 #[.slice a n c] w fun e w' => ∃ v, e = .returned (.tuple #[v, .bool true]) ∧ Wk.Own w' w.heap.size 41 5 v (S.map routeCells) ∧ Below w.heap.size w w' := by
  have HW := Lib.hid hw
  have WZ := Lib.hid (walkFromTop w a n c t rows E (by omega) _ (wk_start w n))
  have HE := Lib.hid E
  have HS := Lib.hid hS
  have HQ := Lib.hid heq
  clear E hw hS heq
  go_enter Tryd.func22, Tryd.ntmps22
  go_wp2_with fail
  refine WZ.out.mono ?_
  rintro e w3 (⟨R, b', hf, rfl, v', k1, k2⟩ | ⟨hf, _⟩)
  · rw [HW.out] at hf
    cases hf
    clear k2 WZ
    rw [List.nil_append] at k1
    obtain ⟨a', c', rfl⟩ := k1.own.shape
    rw [List.length_map] at k1
    have HK := Lib.hid k1
    obtain ⟨m, hm⟩ : ∃ m, m = S.length := ⟨_, rfl⟩
    have HM := Lib.hid hm
    rw [← hm] at HK
    have o0 := HK.out.out.cell 0 _ rfl
    have ol := HK.out.out.lt
    have CK := Lib.hid (check_any a' c' m S w3 hm HK.out.own.sl HS.out)
    have TR := Lib.hid (fun W (hb : Below w3.heap.size w3 W) => tree_any a' c' S W (by rw [← hm]; exact HK.out.own.sl.below hb) HS.out)
    rw [← hm] at TR
    clear k1 hm
    go_wp2_with fail
    refine CK.out.mono ?_
    rintro e w4 ⟨rfl, hb4⟩
    have HB4 := Lib.hid hb4
    have q0 := (HK.out.out.below hb4).cell 0 _ rfl
    have ql := (HK.out.out.below hb4).lt
    clear hb4 CK o0 ol
    go_wp2_with fail
    refine (TR.out w4 HB4.out).mono ?_
    rintro e w5 ⟨v5, rfl, rows5, q5, n5, b5⟩
    obtain ⟨ta, tc, rfl⟩ := q5.shape
    have HN5 := Lib.hid (show NodesR w5 ta rows5.length tc (treeOf S) rows5 from ⟨q5.sl, n5.1, n5.1, fun m nd r e1 e2 => (n5.2 m nd r e1 e2).read, treeOf_bits S⟩)
    have HB5 := Lib.hid (HB4.out.trans (b5.mono HB4.out.size))
    clear q5 n5 b5 TR q0 ql
    obtain ⟨tl, htl⟩ : ∃ m, m = rows5.length := ⟨_, rfl⟩
    rw [← htl] at HN5 ⊢
    have hnl := HE.out.nr.nl
    obtain rfl : tl = n := by rw [HN5.out.nl, hnl, HQ.out]
    have SE := Lib.hid (sameN_eq ta a tl tc c t rows5 rows w5 (HQ.out ▸ HN5.out) (HE.out.nr.below (HK.out.lo.trans (HB5.out.mono HK.out.lo.size))) (by omega) (HQ.out ▸ treeOf_len S))
    clear hnl htl
    go_wp2_with fail
    refine SE.out.mono ?_
    rintro e w6 ⟨rfl, hb6⟩
    have HB6 := Lib.hid (HB5.out.trans (hb6.mono HB5.out.size))
    have q0 := (HK.out.out.below HB6.out).cell 0 _ rfl
    have ql := (HK.out.out.below HB6.out).lt
    clear hb6 SE HN5 HB5 HB4
    go_wp2_with fail
    go_returns
    exact ⟨_, rfl, by have h1 := (HK.out.own.below HB6.out).base (Nat.le_add_right w.heap.size 2); exact h1, HK.out.lo.trans (HB6.out.mono HK.out.lo.size)⟩
  · rw [HW.out] at hf
    cases hf
set_option maxHeartbeats 2000000 in
theorem routes_not (a : Option Addr) (n c : Nat) (t : List NodeD) (rows : List (List Value)) (S : List (Nat × Nat × Nat)) (b1 : Nat) (w : World) (E : WkEnv w a n c t rows) (hn : n ≤ 1000) (hw : walkF t 9 n 0 0 0 = some (S, b1)) (hS : RtOk S) (heq : (treeOf S).length ≠ n) :
    Calls Tryd.prog 22 #[.slice a n c] w fun e w' => e = .returned (.tuple #[.slice none 0 0, .bool false]) ∧ Below w.heap.size w w' := by
  have HW := Lib.hid hw
  have WZ := Lib.hid (walkFromTop w a n c t rows E (by omega) _ (wk_start w n))
  have HE := Lib.hid E
  have HS := Lib.hid hS
  have HQ := Lib.hid heq
  clear E hw hS heq
  go_enter Tryd.func22, Tryd.ntmps22
  go_wp2_with fail
  refine WZ.out.mono ?_
  rintro e w3 (⟨R, b', hf, rfl, v', k1, k2⟩ | ⟨hf, _⟩)
  · rw [HW.out] at hf
    cases hf
    clear k2 WZ
    rw [List.nil_append] at k1
    obtain ⟨a', c', rfl⟩ := k1.own.shape
    rw [List.length_map] at k1
    have HK := Lib.hid k1
    obtain ⟨m, hm⟩ : ∃ m, m = S.length := ⟨_, rfl⟩
    have HM := Lib.hid hm
    rw [← hm] at HK
    have o0 := HK.out.out.cell 0 _ rfl
    have ol := HK.out.out.lt
    have CK := Lib.hid (check_any a' c' m S w3 hm HK.out.own.sl HS.out)
    have TR := Lib.hid (fun W (hb : Below w3.heap.size w3 W) => tree_any a' c' S W (by rw [← hm]; exact HK.out.own.sl.below hb) HS.out)
    rw [← hm] at TR
    clear k1 hm
    go_wp2_with fail
    refine CK.out.mono ?_
    rintro e w4 ⟨rfl, hb4⟩
    have HB4 := Lib.hid hb4
    have q0 := (HK.out.out.below hb4).cell 0 _ rfl
    have ql := (HK.out.out.below hb4).lt
    clear hb4 CK o0 ol
    go_wp2_with fail
    refine (TR.out w4 HB4.out).mono ?_
    rintro e w5 ⟨v5, rfl, rows5, q5, n5, b5⟩
    obtain ⟨ta, tc, rfl⟩ := q5.shape
    have HN5 := Lib.hid (show NodesR w5 ta rows5.length tc (treeOf S) rows5 from ⟨q5.sl, n5.1, n5.1, fun m nd r e1 e2 => (n5.2 m nd r e1 e2).read, treeOf_bits S⟩)
    have HB5 := Lib.hid (HB4.out.trans (b5.mono HB4.out.size))
    clear q5 n5 b5 TR q0 ql
    obtain ⟨tl, htl⟩ : ∃ m, m = rows5.length := ⟨_, rfl⟩
    rw [← htl] at HN5 ⊢
    have htn : ((tl : Int) ≠ (n : Int)) := by have h1 := HN5.out.nl; have h2 := HQ.out; omega
    have SE := Lib.hid (sameN_ne ta a tl n tc c w5 (by omega))
    clear htl htn
    go_wp2_with fail
    refine SE.out.mono ?_
    rintro e w6 ⟨rfl, hb6⟩
    have HB6 := Lib.hid (HB5.out.trans (hb6.mono HB5.out.size))
    clear hb6 SE HN5 HB5 HB4
    go_wp2_with fail
    go_returns
    exact ⟨rfl, HK.out.lo.trans (HB6.out.mono HK.out.lo.size)⟩
  · rw [HW.out] at hf
    cases hf
end Go.Proofs.YtoecmoicaklbaaaDoor
