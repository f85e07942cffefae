
/- Contracts of package table: Look, Check over a list of routes. -/
import Derived.Test.YticfcigkldkhmaaNew
set_option linter.unusedVariables false
set_option linter.unusedSimpArgs false
namespace Go.Proofs.Yticfcigkldkhmaa
open Go Go.RowKit Go.Sort Wc Wk

theorem OwnTab.look {w wr : World} {tb : Nat} {L : List (Nat × Nat × Nat)} {a : Nat} (h : OwnTab w wr tb L) (ha : Fits false a) :
    Calls Try.prog 67 #[.pointer (some ⟨tb, 0, none⟩), Value.agg #[.bool false, .int .u64 (hiOf false a), .int .u64 (loOf a)]] wr fun e w' => e = .returned (.agg #[.int .i64 0, .int .i64 ((goesL L a).1 : Nat), .int .i64 ((goesL L a).2 : Nat)]) ∧ Below wr.heap.size wr w' := by
  obtain ⟨F, t, f, b⟩ := h
  exact tab_look tb a L F wr t ha
theorem check_any (a : Option Addr) (cap n : Nat) (l : List (Nat × Nat × Nat)) (w : World) (hn : n = l.length) (hs : Sl w 5 (.slice a n cap) (l.map routeCells)) (hok : RtOk l) :
    Calls Try.prog 39 #[.slice a n cap] w fun e w' => e = .returned (.int .i64 0) ∧ Below w.heap.size w w' := by
  have NW := Lib.hid (new_any a cap n l w hn hs hok)
  clear hs hn
  go_enter Try.func39, Try.ntmps39
  go_wp2_with fail
  refine NW.out.mono ?_
  rintro e w1 ⟨tb, rfl, ht⟩
  have HB := Lib.hid ht.bel
  clear ht
  go_wp2
  go_returns
  exact ⟨rfl, HB.out⟩

set_option maxRecDepth 100000 in
set_option maxHeartbeats 1000000 in
theorem tlook_any (a : Option Addr) (cap n x : Nat) (l : List (Nat × Nat × Nat)) (w : World) (hn : n = l.length) (hs : Sl w 5 (.slice a n cap) (l.map routeCells)) (hok : RtOk l) (hx : Fits false x) :
    Calls Try.prog 44 #[.slice a n cap, Value.agg #[.bool false, .int .u64 (hiOf false x), .int .u64 (loOf x)]] w fun e w' => e = .returned (.tuple #[.agg #[.int .i64 0, .int .i64 ((goesL (putAll l) x).1 : Nat), .int .i64 ((goesL (putAll l) x).2 : Nat)], .int .i64 0]) ∧ Below w.heap.size w w' := by
  have HS := Lib.hid hs
  have HOK := Lib.hid hok
  have M := Lib.hid (fun w => may_any false x w hx)
  have HN := Lib.hid hn
  have HX := Lib.hid hx
  clear hs hn hok hx
  go_enter Try.func44, Try.ntmps44
  go_wp2_with fail
  have hWB : Below w.heap.size w ((w.alloc (.cells #[.bool false, .int .u64 (hiOf false x), .int .u64 (loOf x)] 31)).alloc (.cells #[.int .i64 0, .int .i64 0, .int .i64 0] 64)) := by (repeat' (first | (with_reducible exact Below.refl _ _) | (with_reducible assumption) | (with_reducible refine Below.alloc ?_ ?_ _) | (with_reducible refine Below.drew ?_) | (with_reducible refine Below.stepG ?_ (by assumption) ?_) | (with_reducible refine Below.setCell ?_ ?_ _) | omega | (dsimp only; omega) | (simp; done) | (simp; omega)))
  refine (new_any a cap n l _ HN.out (HS.out.below hWB) HOK.out).mono ?_
  rintro e w1 ⟨tb, rfl, ht⟩
  have hb1 := ht.bel
  have B1 : B3 w1 (w.heap.size + 1) 0 0 0 := B3.below (by have := b3_new (w.alloc (.cells #[.bool false, .int .u64 (hiOf false x), .int .u64 (loOf x)] 31)) 64; rw [World.size_alloc] at this; exact this) hb1
  have g0 : w1.cell? ⟨w.heap.size, 0, none⟩ = some (.bool false) := (hb1.cell (p := ⟨w.heap.size, 0, none⟩) (by simp; omega)).trans (by simp)
  have g1 : w1.cell? ⟨w.heap.size, 1, none⟩ = some (.int .u64 (hiOf false x)) := (hb1.cell (p := ⟨w.heap.size, 1, none⟩) (by simp; omega)).trans (by simp)
  have g2 : w1.cell? ⟨w.heap.size, 2, none⟩ = some (.int .u64 (loOf x)) := (hb1.cell (p := ⟨w.heap.size, 2, none⟩) (by simp; omega)).trans (by simp)
  have hs1 : w.heap.size < w1.heap.size := by have := hb1.size; simp at this; omega
  have HT := Lib.hid ht
  have HB1 := Lib.hid B1
  have HW1 := Lib.hid (hWB.trans (hb1.mono hWB.size))
  clear ht hb1 B1 hWB
  go_wp2_with (first | ((with_reducible refine (M.out _).mono ?_); rintro e w2 ⟨rfl, hb2⟩; (repeat (with_reducible (replace hb2 := Below.undrew hb2))); obtain ⟨hc2, hf2⟩ := bcell hb2; have hz2 := hb2.size; (repeat (first | rw [World.size_alloc] at hz2 | rw [World.size_drew] at hz2 | rw [World.size_setCell] at hz2)); (try have : w.heap.size < w2.heap.size := by omega); (try have : w.heap.size < w2.heap.size + 1 := by omega); (try have : w.heap.size < w2.heap.size + 1 + 1 := by omega); (try have : w.heap.size < w2.heap.size + 1 + 1 + 1 := by omega); (try have : w.heap.size + 1 < w2.heap.size := by omega); (try have : w.heap.size + 1 < w2.heap.size + 1 := by omega); (try have : w.heap.size + 1 < w2.heap.size + 1 + 1 := by omega); (try have : w.heap.size + 1 < w2.heap.size + 1 + 1 + 1 := by omega); (try have : w1.heap.size < w2.heap.size := by omega); (try have : w1.heap.size < w2.heap.size + 1 := by omega); (try have : w1.heap.size < w2.heap.size + 1 + 1 := by omega); (try have : w1.heap.size < w2.heap.size + 1 + 1 + 1 := by omega)))
  refine ((HT.out.below hb2).look HX.out).mono ?_
  rintro e w3 ⟨rfl, hb3⟩
  have B3' := (HB1.out.below hb2).below hb3
  have HB3 := Lib.hid B3'
  have H3 := Lib.hid (HW1.out.trans ((hb2.mono HW1.out.size).trans (hb3.mono (Nat.le_trans HW1.out.size hb2.size))))
  obtain ⟨lt3, k0, k1, k2, f0, f1, f2⟩ := B3'
  clear hb2 hc2 hf2 hb3 g0 g1 g2
  go_wp2_with fail
  have B := HB3.out.set 0 (goesL (putAll l) x).1 (goesL (putAll l) x).2
  obtain ⟨_, e0, e1, e2, _, _, _⟩ := B
  refine bodyPost_ret (v := .tuple #[.agg #[.int .i64 0, .int .i64 ((goesL (putAll l) x).1 : Nat), .int .i64 ((goesL (putAll l) x).2 : Nat)], .int .i64 0]) (by simp [results, Try.results44, go_sem, e0, e1, e2]) rfl ⟨rfl, ((H3.out.setCell (by simp) _).setCell (by simp) _).setCell (by simp) _⟩
end Go.Proofs.Yticfcigkldkhmaa
