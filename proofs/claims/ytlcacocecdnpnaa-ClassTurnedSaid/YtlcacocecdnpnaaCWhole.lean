
/- Contracts of package class: whole. -/
import Derived.Test.YtlcacocecdnpnaaCWholeP
import Derived.Test.YtlcacocecdnpnaaClsM
set_option linter.unusedVariables false
namespace Go.Proofs.Ytlcacocecdnpnaa
open Go.RowKit Go.Sort Wc Wk


set_option maxRecDepth 100000 in
set_option maxHeartbeats 1000000 in
theorem mIndex_any (a : Option Addr) (cap : Nat) (l : List MatchD) (k b : Nat) (w : World) (hs : Sl w 9 (.slice a l.length cap) (l.map matchCells)) (hlen : l.length ≤ 100)
    (c3 : w.cell? ⟨b, 3, none⟩ = some (.int .i64 k)) (hb : b < w.heap.size) :
    Calls Try.prog 70 #[.slice a l.length cap, .func (Fn.func 59) #[] #[.pointer (some ⟨b, 0, none⟩)]] w fun e w' => (∃ i : Int, e = .returned (.int .i64 i) ∧ decide (0 ≤ i) = l.any (fun q => decide (k < q.k))) ∧ Below w.heap.size w w' := by
  have HS := Lib.hid hs
  have C3 := Lib.hid c3
  have F : Hid (∀ (q : MatchD) (w2 : World), Below w.heap.size w w2 → Calls Try.prog 59 #[.agg #[.bool false, .int .u64 (hiOf false q.n), .int .u64 (loOf q.n), .int .i64 q.k, .bool false, .int .u64 (hiOf false q.m), .int .u64 (loOf q.m), .int .i64 q.l, .int .i64 q.cls], .pointer (some ⟨b, 0, none⟩)] w2 fun e w' => e = .returned (.bool (decide (k < q.k))) ∧ Below w2.heap.size w2 w') := by
    intro q w2 h2
    have c := (h2.cell (p := ⟨b, 3, none⟩) hb).trans c3
    have hb2 := Nat.lt_of_lt_of_le hb h2.size
    clear h2 HS C3 hs c3
    go_enter Try.func59, Try.ntmps59
    go_wp2
    go_returns
    exact ⟨ret_bool (by simp), by (repeat' (first | (with_reducible exact Below.refl _ _) | (with_reducible assumption) | (with_reducible refine Below.al ?_ _) | (with_reducible refine Below.dr ?_) | (with_reducible refine Below.step ?_ (by assumption)) | (with_reducible refine Below.set ?_ ?_ _) | omega | (dsimp only; omega) | (simp; done) | (simp; omega)))⟩
  clear hs c3
  go_enter Try.func70, Try.ntmps70
  go_wp2_with fail
  go_loopw [8] (fun i wr => ∃ j : Nat, j ≤ l.length ∧ i = .int .i64 j ∧ Hid ((l.take j).any (fun q => decide (k < q.k)) = false) ∧ Below w.heap.size w wr) (fun i _ => l.length - (intOf i).toNat)
  case atStart => exact ⟨0, Nat.zero_le _, rfl, rfl, Below.refl _ _⟩
  case round =>
    obtain ⟨j, hj, rfl, hno, hbr⟩ := hrel
    have hzr := hbr.size
    by_cases hlt : j < l.length
    · obtain ⟨r, hr⟩ : ∃ r, l[j]? = some r := ⟨_, List.getElem?_eq_getElem hlt⟩
      obtain ⟨b2, off, rfl, hb2, d0, d1, d2, d3, d4, d5, d6, d7, d8⟩ := Sl.mat HS.out hbr hr
      have HT := Lib.hid (show l.take (j + 1) = l.take j ++ [r] by rw [List.take_add_one, hr]; rfl)
      have HR := Lib.hid (List.mem_of_getElem? hr)
      have FR := Lib.hid (F.out r)
      clear hr
      by_cases hf : k < r.k
      · rw [decide_eq_true hf] at FR
        have hI := Lib.hid (show decide ((0 : Int) ≤ j) = l.any (fun q => decide (k < q.k)) by
          rw [decide_eq_true (by omega), eq_comm, List.any_eq_true]
          exact ⟨r, HR.out, by simpa using hf⟩)
        clear hf hno
        go_wp2_with fail
        refine (FR.out _ hbr).mono ?_; rintro e w3 ⟨rfl, hb3⟩; (repeat (with_reducible (replace hb3 := Below.undrew hb3))); obtain ⟨hc3, hf3⟩ := bcell hb3; have hz3 := hb3.size; (repeat (first | rw [World.size_alloc] at hz3 | rw [World.size_drew] at hz3 | rw [World.size_setCell] at hz3)); (try have : wr.heap.size < w3.heap.size := by omega); (try have : wr.heap.size < w3.heap.size + 1 := by omega); (try have : wr.heap.size < w3.heap.size + 1 + 1 := by omega); (try have : wr.heap.size < w3.heap.size + 1 + 1 + 1 := by omega)
        go_wp2
        go_returns
        exact ⟨⟨_, rfl, hI.out⟩, by (repeat' (first | (with_reducible exact Below.refl _ _) | (with_reducible assumption) | (with_reducible refine Below.al ?_ _) | (with_reducible refine Below.dr ?_) | (with_reducible refine Below.step ?_ (by assumption)) | (with_reducible refine Below.set ?_ ?_ _) | omega | (dsimp only; omega) | (simp; done) | (simp; omega)))⟩
      · rw [decide_eq_false hf] at FR
        have Hno : Hid ((l.take (j + 1)).any (fun q => decide (k < q.k)) = false) := by
          show (l.take (j + 1)).any _ = false
          rw [HT.out, List.any_append, hno.out]
          simp [hf]
        clear hf hno
        go_wp2_with fail
        refine (FR.out _ hbr).mono ?_; rintro e w3 ⟨rfl, hb3⟩; (repeat (with_reducible (replace hb3 := Below.undrew hb3))); obtain ⟨hc3, hf3⟩ := bcell hb3; have hz3 := hb3.size; (repeat (first | rw [World.size_alloc] at hz3 | rw [World.size_drew] at hz3 | rw [World.size_setCell] at hz3)); (try have : wr.heap.size < w3.heap.size := by omega); (try have : wr.heap.size < w3.heap.size + 1 := by omega); (try have : wr.heap.size < w3.heap.size + 1 + 1 := by omega); (try have : wr.heap.size < w3.heap.size + 1 + 1 + 1 := by omega)
        go_wp2
        go_roundw
        case rel => exact ⟨j + 1, by omega, by go_num, Hno, by (repeat' (first | (with_reducible exact Below.refl _ _) | (with_reducible assumption) | (with_reducible refine Below.al ?_ _) | (with_reducible refine Below.dr ?_) | (with_reducible refine Below.step ?_ (by assumption)) | (with_reducible refine Below.set ?_ ?_ _) | omega | (dsimp only; omega) | (simp; done) | (simp; omega)))⟩
        case measure => simp [intOf]; omega
    · obtain rfl : j = l.length := by omega
      have hI := Lib.hid (show decide ((0 : Int) ≤ -1) = l.any (fun q => decide (k < q.k)) by
        have := hno.out
        rw [List.take_length] at this
        rw [this]; rfl)
      clear hno
      go_wp2
      go_returns
      exact ⟨⟨_, rfl, hI.out⟩, hbr⟩
theorem mContains_any (a : Option Addr) (cap : Nat) (l : List MatchD) (k b : Nat) (w : World) (hs : Sl w 9 (.slice a l.length cap) (l.map matchCells)) (hlen : l.length ≤ 100)
    (c3 : w.cell? ⟨b, 3, none⟩ = some (.int .i64 k)) (hb : b < w.heap.size) :
    Calls Try.prog 58 #[.slice a l.length cap, .func (Fn.func 59) #[] #[.pointer (some ⟨b, 0, none⟩)]] w fun e w' => e = .returned (.bool (l.any (fun q => decide (k < q.k)))) ∧ Below w.heap.size w w' := by
  have C := Lib.hid (mIndex_any a cap l k b w hs hlen c3 hb)
  generalize l.any (fun q => decide (k < q.k)) = x at *
  clear hs c3 hb
  go_enter Try.func58, Try.ntmps58
  go_wp2_with fail
  refine C.out.mono ?_
  rintro e w1 ⟨⟨i, rfl, hi⟩, hb1⟩
  have HI := Lib.hid hi
  clear hi
  go_wp2
  go_returns
  exact ⟨ret_bool HI.out, hb1⟩
end Go.Proofs.Ytlcacocecdnpnaa
