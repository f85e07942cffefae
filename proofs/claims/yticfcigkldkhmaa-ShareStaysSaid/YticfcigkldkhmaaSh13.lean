
/- Shares: fault. -/
import Derived.Test.YticfcigkldkhmaaSh12
set_option linter.unusedVariables false
set_option linter.unusedSimpArgs false
namespace Go.Proofs.Yticfcigkldkhmaa
open Go Go.RowKit Go.Sort Wc Wk

theorem fault1_any (x : Nat) (w : World) (hx : x ≤ 999) : Calls Try.prog 80 #[.int .i64 x] w fun e w' => e = .returned (.bool false) ∧ w = w' := by
  have g1 : ¬ (x : Int) < 0 := by omega
  have g2 : ¬ (999 : Int) < (x : Int) := by omega
  have g3 : ¬ 999 < x := by omega
  go_enter Try.func80, Try.ntmps80
  go_wp2_with fail
  go_returns
  exact ⟨by simp [g1, g2, g3], rfl⟩
theorem idx_fault (a : Option Addr) (cap n : Nat) (xs : List Nat) (w : World) (hn : n = xs.length) (hs : Sl w 1 (.slice a n cap) (xs.map nC)) (hx : ∀ x ∈ xs, x ≤ 999) (hb : n ≤ 64) :
    Calls Try.prog 102 #[.slice a n cap, .func (.func 80) #[] #[]] w fun e w' => e = .returned (.int .i64 (-1)) ∧ w = w' := by
  have HS := Lib.hid hs
  have HN := Lib.hid hn
  have HX := Lib.hid hx
  have h1 := hs.lens.2.1
  have h2 := hs.lens.2.2
  clear hs hn hx
  go_enter Try.func102, Try.ntmps102
  go_wp2_with fail
  go_loopw [8] (fun i wr => ∃ m : Nat, m ≤ n ∧ i = .int .i64 m ∧ wr = w) (fun i _ => n - (intOf i).toNat)
  case atStart => exact ⟨0, Nat.zero_le _, rfl, rfl⟩
  case round =>
    obtain ⟨m, hm, rfl, rfl⟩ := hrel
    by_cases hlt : m < n
    · have hml : m < xs.length := by have := HN.out; omega
      obtain ⟨bl, off, rfl, hbl, c0⟩ := Sl.nat HS.out (Below.refl _ _) hml
      have F1 := Lib.hid (fun w => fault1_any (xs.getD m 0) w (by rw [getD_eq hml]; exact HX.out _ (List.getElem_mem _)))
      generalize xs.getD m 0 = x at *
      clear hml
      go_wp2_with ((with_reducible refine (F1.out _).mono ?_); rintro e w' ⟨rfl, rfl⟩)
      go_roundw
      case rel => exact ⟨m + 1, by omega, by go_num, by first | rfl | trivial⟩
      case measure => simp [intOf]; omega
    · obtain rfl : m = n := by omega
      go_wp2_with fail
      go_returns
      exact ⟨rfl, rfl⟩
theorem con_fault (a : Option Addr) (cap n : Nat) (xs : List Nat) (w : World) (hn : n = xs.length) (hs : Sl w 1 (.slice a n cap) (xs.map nC)) (hx : ∀ x ∈ xs, x ≤ 999) (hb : n ≤ 64) :
    Calls Try.prog 81 #[.slice a n cap, .func (.func 80) #[] #[]] w fun e w' => e = .returned (.bool false) ∧ w = w' := by
  have IX := Lib.hid (idx_fault a cap n xs w hn hs hx hb)
  clear hs hn hx hb
  go_enter Try.func81, Try.ntmps81
  go_wp2_with ((with_reducible refine IX.out.mono ?_); rintro e w5 ⟨rfl, rfl⟩)
  go_returns
  exact ⟨by first | rfl | simp, rfl⟩
theorem fault_any (a : Option Addr) (cap n : Nat) (xs : List Nat) (w : World) (hn : n = xs.length) (hs : Sl w 1 (.slice a n cap) (xs.map nC)) (hx : ∀ x ∈ xs, x ≤ 999) (h1 : 1 ≤ n) (hb : n ≤ 64) :
    Calls Try.prog 60 #[.slice a n cap] w fun e w' => e = .returned (.int .i64 0) ∧ w = w' := by
  have IX := Lib.hid (con_fault a cap n xs w hn hs hx hb)
  have g1 : ¬ (n : Int) < 1 := by omega
  have g2 : ¬ n < 1 := by omega
  have g3 : ¬ (64 : Int) < (n : Int) := by omega
  have g4 : ¬ 64 < n := by omega
  have g5 : ¬ n = 0 := by omega
  have k1 := hs.lens.2.1
  have k2 := hs.lens.2.2
  clear hs hn hx
  go_enter Try.func60, Try.ntmps60
  go_wp2_with ((with_reducible refine IX.out.mono ?_); rintro e w5 ⟨rfl, rfl⟩)
  go_returns
  exact ⟨rfl, rfl⟩


theorem turn1_any (x y b h : Nat) (w : World) (hb : b < w.heap.size) (hc : w.cell? ⟨b, 0, none⟩ = some (.int .i64 h)) :
    Calls Try.prog 65 #[.agg #[.int .i64 x, .int .i64 y], .pointer (some ⟨b, 0, none⟩)] w fun e w' => e = .returned (.bool (decide (x = h))) ∧ Below w.heap.size w w' := by
  by_cases hx : x = h
  · subst hx
    go_enter Try.func65, Try.ntmps65
    go_wp2_with fail
    go_returns
    exact ⟨by simp, by (repeat' (first | (with_reducible exact Below.refl _ _) | (with_reducible assumption) | (with_reducible refine Below.alloc ?_ ?_ _) | (with_reducible refine Below.drew ?_) | (with_reducible refine Below.stepG ?_ (by assumption) ?_) | (with_reducible refine Below.setCell ?_ ?_ _) | omega | (dsimp only; omega) | (simp; done) | (simp; omega)))⟩
  · have e1 : ((x : Int) == h) = false := by rw [beq_eq_false_iff_ne]; omega
    have e2 : ¬ ((x : Int) = h) := by omega
    rw [decide_eq_false hx]
    clear hx
    go_enter Try.func65, Try.ntmps65
    go_wp2_with fail
    go_returns
    exact ⟨by simp [e1, e2], by (repeat' (first | (with_reducible exact Below.refl _ _) | (with_reducible assumption) | (with_reducible refine Below.alloc ?_ ?_ _) | (with_reducible refine Below.drew ?_) | (with_reducible refine Below.stepG ?_ (by assumption) ?_) | (with_reducible refine Below.setCell ?_ ?_ _) | omega | (dsimp only; omega) | (simp; done) | (simp; omega)))⟩

set_option maxHeartbeats 1000000 in
theorem idx_turn (a : Option Addr) (cap n b h : Nat) (l : List (Nat × Nat)) (w : World) (hn : n = l.length) (hs : Sl w 2 (.slice a n cap) (l.map shCells)) (hb : b < w.heap.size) (hc : w.cell? ⟨b, 0, none⟩ = some (.int .i64 h)) :
    Calls Try.prog 64 #[.slice a n cap, .func (.func 65) #[] #[.pointer (some ⟨b, 0, none⟩)]] w fun e w' => e = .returned (.int .i64 (ixI (l.map (·.1)) h)) ∧ Below w.heap.size w w' := by
  have HS := Lib.hid hs
  have HN := Lib.hid hn
  have h1 := hs.lens.2.1
  have h2 := hs.lens.2.2
  clear hs hn
  go_enter Try.func64, Try.ntmps64
  go_wp2_with fail
  go_loopw [8] (fun i wr => ∃ m : Nat, m ≤ n ∧ i = .int .i64 m ∧ (∀ j, j < m → (l.map (·.1)).getD j 0 ≠ h) ∧ Hid (Below w.heap.size w wr)) (fun i _ => n - (intOf i).toNat)
  case atStart => exact ⟨0, Nat.zero_le _, rfl, fun j hj => absurd hj (Nat.not_lt_zero _), Below.refl _ _⟩
  case round =>
    obtain ⟨m, hm, rfl, hno, HB⟩ := hrel
    have hzr := HB.out.size
    have HNO := Lib.hid hno
    clear hno
    by_cases hlt : m < n
    · obtain ⟨x, hx⟩ : ∃ x, l[m]? = some x := ⟨_, List.getElem?_eq_getElem (by have := HN.out; omega)⟩
      obtain ⟨bl, off, rfl, hbl, d0, d1⟩ := Sl.share HS.out HB.out hx
      have CK := Lib.hid (fun w (hb : b < w.heap.size) hc => turn1_any x.1 x.2 b h w hb hc)
      have c0 := (HB.out.cell (p := ⟨b, 0, none⟩) hb).trans hc
      have ex : (l.map (·.1)).getD m 0 = x.1 := by rw [List.getD_eq_getElem?_getD, List.getElem?_map, hx]; rfl
      have HX := Lib.hid ex
      clear hx ex hc
      by_cases hxh : x.1 = h
      · have HXH := Lib.hid hxh
        rw [decide_eq_true hxh] at CK
        clear hxh
        go_wp2_with ((with_reducible refine (CK.out _ (by omega) (by assumption)).mono ?_); rintro e w5 ⟨rfl, hb5⟩; (repeat (with_reducible (replace hb5 := Below.undrew hb5))); obtain ⟨hc5, hf5⟩ := bcell hb5; have hz5 := hb5.size; (repeat (first | rw [World.size_alloc] at hz5 | rw [World.size_drew] at hz5 | rw [World.size_setCell] at hz5)); (try have : w.heap.size < w5.heap.size := by omega); (try have : w.heap.size < w5.heap.size + 1 := by omega); (try have : w.heap.size < w5.heap.size + 1 + 1 := by omega); (try have : w.heap.size < w5.heap.size + 1 + 1 + 1 := by omega))
        go_returns
        exact ⟨by rw [ix_found (i := m) (by rw [List.length_map]; have := HN.out; omega) (HX.out.trans HXH.out) HNO.out]; rfl, HB.out.trans (hb5.mono HB.out.size)⟩
      · have HXH := Lib.hid hxh
        rw [decide_eq_false hxh] at CK
        clear hxh
        go_wp2_with ((with_reducible refine (CK.out _ (by omega) (by assumption)).mono ?_); rintro e w5 ⟨rfl, hb5⟩; (repeat (with_reducible (replace hb5 := Below.undrew hb5))); obtain ⟨hc5, hf5⟩ := bcell hb5; have hz5 := hb5.size; (repeat (first | rw [World.size_alloc] at hz5 | rw [World.size_drew] at hz5 | rw [World.size_setCell] at hz5)); (try have : w.heap.size < w5.heap.size := by omega); (try have : w.heap.size < w5.heap.size + 1 := by omega); (try have : w.heap.size < w5.heap.size + 1 + 1 := by omega); (try have : w.heap.size < w5.heap.size + 1 + 1 + 1 := by omega))
        go_roundw
        case rel => exact ⟨m + 1, by omega, by go_num, fun j hj => by
          rcases Nat.lt_or_ge j m with h' | h'
          · exact HNO.out j h'
          · obtain rfl : j = m := by omega
            rw [HX.out]; exact HXH.out, Lib.hid (HB.out.trans (hb5.mono HB.out.size))⟩
        case measure => simp [intOf]; omega
    · obtain rfl : m = n := by omega
      go_wp2_with fail
      go_returns
      exact ⟨by rw [ix_none (fun j hj => HNO.out j (by rw [List.length_map] at hj; have := HN.out; omega))]; rfl, HB.out⟩
end Go.Proofs.Yticfcigkldkhmaa
