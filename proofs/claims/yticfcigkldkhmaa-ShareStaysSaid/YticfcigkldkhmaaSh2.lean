
/- Shares: the closures, IndexFunc, ContainsFunc. -/
import Derived.Test.YticfcigkldkhmaaSh1
import Derived.Test.YticfcigkldkhmaaActs
set_option linter.unusedVariables false
set_option linter.unusedSimpArgs false
namespace Go.Proofs.Yticfcigkldkhmaa
open Go Go.RowKit Go.Sort Wc Wk

def shCells (x : Nat × Nat) : List Value := [.int .i64 x.1, .int .i64 x.2]
theorem shCells_one (x : Nat × Nat) : ∀ u ∈ shCells x, u.oneCell' = true := by
  intro u hu
  simp [shCells] at hu
  rcases hu with rfl | rfl <;> rfl
theorem Sl.share {w w' : World} {a : Option Addr} {n cap : Nat} {xs : List (Nat × Nat)} (hs : Sl w 2 (.slice a n cap) (xs.map shCells)) (hb : Below w.heap.size w w') {i : Nat} {r : Nat × Nat} (hr : xs[i]? = some r) :
    ∃ b off, a = some ⟨b, off, none⟩ ∧ b < w.heap.size ∧ w'.cell? ⟨b, off + i * 2, none⟩ = some (.int .i64 r.1) ∧ w'.cell? ⟨b, off + i * 2 + 1, none⟩ = some (.int .i64 r.2) := by
  obtain ⟨b, off, ha, hlt, hc⟩ := Sl.at hs (i := i) (c := shCells r) (by rw [List.getElem?_map, hr]; rfl)
  have g := fun j u (h : (shCells r)[j]? = some u) => (hb.cell (p := ⟨b, off + i * 2 + j, none⟩) hlt).trans (hc j u h)
  exact ⟨b, off, ha, hlt, g 0 _ rfl, g 1 _ rfl⟩
theorem chk1_any (x y b h : Nat) (w : World) (hb : b < w.heap.size) (hc : w.cell? ⟨b, 0, none⟩ = some (.int .i64 h)) :
    Calls Try.prog 83 #[.agg #[.int .i64 x, .int .i64 y], .pointer (some ⟨b, 0, none⟩)] w fun e w' => e = .returned (.bool (decide (x = h))) ∧ Below w.heap.size w w' := by
  by_cases hx : x = h
  · subst hx
    go_enter Try.func83, Try.ntmps83
    go_wp2_with fail
    go_returns
    exact ⟨by simp, by (repeat' (first | (with_reducible exact Below.refl _ _) | (with_reducible assumption) | (with_reducible refine Below.alloc ?_ ?_ _) | (with_reducible refine Below.drew ?_) | (with_reducible refine Below.stepG ?_ (by assumption) ?_) | (with_reducible refine Below.setCell ?_ ?_ _) | omega | (dsimp only; omega) | (simp; done) | (simp; omega)))⟩
  · have e1 : ((h : Int) == x) = false := by rw [beq_eq_false_iff_ne]; omega
    have e2 : ¬ ((h : Int) = x) := by omega
    rw [decide_eq_false hx]
    clear hx
    go_enter Try.func83, Try.ntmps83
    go_wp2_with fail
    go_returns
    exact ⟨by simp [e1, e2], by (repeat' (first | (with_reducible exact Below.refl _ _) | (with_reducible assumption) | (with_reducible refine Below.alloc ?_ ?_ _) | (with_reducible refine Below.drew ?_) | (with_reducible refine Below.stepG ?_ (by assumption) ?_) | (with_reducible refine Below.setCell ?_ ?_ _) | omega | (dsimp only; omega) | (simp; done) | (simp; omega)))⟩
def ixI (hs : List Nat) (h : Nat) : Int := if slot hs h < hs.length then (slot hs h : Int) else -1
theorem ix_found {hs : List Nat} {h i : Nat} (hi : i < hs.length) (he : hs.getD i 0 = h) (hn : ∀ j, j < i → hs.getD j 0 ≠ h) : ixI hs h = i := by
  have e : slot hs h = i := by
    unfold slot
    rw [List.findIdx_eq hi]
    refine ⟨by rw [getD_eq hi] at he; simpa using he, fun j hj => ?_⟩
    have := hn j hj
    rw [getD_eq (by omega)] at this
    simpa using this
  unfold ixI
  rw [e, if_pos hi]
theorem ix_none {hs : List Nat} {h : Nat} (hn : ∀ j, j < hs.length → hs.getD j 0 ≠ h) : ixI hs h = -1 := by
  unfold ixI
  split
  · next hl => exact absurd (slot_lt hl) (hn _ hl)
  · rfl


set_option maxHeartbeats 1000000 in
theorem idx_chk (a : Option Addr) (cap n b h : Nat) (l : List (Nat × Nat)) (w : World) (hn : n = l.length) (hs : Sl w 2 (.slice a n cap) (l.map shCells)) (hb : b < w.heap.size) (hc : w.cell? ⟨b, 0, none⟩ = some (.int .i64 h)) :
    Calls Try.prog 64 #[.slice a n cap, .func (.func 83) #[] #[.pointer (some ⟨b, 0, none⟩)]] w fun e w' => e = .returned (.int .i64 (ixI (l.map (·.1)) h)) ∧ Below w.heap.size w w' := by
  have HS := Lib.hid hs
  have HN := Lib.hid hn
  have h1 := hs.lens.2.1
  have h2 := hs.lens.2.2
  clear hs hn
  go_enter Try.func64, Try.ntmps64
  go_wp2_with fail
  go_loopw [8] (fun i wr => ∃ m : Nat, m ≤ n ∧ i = .int .i64 m ∧ (∀ j, j < m → (l.map (·.1)).getD j 0 ≠ h) ∧ Hid (Below w.heap.size w wr)) (fun i _ => n - (intOf i).toNat)
  case atStart => exact ⟨0, Nat.zero_le _, rfl, fun j hj => absurd hj (Nat.not_lt_zero _), Below.refl _ _⟩
  case round =>
    obtain ⟨m, hm, rfl, hno, HB⟩ := hrel
    have hzr := HB.out.size
    have HNO := Lib.hid hno
    clear hno
    by_cases hlt : m < n
    · obtain ⟨x, hx⟩ : ∃ x, l[m]? = some x := ⟨_, List.getElem?_eq_getElem (by have := HN.out; omega)⟩
      obtain ⟨bl, off, rfl, hbl, d0, d1⟩ := Sl.share HS.out HB.out hx
      have CK := Lib.hid (fun w (hb : b < w.heap.size) hc => chk1_any x.1 x.2 b h w hb hc)
      have c0 := (HB.out.cell (p := ⟨b, 0, none⟩) hb).trans hc
      have ex : (l.map (·.1)).getD m 0 = x.1 := by rw [List.getD_eq_getElem?_getD, List.getElem?_map, hx]; rfl
      have HX := Lib.hid ex
      clear hx ex hc
      by_cases hxh : x.1 = h
      · have HXH := Lib.hid hxh
        rw [decide_eq_true hxh] at CK
        clear hxh
        go_wp2_with ((with_reducible refine (CK.out _ (by omega) (by assumption)).mono ?_); rintro e w5 ⟨rfl, hb5⟩; (repeat (with_reducible (replace hb5 := Below.undrew hb5))); obtain ⟨hc5, hf5⟩ := bcell hb5; have hz5 := hb5.size; (repeat (first | rw [World.size_alloc] at hz5 | rw [World.size_drew] at hz5 | rw [World.size_setCell] at hz5)); (try have : w.heap.size < w5.heap.size := by omega); (try have : w.heap.size < w5.heap.size + 1 := by omega); (try have : w.heap.size < w5.heap.size + 1 + 1 := by omega); (try have : w.heap.size < w5.heap.size + 1 + 1 + 1 := by omega))
        go_returns
        exact ⟨by rw [ix_found (i := m) (by rw [List.length_map]; have := HN.out; omega) (HX.out.trans HXH.out) HNO.out]; rfl, HB.out.trans (hb5.mono HB.out.size)⟩
      · have HXH := Lib.hid hxh
        rw [decide_eq_false hxh] at CK
        clear hxh
        go_wp2_with ((with_reducible refine (CK.out _ (by omega) (by assumption)).mono ?_); rintro e w5 ⟨rfl, hb5⟩; (repeat (with_reducible (replace hb5 := Below.undrew hb5))); obtain ⟨hc5, hf5⟩ := bcell hb5; have hz5 := hb5.size; (repeat (first | rw [World.size_alloc] at hz5 | rw [World.size_drew] at hz5 | rw [World.size_setCell] at hz5)); (try have : w.heap.size < w5.heap.size := by omega); (try have : w.heap.size < w5.heap.size + 1 := by omega); (try have : w.heap.size < w5.heap.size + 1 + 1 := by omega); (try have : w.heap.size < w5.heap.size + 1 + 1 + 1 := by omega))
        go_roundw
        case rel => exact ⟨m + 1, by omega, by go_num, fun j hj => by
          rcases Nat.lt_or_ge j m with h' | h'
          · exact HNO.out j h'
          · obtain rfl : j = m := by omega
            rw [HX.out]; exact HXH.out, Lib.hid (HB.out.trans (hb5.mono HB.out.size))⟩
        case measure => simp [intOf]; omega
    · obtain rfl : m = n := by omega
      go_wp2_with fail
      go_returns
      exact ⟨by rw [ix_none (fun j hj => HNO.out j (by rw [List.length_map] at hj; have := HN.out; omega))]; rfl, HB.out⟩
end Go.Proofs.Yticfcigkldkhmaa
