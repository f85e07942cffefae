
/- Shares: Check. -/
import Derived.Test.YticfcigkldkhmaaSh2
set_option linter.unusedVariables false
set_option linter.unusedSimpArgs false
namespace Go.Proofs.Yticfcigkldkhmaa
open Go Go.RowKit Go.Sort Wc Wk

/-- Shares that may be. -/
structure ShOk (l : List (Nat × Nat)) : Prop where
  one : 1 ≤ l.length
  len : l.length ≤ 16
  hop : ∀ x ∈ l, 1 ≤ x.1 ∧ x.1 ≤ 999
  wt : ∀ x ∈ l, 1 ≤ x.2 ∧ x.2 ≤ 20
  keys : (l.map (·.1)).Nodup

theorem con_chk (a : Option Addr) (cap n b h : Nat) (l : List (Nat × Nat)) (w : World) (hn : n = l.length) (hs : Sl w 2 (.slice a n cap) (l.map shCells)) (hb : b < w.heap.size) (hc : w.cell? ⟨b, 0, none⟩ = some (.int .i64 h)) :
    Calls Try.prog 82 #[.slice a n cap, .func (.func 83) #[] #[.pointer (some ⟨b, 0, none⟩)]] w fun e w' => e = .returned (.bool (decide (0 ≤ ixI (l.map (·.1)) h))) ∧ Below w.heap.size w w' := by
  have IX := Lib.hid (idx_chk a cap n b h l w hn hs hb hc)
  clear hs hn
  generalize ixI (l.map (·.1)) h = ix at *
  go_enter Try.func82, Try.ntmps82
  go_wp2_with ((with_reducible refine IX.out.mono ?_); rintro e w5 ⟨rfl, hb5⟩; (repeat (with_reducible (replace hb5 := Below.undrew hb5))); obtain ⟨hc5, hf5⟩ := bcell hb5; have hz5 := hb5.size; (repeat (first | rw [World.size_alloc] at hz5 | rw [World.size_drew] at hz5 | rw [World.size_setCell] at hz5)))
  go_returns
  exact ⟨by first | rfl | simp, by (repeat' (first | (with_reducible exact Below.refl _ _) | (with_reducible assumption) | (with_reducible refine Below.alloc ?_ ?_ _) | (with_reducible refine Below.drew ?_) | (with_reducible refine Below.stepG ?_ (by assumption) ?_) | (with_reducible refine Below.setCell ?_ ?_ _) | omega | (dsimp only; omega) | (simp; done) | (simp; omega)))⟩


set_option maxHeartbeats 1000000 in
theorem scheck_any (a : Option Addr) (cap n : Nat) (l : List (Nat × Nat)) (w : World) (hn : n = l.length) (hs : Sl w 2 (.slice a n cap) (l.map shCells)) (hok : ShOk l) :
    Calls Try.prog 62 #[.slice a n cap] w fun e w' => e = .returned (.int .i64 0) ∧ Below w.heap.size w w' := by
  have HS := Lib.hid hs
  have HN := Lib.hid hn
  have HOK := Lib.hid hok
  have h1 := hs.lens.2.1
  have h2 := hs.lens.2.2
  have n1 : 1 ≤ n := by have := hok.one; omega
  have n2 : n ≤ 16 := by have := hok.len; omega
  clear hs hn hok
  go_enter Try.func62, Try.ntmps62
  go_wp2_with fail
  go_loopw [15] (fun i wr => ∃ m : Nat, m ≤ n ∧ i = .int .i64 m ∧ Hid (Below w.heap.size w wr)) (fun i _ => n - (intOf i).toNat)
  case atStart => exact ⟨0, Nat.zero_le _, rfl, Below.refl _ _⟩
  case round =>
    obtain ⟨m, hm, rfl, HB⟩ := hrel
    have hzr := HB.out.size
    by_cases hlt : m < n
    · obtain ⟨x, hx⟩ : ∃ x, l[m]? = some x := ⟨_, List.getElem?_eq_getElem (by have := HN.out; omega)⟩
      obtain ⟨bl, off, rfl, hbl, d0, d1⟩ := Sl.share HS.out HB.out hx
      have hmem := List.mem_of_getElem? hx
      have k1 := HOK.out.hop x hmem
      have k2 := HOK.out.wt x hmem
      have CK := Lib.hid (fun b w' (hw : Below w.heap.size w w') (hb : b < w'.heap.size) hc => con_chk (some ⟨bl, off, none⟩) cap m b x.1 (l.take m) w' (by rw [List.length_take]; have := HN.out; omega) (by rw [List.map_take]; exact (HS.out.below hw).take m (by rw [List.length_map]; have := HN.out; omega)) hb hc)
      have e0 : decide (0 ≤ ixI ((l.take m).map (·.1)) x.1) = false := by
        rw [ix_none (fun j hj => ?_)]
        · rfl
        · rw [List.length_map, List.length_take] at hj
          have hnd := HOK.out.keys
          have hl := HN.out
          intro he
          rw [List.map_take, getD_eq (by rw [List.length_take, List.length_map]; omega), List.getElem_take] at he
          have hm1 : m < (l.map (·.1)).length := by rw [List.length_map]; omega
          have hxm : (l.map (·.1))[m] = x.1 := by
            rw [List.getElem_map]
            have := List.getElem?_eq_some_iff.1 hx
            obtain ⟨_, h⟩ := this
            rw [h]
          rw [← hxm] at he
          have := (List.getElem_inj hnd).1 he
          omega
      rw [e0] at CK
      clear hx hmem e0
      go_wp2_with ((with_reducible refine (CK.out _ _ (by have hB := HB.out; (repeat' (first | (with_reducible exact Below.refl _ _) | (with_reducible assumption) | (with_reducible refine Below.alloc ?_ ?_ _) | (with_reducible refine Below.drew ?_) | (with_reducible refine Below.stepG ?_ (by assumption) ?_) | (with_reducible refine Below.setCell ?_ ?_ _) | omega | (dsimp only; omega) | (simp; done) | (simp; omega)))) (by simp) (by simp)).mono ?_); rintro e w5 ⟨rfl, hb5⟩; (repeat (with_reducible (replace hb5 := Below.undrew hb5))); obtain ⟨hc5, hf5⟩ := bcell hb5; have hz5 := hb5.size; (repeat (first | rw [World.size_alloc] at hz5 | rw [World.size_drew] at hz5 | rw [World.size_setCell] at hz5)); (try have : w.heap.size < w5.heap.size := by omega); (try have : w.heap.size < w5.heap.size + 1 := by omega); (try have : w.heap.size < w5.heap.size + 1 + 1 := by omega); (try have : w.heap.size < w5.heap.size + 1 + 1 + 1 := by omega))
      go_roundw
      case rel => exact ⟨m + 1, by omega, by go_num, Lib.hid (by have hB := HB.out; (repeat' (first | (with_reducible exact Below.refl _ _) | (with_reducible assumption) | (with_reducible refine Below.alloc ?_ ?_ _) | (with_reducible refine Below.drew ?_) | (with_reducible refine Below.stepG ?_ (by assumption) ?_) | (with_reducible refine Below.setCell ?_ ?_ _) | omega | (dsimp only; omega) | (simp; done) | (simp; omega))))⟩
      case measure => simp [intOf]; omega
    · obtain rfl : m = n := by omega
      go_wp2_with fail
      go_returns
      exact ⟨rfl, HB.out⟩
end Go.Proofs.Yticfcigkldkhmaa
