
/- Contracts of the laws' bestOf and sameOffers. -/
import Derived.Test.YtllemhknmleklaaOf6
import Derived.Test.YtllemhknmleklaaSrtO
set_option linter.unusedVariables false
set_option linter.unusedSimpArgs false
namespace Go.Proofs.Ytllemhknmleklaa
open Go.RowKit Go.Sort Wc Wk

theorem sortOf : SortOf := fun B v xs w h1 h2 h3 => sort_of B v xs w h1 h2 h3
theorem best_any (a : Option Addr) (cap : Nat) (l : List OfD) (w : World) (hs : Sl w 8 (.slice a l.length cap) (l.map ofCells)) (hlen : l.length ≤ 100) (hok : ∀ v ∈ l, v.ok) :
    Calls Try.prog 66 #[.slice a l.length cap] w fun e w' => ∃ v ys, e = .returned (.tuple #[v, .int .i64 0]) ∧ Own w' w.heap.size 84 8 v (ys.map ofCells) ∧ BestR (liveL l) ys ∧ ys.length ≤ 100 ∧ Below w.heap.size w w' := best_any0 sortOf a cap l w hs hlen hok
theorem sl_far {W : World} {b : Nat} (hb : b = W.heap.size) : Sl (W.alloc (.cells #[.bool false, .int .u64 0, .int .u64 0, .int .i64 0, .int .i64 4, .int .i64 0, .int .i64 0, .int .i64 3] 84)) 8 (.slice (some ⟨b, 0, none⟩) 1 1) ([ofFar].map ofCells) := sl_new (c := ofCells ofFar) hb rfl


set_option maxRecDepth 100000 in
set_option maxHeartbeats 4000000 in
theorem bestOf_any (a : Option Addr) (cap : Nat) (l : List OfD) (w : World) (hs : Sl w 8 (.slice a l.length cap) (l.map ofCells)) (hlen : l.length ≤ 100) (hok : ∀ v ∈ l, v.ok) :
    Calls Try.prog 29 #[.slice a l.length cap] w fun e w' => ∃ v ys, e = .returned (.tuple #[v, .bool true]) ∧ Own w' w.heap.size 84 8 v (ys.map ofCells) ∧ BestR (liveL l) ys ∧ ys.length ≤ 100 ∧ Below w.heap.size w w' := by
  have HOK := Lib.hid hok
  have HS := Lib.hid hs
  clear hok hs
  go_enter Try.func29, Try.ntmps29
  go_wp2_with (at_builtin; refine stop_at ?_; intro G hG)
  rw [← hG.out]; clear hG G
  refine wpList_append_any rfl _ _ 79 84 8 64 _ rfl eiOf w.heap.size _ ((([] : List OfD)).map ofCells) rfl (Own.nil _ _ _ _) _ ((l).map ofCells) rfl (HS.out) (by intro c hc; obtain ⟨r, _, rfl⟩ := List.mem_map.1 hc; exact ofCells_one r) (by skip; first | omega | (simp; omega)) (by decide) (by first | omega | (simp; done) | (simp; omega)) ?_
  intro v1 w1 hown1 hb1
  rw [← List.map_append] at hown1
  obtain ⟨xs1, hxs1⟩ : ∃ x : List OfD, x = (([] : List OfD)) ++ (l) := ⟨_, rfl⟩
  rw [← hxs1] at hown1
  have hl1 : xs1.length = (([] : List OfD)).length + (l).length := by rw [hxs1, List.length_append]
  have HX1 := Lib.hid hxs1
  clear hxs1
  have HL1 := Lib.hid hl1
  clear hl1
  obtain ⟨a1, cap1, rfl⟩ := hown1.shape
  rw [List.length_map] at hown1 ⊢
  have HO1 := Lib.hid hown1
  clear hown1
  obtain ⟨hc1, hf1⟩ := bcellB hb1; have hz1 := hb1.size; (repeat (first | rw [World.size_alloc] at hz1 | rw [World.size_drew] at hz1 | rw [World.size_setCell] at hz1)); (try have : w.heap.size < w1.heap.size := by omega); (try have : w.heap.size < w1.heap.size + 1 := by omega); (try have : w.heap.size < w1.heap.size + 1 + 1 := by omega); (try have : w.heap.size < w1.heap.size + 1 + 1 + 1 := by omega)
  obtain rfl : xs1 = l := by rw [HX1.out]; rfl
  have BB := Lib.hid (fun w2 (hb : Below w1.heap.size w1 w2) => best_any a1 cap1 xs1 w2 (HO1.out.sl.below hb) hlen HOK.out)
  go_wp2_with fail
  refine (BB.out _ (Below.refl _ _)).mono ?_
  rintro e w2 ⟨v2, ys, rfl, HO2, HR2, hl2, hb2⟩; (repeat (with_reducible (replace hb2 := Below.undrew hb2))); obtain ⟨hc2, hf2⟩ := bcell hb2; have hz2 := hb2.size; (repeat (first | rw [World.size_alloc] at hz2 | rw [World.size_drew] at hz2 | rw [World.size_setCell] at hz2)); (try have : w.heap.size < w2.heap.size := by omega); (try have : w.heap.size < w2.heap.size + 1 := by omega); (try have : w.heap.size < w2.heap.size + 1 + 1 := by omega); (try have : w.heap.size < w2.heap.size + 1 + 1 + 1 := by omega); (try have : w1.heap.size < w2.heap.size := by omega); (try have : w1.heap.size < w2.heap.size + 1 := by omega); (try have : w1.heap.size < w2.heap.size + 1 + 1 := by omega); (try have : w1.heap.size < w2.heap.size + 1 + 1 + 1 := by omega)
  obtain ⟨a2, cap2, rfl⟩ := HO2.shape
  rw [List.length_map] at HO2 ⊢
  have HO2 := Lib.hid HO2
  have HR2 := Lib.hid HR2
  have BF := Lib.hid (fun w3 b (h : Sl w3 8 (.slice (some ⟨b, 0, none⟩) 1 1) ([ofFar].map ofCells)) => best_any (some ⟨b, 0, none⟩) 1 [ofFar] w3 h (by decide) (fun v hv => by rw [List.mem_singleton] at hv; rw [hv]; exact far_ok))
  go_wp2_with fail
  refine (BF.out _ _ (sl_far rfl)).mono ?_
  rintro e w3 ⟨v3, zs, rfl, HO3, HR3, hl3, hb3⟩; (repeat (with_reducible (replace hb3 := Below.undrew hb3))); obtain ⟨hc3, hf3⟩ := bcell hb3; have hz3 := hb3.size; (repeat (first | rw [World.size_alloc] at hz3 | rw [World.size_drew] at hz3 | rw [World.size_setCell] at hz3)); (try have : w.heap.size < w3.heap.size := by omega); (try have : w.heap.size < w3.heap.size + 1 := by omega); (try have : w.heap.size < w3.heap.size + 1 + 1 := by omega); (try have : w.heap.size < w3.heap.size + 1 + 1 + 1 := by omega); (try have : w1.heap.size < w3.heap.size := by omega); (try have : w1.heap.size < w3.heap.size + 1 := by omega); (try have : w1.heap.size < w3.heap.size + 1 + 1 := by omega); (try have : w1.heap.size < w3.heap.size + 1 + 1 + 1 := by omega); (try have : w2.heap.size < w3.heap.size := by omega); (try have : w2.heap.size < w3.heap.size + 1 := by omega); (try have : w2.heap.size < w3.heap.size + 1 + 1 := by omega); (try have : w2.heap.size < w3.heap.size + 1 + 1 + 1 := by omega)
  obtain rfl : zs = [ofFar] := one_law far_ok (by decide) HR3
  obtain ⟨g, cap3, hv3, hg1, hg2, hg3, hg4, _, hg6⟩ := HO3.at (by decide)
  have c7 : w3.cell? ⟨g, 7, none⟩ = some (.int .i64 3) := hg6 0 (ofCells ofFar) rfl 7 _ rfl
  have hv3 : v3 = .slice (some ⟨g, 0, none⟩) 1 cap3 := hv3
  subst hv3
  have hX := Lib.hid (show Below w.heap.size w w3 by (repeat' (first | (with_reducible exact Below.refl _ _) | (with_reducible assumption) | (with_reducible refine Below.alloc ?_ ?_ _) | (with_reducible refine Below.drew ?_) | (with_reducible refine Below.stepG ?_ (by assumption) ?_) | (with_reducible refine Below.setCell ?_ ?_ _) | omega | (dsimp only; omega) | (simp; done) | (simp; omega))))
  have HO4 := Lib.hid ((HO2.out.alloc (.cells #[.bool false, .int .u64 0, .int .u64 0, .int .i64 0, .int .i64 4, .int .i64 0, .int .i64 0, .int .i64 3] 84)).below hb3)
  clear HO3 HR3 hg6 hb3 hc3 hf3 BF BB HX1 HL1 HO1 hc1 hf1 hc2 hf2 hb1 hb2 HO2
  go_wp2_with fail
  go_quiet (fail)
  go_wp2
  refine bodyPost_ret (v := .tuple #[.slice a2 ys.length cap2, .bool true]) (by simp [results, Try.results29, go_sem, *]) rfl ⟨_, ys, rfl, ownO_less (HO4.out.below (below_drewN (Below.refl _ _) _)) hz1, HR2.out, hl2, below_drewN hX.out _⟩

set_option maxRecDepth 100000 in
set_option maxHeartbeats 4000000 in
theorem sameOf_any (a b : Option Addr) (ca cb n : Nat) (xs : List OfD) (w : World) (hn : n = xs.length) (ha : Sl w 8 (.slice a n ca) (xs.map ofCells)) (hb : Sl w 8 (.slice b n cb) (xs.map ofCells)) :
    Calls Try.prog 31 #[.slice a n ca, .slice b n cb] w fun e w' => e = .returned (.bool true) ∧ Below w.heap.size w w' := by
  have HA := Lib.hid ha
  have HB := Lib.hid hb
  have l1 := ha.lens.2.1
  have l2 := ha.lens.2.2
  have l3 := hb.lens.2.1
  have l4 := hb.lens.2.2
  have HN := Lib.hid hn
  clear ha hb hn
  go_enter Try.func31, Try.ntmps31
  go_wp2_with fail
  go_loopw [5] (fun i wr => ∃ k : Nat, k ≤ n ∧ i = .int .i64 k ∧ Hid (Below w.heap.size w wr)) (fun i _ => n - (intOf i).toNat)
  case atStart => exact ⟨0, Nat.zero_le _, rfl, Below.refl _ _⟩
  case round =>
    obtain ⟨k, hk, rfl, HW⟩ := hrel
    by_cases hlt : k < n
    · obtain ⟨x, hx⟩ : ∃ x, xs[k]? = some x := ⟨_, List.getElem?_eq_getElem (by have := HN.out; omega)⟩
      obtain ⟨b1, o1, rfl, _, c0, c1, c2, c3, c4, c5, c6, c7⟩ := Sl.of8 HA.out HW.out hx
      obtain ⟨b2, o2, rfl, _, d0, d1, d2, d3, d4, d5, d6, d7⟩ := Sl.of8 HB.out HW.out hx
      clear hx
      go_wp2_with fail
      go_quiet (fail)
      go_wp2
      go_roundw
      case rel => exact ⟨k + 1, by omega, by go_num, below_drewN HW.out _⟩
      case measure => simp [intOf]; omega
    · have hd : decide ((k : Int) < n) = false := by (first | omega | (simp; done) | (simp; omega))
      go_wp2
      go_returns
      exact ⟨rfl, HW.out⟩
end Go.Proofs.Ytllemhknmleklaa
