
/- slices.Grow, slices.Concat at routes. -/
import Derived.Test.YtoecmoicaklbaaaLk
import Derived.Test.YtoecmoicaklbaaaAp
import Derived.Test.YtoecmoicaklbaaaShelf
import Derived.Test.YtoecmoicaklbaaaGrwR
import Derived.Shelf.Spec.SlicesGrow
set_option linter.unusedVariables false
set_option linter.unusedSimpArgs false
namespace Go.Proofs.Ytoecmoicaklbaaa
open Go Go.RowKit Go.Sort Go.Shelf Wc Wk

/-- A list of lists of numbers in a block. -/
def LsR (w : World) (g : Nat) (L : List (Option Addr × Nat × List (Nat × Nat × Nat))) : Prop :=
  ∀ (i : Nat) q, L[i]? = some q → w.cell? ⟨g, i, none⟩ = some (.slice q.1 q.2.2.length q.2.1) ∧ Sl w 5 (.slice q.1 q.2.2.length q.2.1) (q.2.2.map routeCells) ∧ q.2.2.length ≤ 5000
theorem LsR.below {w w' : World} {g : Nat} {L : List (Option Addr × Nat × List (Nat × Nat × Nat))} (h : LsR w g L) (hg : g < w.heap.size) (hb : Below w.heap.size w w') : LsR w' g L := fun i q hq => by
  obtain ⟨h1, h2, h3⟩ := h i q hq
  exact ⟨(hb.cell (p := ⟨g, i, none⟩) hg).trans h1, h2.below hb, h3⟩
def flatR (L : List (Option Addr × Nat × List (Nat × Nat × Nat))) : List (Nat × Nat × Nat) := (L.map (fun q => q.2.2)).flatten
theorem flatR_take {L : List (Option Addr × Nat × List (Nat × Nat × Nat))} {j : Nat} {q : Option Addr × Nat × List (Nat × Nat × Nat)} (h : L[j]? = some q) : flatR (L.take (j + 1)) = flatR (L.take j) ++ q.2.2 := by
  unfold flatR
  rw [List.take_add_one, h]
  simp
theorem flatR_len {w : World} {g : Nat} {L : List (Option Addr × Nat × List (Nat × Nat × Nat))} (h : LsR w g L) : ∀ j, j ≤ L.length → (flatR (L.take j)).length ≤ j * 5000
  | 0, _ => by simp [flatR]
  | j + 1, hj => by
    have ih := flatR_len h j (by omega)
    have hq := List.getElem?_eq_getElem (show j < L.length by omega)
    rw [flatR_take hq, List.length_append]
    have := (h j _ hq).2.2
    omega
theorem heap_newRt (w : World) (c : Array Value) (E : TypeId) : (w.alloc (.cells c E)).heap[w.heap.size]? = some (.cells c E (0, 0)) := by unfold World.alloc; exact Array.getElem?_push_size
theorem growR_any (n : Nat) (w : World) (h0 : 0 < n) (hn : n ≤ 100000) : Calls Try.prog 103 #[.slice none 0 0, .int .i64 (n : Nat)] w fun e w' => ∃ a c, e = .returned (.slice a 0 c) ∧ Wk.Own w' w.heap.size 49 5 (.slice a 0 c) [] ∧ Below w.heap.size w w' := by
  obtain ⟨ht0, hi0, hzs, hsz⟩ := eiRoute
  obtain ⟨ii, hii, hi1⟩ := Option.map_eq_some_iff.1 hi0
  simp only [Prod.mk.injEq] at hi1
  obtain ⟨hz, hsize, hby⟩ := hi1
  refine (Any8.slices_Grow_grow Try.growRt ii (.agg #[.bool false, .int .u64 0, .int .u64 0, .int .i64 0, .int .i64 0]) hii hz (by rw [hsize]; decide) none 0 0 n [] w (Nat.le_refl _) (by omega) (by rw [hby]; omega) (by omega) (by simp) (fun _ => rfl) (fun a h => by cases h)).mono ?_
  rintro e w' ⟨rfl, rfl⟩
  refine ⟨_, _, rfl, ⟨fun c hc => by simp at hc, rfl, .inr ⟨w.heap.size, _, _, rfl, Nat.le_refl _, heap_newRt w.drew _ _, Nat.zero_le _, ?_, ?_, rfl⟩⟩, (Below.drew (Below.refl _ _)).alloc (Nat.le_refl _) _⟩
  · exact grownCap_le_maxLen w (0 + n) 0 _ (by unfold maxLen; omega)
  · have := grownCap_ge w (0 + n) 0 49
    rw [Array.size_append, Array.size_append, size_zeroCells, size_zeroCells]
    show 0 + (0 + n - 0) * 5 + (grownCap w (0 + n) 0 49 - (0 + n)) * 5 = grownCap w (0 + n) 0 49 * 5
    omega


set_option maxRecDepth 100000 in
set_option maxHeartbeats 4000000 in
theorem concatR_any (g cap : Nat) (L : List (Option Addr × Nat × List (Nat × Nat × Nat))) (w : World) (hg : g < w.heap.size) (hL : LsR w g L) (hlen : L.length ≤ 10) (hpos : 0 < (flatR L).length) :
    Calls Try.prog 60 #[.slice (some ⟨g, 0, none⟩) L.length cap] w fun e w' => ∃ a c, e = .returned (.slice a (flatR L).length c) ∧ Wk.Own w' w.heap.size 49 5 (.slice a (flatR L).length c) ((flatR L).map routeCells) ∧ Below w.heap.size w w' := by
  have HL := Lib.hid hL
  have HFL := Lib.hid (flatR_len hL)
  have HPO := Lib.hid hpos
  clear hL hpos
  go_enter Try.func60, Try.ntmps60
  go_wp2_with fail
  go_loopw [3, 11] (fun v i wr => ∃ j : Nat, j ≤ L.length ∧ i = .int .i64 j ∧ (∃ m : Nat, v = .int .i64 (m : Nat) ∧ m ≤ 60000 ∧ Hid (m = (flatR (L.take j)).length)) ∧ Hid (Below w.heap.size w wr)) (fun _ i _ => L.length - (intOf i).toNat)
  case atStart => exact ⟨0, Nat.zero_le _, rfl, ⟨0, rfl, by decide, rfl⟩, Below.refl _ _⟩
  case round =>
    obtain ⟨j, hj, rfl, ⟨m, rfl, hm, HM⟩, HB⟩ := hrel
    by_cases hlt : j < L.length
    · obtain ⟨⟨qa, qc, ql⟩, hq⟩ : ∃ s, L[j]? = some s := ⟨_, List.getElem?_eq_getElem hlt⟩
      obtain ⟨h1, h2, h3⟩ := HL.out j _ hq
      have d0 := (HB.out.cell (p := ⟨g, j, none⟩) hg).trans h1
      have hgr : g < wr.heap.size := Nat.lt_of_lt_of_le hg HB.out.size
      dsimp only at d0 h3
      have HM2 := Lib.hid (show m + ql.length = (flatR (L.take (j + 1))).length by rw [flatR_take hq, List.length_append, HM.out])
      have hm2 : m + ql.length ≤ 60000 := by have := HFL.out (j + 1) (by omega); have := HM2.out; omega
      generalize ql.length = qn at *
      clear h1 h2 hq HM
      have ew : IntKind.i64.wrap ((m : Int) + qn) = ((m + qn : Nat) : Int) := by rw [IntKind.wrap_i64]; omega
      go_wp2_with fail
      go_roundw
      case rel => exact ⟨j + 1, by omega, by go_num, ⟨m + qn, by first | rfl | (simp; done) | (rw [← ew]; done), hm2, HM2⟩, HB⟩
      case measure => simp [intOf]; omega
    · obtain rfl : j = L.length := by omega
      rw [List.take_length] at HM
      have hm0 : 0 < m := by have := HM.out; have := HPO.out; omega
      have GR := Lib.hid (fun w => growR_any m w hm0 (by omega))
      have hm1 : ¬ ((m : Int) < 0) := by omega
      go_wp2_with fail
      refine (GR.out _).mono ?_
      rintro e w2 ⟨a2, c2, rfl, ho2, hb2⟩
      have HB2 := Lib.hid (HB.out.trans (hb2.mono HB.out.size))
      have HO2 := Lib.hid (ho2.base HB.out.size)
      clear ho2 hb2 GR HB
      go_wp2_with fail
      go_loopw [6, 27] (fun v i wr => ∃ j : Nat, j ≤ L.length ∧ i = .int .i64 j ∧ (∃ a c xs, v = .slice a xs.length c ∧ Hid (xs = flatR (L.take j)) ∧ Hid (Wk.Own wr w.heap.size 49 5 (.slice a xs.length c) (xs.map routeCells))) ∧ Hid (Below w.heap.size w wr)) (fun _ i _ => L.length - (intOf i).toNat)
      case atStart => exact ⟨0, Nat.zero_le _, rfl, ⟨a2, c2, [], rfl, rfl, HO2⟩, HB2⟩
      case round =>
        obtain ⟨j, hj, rfl, ⟨a3, c3, xs, rfl, HX, HO⟩, HB⟩ := hrel
        have hzr := HB.out.size
        by_cases hlt : j < L.length
        · obtain ⟨⟨qa, qc, ql⟩, hq⟩ : ∃ s, L[j]? = some s := ⟨_, List.getElem?_eq_getElem hlt⟩
          obtain ⟨h1, h2, h3⟩ := HL.out j _ hq
          have d0 := (HB.out.cell (p := ⟨g, j, none⟩) hg).trans h1
          have hgr : g < wr.heap.size := Nat.lt_of_lt_of_le hg HB.out.size
          dsimp only at d0 h2 h3
          have HQ := Lib.hid (h2.below HB.out)
          have HX2 := Lib.hid (show xs ++ ql = flatR (L.take (j + 1)) by rw [flatR_take hq, HX.out])
          have hxl : xs.length ≤ 60000 := by rw [HX.out]; have := HFL.out j hj; omega
          clear h1 h2 hq HX
          go_wp2_with (at_builtin; refine stop_at ?_; intro G hG)
          rw [← hG.out]; clear hG G
          refine wpList_append_any rfl _ _ 43 49 5 40 _ rfl eiRoute w.heap.size _ ((xs).map routeCells) rfl (HO.out) _ ((ql).map routeCells) rfl (HQ.out) (by intro c hc; obtain ⟨r, _, rfl⟩ := List.mem_map.1 hc; exact routeCells_one r) (by simp only [List.length_map]; first | omega | (simp; omega)) (by decide) (by first | omega | (simp; done) | (simp; omega)) ?_
          intro v4 w4 hown4 hb4
          rw [← List.map_append] at hown4
          obtain ⟨xs4, hxs4⟩ : ∃ x : List (Nat × Nat × Nat), x = (xs) ++ (ql) := ⟨_, rfl⟩
          rw [← hxs4] at hown4
          have hl4 : xs4.length = (xs).length + (ql).length := by rw [hxs4, List.length_append]
          have HX4 := Lib.hid hxs4
          clear hxs4
          have HL4 := Lib.hid hl4
          clear hl4
          obtain ⟨a4, cap4, rfl⟩ := hown4.shape
          rw [List.length_map] at hown4 ⊢
          have HO4 := Lib.hid hown4
          clear hown4
          obtain ⟨hc4, hf4⟩ := bcellB hb4; have hz4 := hb4.size; (repeat (first | rw [World.size_alloc] at hz4 | rw [World.size_drew] at hz4 | rw [World.size_setCell] at hz4)); (try have : w.heap.size < w4.heap.size := by omega); (try have : w.heap.size < w4.heap.size + 1 := by omega); (try have : w.heap.size < w4.heap.size + 1 + 1 := by omega); (try have : w.heap.size < w4.heap.size + 1 + 1 + 1 := by omega); (try have : wr.heap.size < w4.heap.size := by omega); (try have : wr.heap.size < w4.heap.size + 1 := by omega); (try have : wr.heap.size < w4.heap.size + 1 + 1 := by omega); (try have : wr.heap.size < w4.heap.size + 1 + 1 + 1 := by omega)
          have HX4' := Lib.hid (show xs4 = flatR (L.take (j + 1)) by rw [HX4.out]; exact HX2.out)
          have HB4 := Lib.hid (HB.out.trans hb4)
          clear HX4 HL4 hb4 hc4 hf4 HX2 HO HQ HB
          go_wp2
          go_roundw
          case rel => exact ⟨j + 1, by omega, by go_num, ⟨_, _, xs4, rfl, HX4', HO4⟩, HB4⟩
          case measure => simp [intOf]; omega
        · obtain rfl : j = L.length := by omega
          rw [List.take_length] at HX
          have e : xs = flatR L := HX.out
          subst e
          go_wp2_with fail
          exact bodyPost_ret (v := .slice a3 (flatR L).length c3) (by simp [results, Try.results60, go_sem]) rfl ⟨_, _, rfl, HO.out, HB.out⟩
end Go.Proofs.Ytoecmoicaklbaaa
