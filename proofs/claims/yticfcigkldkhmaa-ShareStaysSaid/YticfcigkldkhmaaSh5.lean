
/- Shares: the library's insertion sort. -/
import Derived.Test.YticfcigkldkhmaaSh4
set_option linter.unusedVariables false
set_option linter.unusedSimpArgs false
namespace Go.Proofs.Yticfcigkldkhmaa
open Go Go.RowKit Go.Sort Wc Wk

def nC (x : Nat) : List Value := [.int .i64 x]
theorem nC_one (x : Nat) : ∀ u ∈ nC x, u.oneCell' = true := by
  intro u hu
  simp [nC] at hu
  rcases hu with rfl
  rfl
theorem eiNat : EI Try.prog 44 3 1 8 (.int .i64 0) := ⟨by kernel_rfl, by kernel_rfl, rfl, by decide⟩
theorem own_grown {w w' : World} {B : Nat} {e : TypeId} {sz g : Nat} {v : Value} {xs : List (List Value)} (h : Wk.Own w B e sz v xs) (hg : w.grownBy w' (some g)) (hne : v.ownBlock ≠ some g) : Wk.Own w' B e sz v xs := ⟨h.1, h.2.kept hg (.inr hne)⟩
theorem own_nat {w : World} {B : Nat} {e : TypeId} {g m cap : Nat} {xs : List Nat} (h : Wk.Own w B e 1 (.slice (some ⟨g, 0, none⟩) m cap) (xs.map nC)) {i : Nat} (hi : i < xs.length) :
    w.cell? ⟨g, i, none⟩ = some (.int .i64 (xs.getD i 0 : Nat)) ∧ w.frozen? ⟨g, i, none⟩ = false ∧ g < w.heap.size := by
  obtain ⟨g', cap', hv, _, hlt, _, _, hf, hc⟩ := Own.at h (by rw [List.length_map]; omega)
  simp only [Value.slice.injEq, Option.some.injEq, Addr.mk.injEq] at hv
  obtain ⟨⟨rfl, _, _⟩, _, _⟩ := hv
  have := hc i (nC (xs.getD i 0)) (by rw [List.getElem?_map, List.getElem?_eq_getElem hi, getD_eq hi]; rfl) 0 (.int .i64 (xs.getD i 0 : Nat)) rfl
  rw [Nat.mul_one, Nat.add_zero] at this
  exact ⟨this, hf _, hlt⟩
theorem own_set {w : World} {B : Nat} {e : TypeId} {g m cap : Nat} {xs : List Nat} (h : Wk.Own w B e 1 (.slice (some ⟨g, 0, none⟩) m cap) (xs.map nC)) {i : Nat} (hi : i < xs.length) (v : Nat) :
    Wk.Own (w.setCell ⟨g, i, none⟩ (.int .i64 v)) B e 1 (.slice (some ⟨g, 0, none⟩) m cap) ((xs.set i v).map nC) := by
  have := Own.set h (i := i) (c := nC (xs.getD i 0)) (by rw [List.getElem?_map, List.getElem?_eq_getElem hi, getD_eq hi]; rfl) (j := 0) (by decide) (.int .i64 v)
  rw [Nat.mul_one, Nat.add_zero] at this
  rw [List.map_set]
  exact this
theorem own_lens {w : World} {B : Nat} {e : TypeId} {sz m cap : Nat} {a : Option Addr} {xs : List (List Value)} (h : Wk.Own w B e sz (.slice a m cap) xs) : m = xs.length ∧ m ≤ cap ∧ cap ≤ 9223372036854775807 := Sl.lens h.sl


set_option maxHeartbeats 2000000 in
theorem ins_any (w : World) (B g pm pl pa pw cap2 : Nat) (a : Option Addr) (cap n m : Nat) (l : List (Nat × Nat)) (many : Nat) (xs : List Nat) (hn : n = l.length) (hok : ShOk l) (hmany : many ≤ 64) (hm : m = xs.length) (hm1 : 1 ≤ m) (hm2 : m ≤ 16) (hxs : ∀ x ∈ xs, x < n)
    (hw : PW w g pm pl pa a cap n l many) (lw : pw < w.heap.size) (nw : pw ≠ g)
    (cw : w.cell? ⟨pw, 0, none⟩ = some (.func (.func 84) #[] #[.pointer (some ⟨pm, 0, none⟩), .pointer (some ⟨pl, 0, none⟩), .pointer (some ⟨pa, 0, none⟩)]))
    (ho : Wk.Own w B 3 1 (.slice (some ⟨g, 0, none⟩) m cap2) (xs.map nC)) :
    Calls Try.prog 114 #[.slice (some ⟨g, 0, none⟩) m cap2, .int .i64 0, .int .i64 m, .func (.func 86) #[] #[.pointer (some ⟨pw, 0, none⟩)]] w fun e w' => e = .returned (.tuple #[]) ∧ w.grownBy w' (some g) ∧
      Wk.Own w' B 3 1 (.slice (some ⟨g, 0, none⟩) m cap2) ((srt (awayF (l.map (·.2)) many) xs m).map nC) := by
  have P2 := Lib.hid (fun (W : World) (hg : w.grownBy W (some g)) (x y : Nat) (hx : x < n) (hy : y < n) => part2_any W g pm pl pa pw a cap n l many x y hn hok hmany hx hy (hw.kept hg) (Nat.lt_of_lt_of_le lw hg.size) ((grown_cell hg lw nw).trans cw))
  have HO := Lib.hid ho
  have HM := Lib.hid hm
  have HXS := Lib.hid hxs
  have h1 := (own_lens ho).2.1
  have h2 := (own_lens ho).2.2
  clear hn hok hmany hw lw nw cw ho hm hxs
  generalize awayF (l.map (·.2)) many = f at *
  go_enter Try.func114, Try.ntmps114
  go_wp2_with fail
  go_loopw [8] (fun i wr => ∃ k : Nat, 1 ≤ k ∧ k ≤ m ∧ i = .int .i64 k ∧ Hid (w.grownBy wr (some g)) ∧ Hid (Wk.Own wr B 3 1 (.slice (some ⟨g, 0, none⟩) m cap2) ((srt f xs k).map nC))) (fun i _ => m - (intOf i).toNat)
  case atStart => exact ⟨1, Nat.le_refl _, hm1, by go_num, grown_refl _ _, HO.out⟩
  case round =>
    obtain ⟨k, hk1, hk, rfl, HG, HS⟩ := hrel
    by_cases hlt : k < m
    · go_wp2_with fail
      go_loopw [9] (fun j wr => ∃ (q : Nat) (ys : List Nat), q ≤ k ∧ j = .int .i64 q ∧ Hid (w.grownBy wr (some g)) ∧ Hid (Wk.Own wr B 3 1 (.slice (some ⟨g, 0, none⟩) m cap2) (ys.map nC)) ∧ Hid (ys.length = m) ∧ Hid (∀ y ∈ ys, y < n) ∧ Hid (bub f ys q = srt f xs (k + 1))) (fun j _ => (intOf j).toNat)
      case atStart => exact ⟨k, srt f xs k, Nat.le_refl _, rfl, HG.out, HS.out, by show _ = _; rw [srt_len]; exact HM.out.symm, fun y hy => HXS.out y ((srt_perm f xs k (by have := HM.out; omega)).mem_iff.1 hy), rfl⟩
      case round =>
        clear HG HS
        obtain ⟨q, ys, hq, rfl, HG, HS, HL, HY, HB⟩ := hrel
        cases q with
        | zero =>
          go_wp2_with fail
          refine wp_region_qb (by kernel_rfl) (by kernel_rfl) (fun kq => ?_)
          repeat (first | go_big_quiet_step (fail) | quiet_step (fail))
          clear kq
          refine wpQuiet_nil ?_; intro w5 hb5; (repeat (with_reducible (replace hb5 := Below.undrew hb5))); obtain ⟨hc5, hf5⟩ := bcell hb5; have hz5 := hb5.size; (repeat (first | rw [World.size_alloc] at hz5 | rw [World.size_drew] at hz5 | rw [World.size_setCell] at hz5)); (try have : w.heap.size < w5.heap.size := by omega); (try have : w.heap.size < w5.heap.size + 1 := by omega); (try have : w.heap.size < w5.heap.size + 1 + 1 := by omega); (try have : w.heap.size < w5.heap.size + 1 + 1 + 1 := by omega)
          go_wp2_with fail
          go_roundw
          case rel => exact ⟨k + 1, by omega, by omega, by go_num, HG.out.trans (grown_of_below hb5 _), by show Wk.Own _ _ _ _ _ _; rw [← HB.out]; exact HS.out.below hb5⟩
          case measure => simp [intOf]; omega
        | succ q =>
          have hlen := HL.out
          obtain ⟨c1, f1, lg⟩ := own_nat HS.out (i := q + 1) (by omega)
          obtain ⟨c0, f0, _⟩ := own_nat HS.out (i := q) (by omega)
          obtain ⟨x, hx⟩ : ∃ x, x = ys.getD (q + 1) 0 := ⟨_, rfl⟩
          obtain ⟨y, hy⟩ : ∃ y, y = ys.getD q 0 := ⟨_, rfl⟩
          rw [← hx] at c1
          rw [← hy] at c0
          have CMP := Lib.hid (fun d os => P2.out (grow (redrawn wr d) os) (HG.out.trans (grown_of_below (below_regrown wr d os) _)) x y (by rw [hx, getD_eq (by omega)]; exact HY.out _ (List.getElem_mem _)) (by rw [hy, getD_eq (by omega)]; exact HY.out _ (List.getElem_mem _)))
          have HX := Lib.hid hx
          have HYY := Lib.hid hy
          clear hx hy hlen
          have ej : IntKind.i64.wrap ((q : Int) + 1 - 1) = (q : Int) := by rw [IntKind.wrap_i64]; omega
          by_cases hf : f y < f x
          · have ec : cmpI (f y : Nat) (f x : Nat) = -1 := by unfold cmpI; rw [if_pos (by omega)]
            rw [ec] at CMP
            clear ec
            go_wp2_with fail
            refine wp_region_qb (by kernel_rfl) (by kernel_rfl) (fun kq => ?_)
            repeat (first | go_big_quiet_step (with_reducible exact Calls.regrown_of (CMP.out _ _)) | quiet_step (with_reducible exact Calls.regrown_of (CMP.out _ _)))
            clear kq
            refine wpQuiet_nil ?_; intro w5 hb5; (repeat (with_reducible (replace hb5 := Below.undrew hb5))); obtain ⟨hc5, hf5⟩ := bcell hb5; have hz5 := hb5.size; (repeat (first | rw [World.size_alloc] at hz5 | rw [World.size_drew] at hz5 | rw [World.size_setCell] at hz5)); (try have : w.heap.size < w5.heap.size := by omega); (try have : w.heap.size < w5.heap.size + 1 := by omega); (try have : w.heap.size < w5.heap.size + 1 + 1 := by omega); (try have : w.heap.size < w5.heap.size + 1 + 1 + 1 := by omega)
            have c15 := (hc5 g (q + 1) lg).trans c1
            have c05 := (hc5 g q lg).trans c0
            have f15 := (hf5 g (q + 1) lg).trans f1
            have f05 := (hf5 g q lg).trans f0
            have lg5 : g < w5.heap.size := by omega
            clear hc5 hf5 c1 c0 f1 f0
            go_wp2_with fail
            go_big_region
            all_goals go_wp2_with fail
            go_roundw
            case rel =>
              have hl := HL.out
              have hmem : ∀ z ∈ (ys.set (q + 1) y).set q x, z < n := fun z hz => by
                have hxm : x < n := by rw [HX.out, getD_eq (by omega)]; exact HY.out _ (List.getElem_mem _)
                have hym : y < n := by rw [HYY.out, getD_eq (by omega)]; exact HY.out _ (List.getElem_mem _)
                rcases List.mem_or_eq_of_mem_set hz with hz | rfl
                · rcases List.mem_or_eq_of_mem_set hz with hz | rfl
                  · exact HY.out z hz
                  · exact hym
                · exact hxm
              have hbub : bub f ((ys.set (q + 1) y).set q x) q = srt f xs (k + 1) := by
                rw [← HB.out]
                conv => rhs; unfold bub
                rw [← HX.out, ← HYY.out, if_pos hf]
              refine ⟨q, (ys.set (q + 1) y).set q x, by omega, rfl, ?_, ?_, by show _ = _; rw [List.length_set, List.length_set]; exact hl, hmem, hbub⟩
              · exact (((HG.out.trans (grown_of_below hb5 _)).trans (grown_set _ _ _ _)).trans (grown_set _ _ _ _)).trans (grown_of_below (Below.drew (Below.refl _ _)) _)
              · exact (own_set (own_set (HS.out.below hb5) (by omega) y) (by rw [List.length_set]; omega) x).dr
            case measure => simp [intOf]
          · obtain ⟨c, hc⟩ : ∃ c, c = cmpI (f y : Nat) (f x : Nat) := ⟨_, rfl⟩
            have ec : ¬ c < 0 := by rw [hc]; unfold cmpI; rw [if_neg (by omega)]; split <;> omega
            rw [← hc] at CMP
            clear hc
            go_wp2_with fail
            refine wp_region_qb (by kernel_rfl) (by kernel_rfl) (fun kq => ?_)
            repeat (first | go_big_quiet_step (with_reducible exact Calls.regrown_of (CMP.out _ _)) | quiet_step (with_reducible exact Calls.regrown_of (CMP.out _ _)))
            clear kq
            refine wpQuiet_nil ?_; intro w5 hb5; (repeat (with_reducible (replace hb5 := Below.undrew hb5))); obtain ⟨hc5, hf5⟩ := bcell hb5; have hz5 := hb5.size; (repeat (first | rw [World.size_alloc] at hz5 | rw [World.size_drew] at hz5 | rw [World.size_setCell] at hz5)); (try have : w.heap.size < w5.heap.size := by omega); (try have : w.heap.size < w5.heap.size + 1 := by omega); (try have : w.heap.size < w5.heap.size + 1 + 1 := by omega); (try have : w.heap.size < w5.heap.size + 1 + 1 + 1 := by omega)
            go_wp2_with fail
            go_roundw
            case rel => exact ⟨k + 1, by omega, by omega, by go_num, HG.out.trans (grown_of_below hb5 _), by
              show Wk.Own _ _ _ _ _ _
              rw [← HB.out]
              have e : bub f ys (q + 1) = ys := by unfold bub; rw [← HX.out, ← HYY.out, if_neg hf]
              rw [e]; exact HS.out.below hb5⟩
            case measure => simp [intOf]; omega
    · obtain rfl : k = m := by omega
      go_wp2_with fail
      go_returns
      exact ⟨rfl, HG.out, HS.out⟩
end Go.Proofs.Yticfcigkldkhmaa
