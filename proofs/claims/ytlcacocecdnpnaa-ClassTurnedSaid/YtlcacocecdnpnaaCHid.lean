
/- Contract of class.Hidden. -/
import Derived.Test.YtlcacocecdnpnaaCHidP
set_option linter.unusedVariables false
namespace Go.Proofs.Ytlcacocecdnpnaa
open Go.RowKit Go.Sort Wc Wk


set_option maxRecDepth 100000 in
set_option maxHeartbeats 2000000 in
theorem hidden_any (a : Option Addr) (cap : Nat) (l : List MatchD) (w : World) (hs : Sl w 9 (.slice a l.length cap) (l.map matchCells)) (hlen : l.length ≤ 30) (hok : ∀ q ∈ l, MatchD.ok q) :
    Calls Try.prog 32 #[.slice a l.length cap] w fun e w' => ∃ v, e = .returned (.tuple #[v, .int .i64 0]) ∧ Own w' w.heap.size 3 1 v ((hids l l.length).map natC) ∧ Below w.heap.size w w' := by
  have HS := Lib.hid hs
  have HOK := Lib.hid hok
  obtain ⟨hcapl, hcapm⟩ : l.length ≤ cap ∧ cap ≤ 9223372036854775807 := by
    obtain ⟨a', cap', hv, h1, h2⟩ := hs.shape
    simp only [Value.slice.injEq, List.length_map] at hv h1
    obtain ⟨_, _, rfl⟩ := hv
    exact ⟨h1, h2⟩
  clear hs hok
  go_enter Try.func32, Try.ntmps32
  go_wp2_with fail
  refine (ccheck_any a cap l _ (HS.out.below (by (repeat' (first | (with_reducible exact Below.refl _ _) | (with_reducible assumption) | (with_reducible refine Below.alloc ?_ ?_ _) | (with_reducible refine Below.drew ?_) | (with_reducible refine Below.stepG ?_ (by assumption) ?_) | (with_reducible refine Below.setCell ?_ ?_ _) | omega | (dsimp only; omega) | (simp; done) | (simp; omega))))) hlen HOK.out).mono ?_; rintro e w1 ⟨rfl, hb1⟩; (repeat (with_reducible (replace hb1 := Below.undrew hb1))); obtain ⟨hc1, hf1⟩ := bcell hb1; have hz1 := hb1.size; (repeat (first | rw [World.size_alloc] at hz1 | rw [World.size_drew] at hz1 | rw [World.size_setCell] at hz1)); (try have : w.heap.size < w1.heap.size := by omega); (try have : w.heap.size < w1.heap.size + 1 := by omega); (try have : w.heap.size < w1.heap.size + 1 + 1 := by omega); (try have : w.heap.size < w1.heap.size + 1 + 1 + 1 := by omega); (try have : W.heap.size < w1.heap.size := by omega); (try have : W.heap.size < w1.heap.size + 1 := by omega); (try have : W.heap.size < w1.heap.size + 1 + 1 := by omega); (try have : W.heap.size < w1.heap.size + 1 + 1 + 1 := by omega); (try have : wr.heap.size < w1.heap.size := by omega); (try have : wr.heap.size < w1.heap.size + 1 := by omega); (try have : wr.heap.size < w1.heap.size + 1 + 1 := by omega); (try have : wr.heap.size < w1.heap.size + 1 + 1 + 1 := by omega); (try have : wr.heap.size + 1 < w1.heap.size := by omega); (try have : wr.heap.size + 1 < w1.heap.size + 1 := by omega); (try have : wr.heap.size + 1 < w1.heap.size + 1 + 1 := by omega); (try have : wr.heap.size + 1 < w1.heap.size + 1 + 1 + 1 := by omega)
  go_wp2_with fail
  go_loopw [5, 15] (fun v i wr => ∃ j : Nat, j ≤ l.length ∧ i = .int .i64 j ∧ Hid (Own wr w.heap.size 3 1 v ((hids l j).map natC)) ∧ Below w.heap.size w wr) (fun _ i _ => l.length - (intOf i).toNat)
  case atStart => exact ⟨0, Nat.zero_le _, rfl, Own.nil _ _ _ _, by (repeat' (first | (with_reducible exact Below.refl _ _) | (with_reducible assumption) | (with_reducible refine Below.alloc ?_ ?_ _) | (with_reducible refine Below.drew ?_) | (with_reducible refine Below.stepG ?_ (by assumption) ?_) | (with_reducible refine Below.setCell ?_ ?_ _) | omega | (dsimp only; omega) | (simp; done) | (simp; omega)))⟩
  case round =>
    obtain ⟨j, hj, rfl, HO, hbr⟩ := hrel
    have hzr := hbr.size
    by_cases hlt : j < l.length
    · obtain ⟨r, hr⟩ : ∃ r, l[j]? = some r := ⟨_, List.getElem?_eq_getElem hlt⟩
      obtain ⟨b, off, rfl, hb, d0, d1, d2, d3, d4, d5, d6, d7, d8⟩ := Sl.mat HS.out hbr hr
      obtain ⟨ok1, ok2, _, _⟩ := HOK.out r (List.mem_of_getElem? hr)
      have HR := Lib.hid hr
      clear hr
      go_wp2_with fail
      have F0 : (wr.alloc (.cells #[.bool false, .int .u64 (hiOf false r.n), .int .u64 (loOf r.n), .int .i64 r.k, .bool false, .int .u64 (hiOf false r.m), .int .u64 (loOf r.m), .int .i64 r.l, .int .i64 r.cls] 78)).cell? ⟨wr.heap.size, 0, none⟩ = some (.bool false) := by simp
      have F1 : (wr.alloc (.cells #[.bool false, .int .u64 (hiOf false r.n), .int .u64 (loOf r.n), .int .i64 r.k, .bool false, .int .u64 (hiOf false r.m), .int .u64 (loOf r.m), .int .i64 r.l, .int .i64 r.cls] 78)).cell? ⟨wr.heap.size, 1, none⟩ = some (.int .u64 (hiOf false r.n)) := by simp
      have F2 : (wr.alloc (.cells #[.bool false, .int .u64 (hiOf false r.n), .int .u64 (loOf r.n), .int .i64 r.k, .bool false, .int .u64 (hiOf false r.m), .int .u64 (loOf r.m), .int .i64 r.l, .int .i64 r.cls] 78)).cell? ⟨wr.heap.size, 2, none⟩ = some (.int .u64 (loOf r.n)) := by simp
      have F3 : (wr.alloc (.cells #[.bool false, .int .u64 (hiOf false r.n), .int .u64 (loOf r.n), .int .i64 r.k, .bool false, .int .u64 (hiOf false r.m), .int .u64 (loOf r.m), .int .i64 r.l, .int .i64 r.cls] 78)).cell? ⟨wr.heap.size, 3, none⟩ = some (.int .i64 r.k) := by simp
      have F4 : (wr.alloc (.cells #[.bool false, .int .u64 (hiOf false r.n), .int .u64 (loOf r.n), .int .i64 r.k, .bool false, .int .u64 (hiOf false r.m), .int .u64 (loOf r.m), .int .i64 r.l, .int .i64 r.cls] 78)).cell? ⟨wr.heap.size, 4, none⟩ = some (.bool false) := by simp
      have F5 : (wr.alloc (.cells #[.bool false, .int .u64 (hiOf false r.n), .int .u64 (loOf r.n), .int .i64 r.k, .bool false, .int .u64 (hiOf false r.m), .int .u64 (loOf r.m), .int .i64 r.l, .int .i64 r.cls] 78)).cell? ⟨wr.heap.size, 5, none⟩ = some (.int .u64 (hiOf false r.m)) := by simp
      have F6 : (wr.alloc (.cells #[.bool false, .int .u64 (hiOf false r.n), .int .u64 (loOf r.n), .int .i64 r.k, .bool false, .int .u64 (hiOf false r.m), .int .u64 (loOf r.m), .int .i64 r.l, .int .i64 r.cls] 78)).cell? ⟨wr.heap.size, 6, none⟩ = some (.int .u64 (loOf r.m)) := by simp
      have F7 : (wr.alloc (.cells #[.bool false, .int .u64 (hiOf false r.n), .int .u64 (loOf r.n), .int .i64 r.k, .bool false, .int .u64 (hiOf false r.m), .int .u64 (loOf r.m), .int .i64 r.l, .int .i64 r.cls] 78)).cell? ⟨wr.heap.size, 7, none⟩ = some (.int .i64 r.l) := by simp
      have FS : wr.heap.size < (wr.alloc (.cells #[.bool false, .int .u64 (hiOf false r.n), .int .u64 (loOf r.n), .int .i64 r.k, .bool false, .int .u64 (hiOf false r.m), .int .u64 (loOf r.m), .int .i64 r.l, .int .i64 r.cls] 78)).heap.size := by simp
      have FB : Below w.heap.size w (wr.alloc (.cells #[.bool false, .int .u64 (hiOf false r.n), .int .u64 (loOf r.n), .int .i64 r.k, .bool false, .int .u64 (hiOf false r.m), .int .u64 (loOf r.m), .int .i64 r.l, .int .i64 r.cls] 78)) := by (repeat' (first | (with_reducible exact Below.refl _ _) | (with_reducible assumption) | (with_reducible refine Below.alloc ?_ ?_ _) | (with_reducible refine Below.drew ?_) | (with_reducible refine Below.stepG ?_ (by assumption) ?_) | (with_reducible refine Below.setCell ?_ ?_ _) | omega | (dsimp only; omega) | (simp; done) | (simp; omega)))
      have FO0 := ((HS.out.below (w' := wr.alloc (.cells #[.bool false, .int .u64 (hiOf false r.n), .int .u64 (loOf r.n), .int .i64 r.k, .bool false, .int .u64 (hiOf false r.m), .int .u64 (loOf r.m), .int .i64 r.l, .int .i64 r.cls] 78)) FB).take j (by simp; omega))
      rw [← List.map_take] at FO0
      have FO := Lib.hid FO0
      clear FO0
      have HO2 := Lib.hid (HO.out.alloc (.cells #[.bool false, .int .u64 (hiOf false r.n), .int .u64 (loOf r.n), .int .i64 r.k, .bool false, .int .u64 (hiOf false r.m), .int .u64 (loOf r.m), .int .i64 r.l, .int .i64 r.cls] 78))
      clear HO hbr d0 d1 d2 d3 d4 d5 d6 d7 d8
      generalize wr.alloc (.cells #[.bool false, .int .u64 (hiOf false r.n), .int .u64 (loOf r.n), .int .i64 r.k, .bool false, .int .u64 (hiOf false r.m), .int .u64 (loOf r.m), .int .i64 r.l, .int .i64 r.cls] 78) = W at *
      obtain ⟨B, hB⟩ : ∃ B, B = wr.heap.size := ⟨_, rfl⟩
      rw [← hB] at F0 F1 F2 F3 F4 F5 F6 F7 FS ⊢
      have hBe : w.heap.size ≤ B := by omega
      clear hB hzr
      have hzW := FB.size
      have HI := Lib.hid (show isHid l j = wholeF 65 (l.take j) r.n r.k r.m r.l by unfold isHid; rw [HR.out])
      have hokP : ∀ q ∈ l.take j, MatchD.ok q := fun q hq => HOK.out q (List.mem_of_mem_take hq)
      have hlP : (l.take j).length = j := by simp; omega
      have hjc : j ≤ cap := by omega
      have HF := Lib.hid (fun d os => whole_says 65 (l.take j) (some ⟨b, off, none⟩) cap r.n r.k r.m r.l (grow (redrawn W d) os) (by rw [hlP]; exact FO.out.below' (below_regrown W d os) (fun x hx => by cases hx; exact Nat.lt_of_lt_of_le hb hzW)) (by omega) hokP ok1 ok2 (by omega))
      rw [hlP] at HF
      have HS2 := Lib.hid (hids_succ l j)
      rw [← HI.out] at HF
      have hil := hids_len l j
      clear hokP hlP
      generalize hy : isHid l j = y at *
      have HE := Lib.hid hy
      clear hy
      refine wp_region_qb (by kernel_rfl) (by kernel_rfl) (fun kq => ?_)
      repeat (quiet_step (first | (with_reducible exact Calls.regrown_of (HF.out _ _))))
      clear kq
      refine wpQuiet_nil ?_; intro w2 hb2; (repeat (with_reducible (replace hb2 := Below.undrew hb2))); obtain ⟨hc2, hf2⟩ := bcell hb2; have hz2 := hb2.size; (repeat (first | rw [World.size_alloc] at hz2 | rw [World.size_drew] at hz2 | rw [World.size_setCell] at hz2)); (try have : w.heap.size < w2.heap.size := by omega); (try have : w.heap.size < w2.heap.size + 1 := by omega); (try have : w.heap.size < w2.heap.size + 1 + 1 := by omega); (try have : w.heap.size < w2.heap.size + 1 + 1 + 1 := by omega); (try have : W.heap.size < w2.heap.size := by omega); (try have : W.heap.size < w2.heap.size + 1 := by omega); (try have : W.heap.size < w2.heap.size + 1 + 1 := by omega); (try have : W.heap.size < w2.heap.size + 1 + 1 + 1 := by omega); (try have : wr.heap.size < w2.heap.size := by omega); (try have : wr.heap.size < w2.heap.size + 1 := by omega); (try have : wr.heap.size < w2.heap.size + 1 + 1 := by omega); (try have : wr.heap.size < w2.heap.size + 1 + 1 + 1 := by omega); (try have : wr.heap.size + 1 < w2.heap.size := by omega); (try have : wr.heap.size + 1 < w2.heap.size + 1 := by omega); (try have : wr.heap.size + 1 < w2.heap.size + 1 + 1 := by omega); (try have : wr.heap.size + 1 < w2.heap.size + 1 + 1 + 1 := by omega); (try have : w1.heap.size < w2.heap.size := by omega); (try have : w1.heap.size < w2.heap.size + 1 := by omega); (try have : w1.heap.size < w2.heap.size + 1 + 1 := by omega); (try have : w1.heap.size < w2.heap.size + 1 + 1 + 1 := by omega)
      rcases y with _ | _
      · have HOx := HO2.out
        rw [show hids l j = hids l (j + 1) by rw [HS2.out]; simp] at HOx
        have HO3 := Lib.hid HOx
        clear HOx HO2 HE HS2 HI
        go_wp2_with fail
        go_roundw
        case rel => exact ⟨j + 1, by omega, by go_num, Lib.hid (by ((repeat (first | (with_reducible refine Own.alloc ?_ _) | (with_reducible refine Own.dr ?_))); refine Own.below ?_ hb2; (repeat (first | (with_reducible refine Own.alloc ?_ _) | (with_reducible refine Own.dr ?_))); exact HO3.out)), by (repeat' (first | (with_reducible exact Below.refl _ _) | (with_reducible assumption) | (with_reducible refine Below.alloc ?_ ?_ _) | (with_reducible refine Below.drew ?_) | (with_reducible refine Below.stepG ?_ (by assumption) ?_) | (with_reducible refine Below.setCell ?_ ?_ _) | omega | (dsimp only; omega) | (simp; done) | (simp; omega)))⟩
        case measure => simp [intOf]; omega
      · go_wp2_with (at_builtin; refine stop_at ?_; intro G hG)
        rw [← hG.out]; clear hG G
        refine wpList_append_any rfl _ _ 22 3 1 8 _ rfl eiIntH w.heap.size _ ((hids l j).map natC) rfl (by ((repeat (first | (with_reducible refine Own.alloc ?_ _) | (with_reducible refine Own.dr ?_))); refine Own.below ?_ hb2; (repeat (first | (with_reducible refine Own.alloc ?_ _) | (with_reducible refine Own.dr ?_))); exact HO2.out)) _ (([j]).map natC) rfl (sl_new (c := natC j) (by simp) rfl) (by intro c hc; obtain ⟨r, _, rfl⟩ := List.mem_map.1 hc; exact natC_one r) (by skip; first | omega | (simp; omega)) (by decide) (by first | omega | (simp; done) | (simp; omega)) ?_
        intro v4 w4 hown4 hb4
        rw [← List.map_append] at hown4
        obtain ⟨xs4, hxs4⟩ : ∃ x : List Nat, x = (hids l j) ++ ([j]) := ⟨_, rfl⟩
        rw [← hxs4] at hown4
        have hl4 : xs4.length = (hids l j).length + ([j]).length := by rw [hxs4, List.length_append]
        have HX4 := Lib.hid hxs4
        clear hxs4
        have HL4 := Lib.hid hl4
        clear hl4
        obtain ⟨a4, cap4, rfl⟩ := hown4.shape
        rw [List.length_map] at hown4 ⊢
        have HO4 := Lib.hid hown4
        clear hown4
        obtain ⟨hc4, hf4⟩ := bcellB hb4; have hz4 := hb4.size; (repeat (first | rw [World.size_alloc] at hz4 | rw [World.size_drew] at hz4 | rw [World.size_setCell] at hz4)); (try have : w.heap.size < w4.heap.size := by omega); (try have : w.heap.size < w4.heap.size + 1 := by omega); (try have : w.heap.size < w4.heap.size + 1 + 1 := by omega); (try have : w.heap.size < w4.heap.size + 1 + 1 + 1 := by omega); (try have : W.heap.size < w4.heap.size := by omega); (try have : W.heap.size < w4.heap.size + 1 := by omega); (try have : W.heap.size < w4.heap.size + 1 + 1 := by omega); (try have : W.heap.size < w4.heap.size + 1 + 1 + 1 := by omega); (try have : wr.heap.size < w4.heap.size := by omega); (try have : wr.heap.size < w4.heap.size + 1 := by omega); (try have : wr.heap.size < w4.heap.size + 1 + 1 := by omega); (try have : wr.heap.size < w4.heap.size + 1 + 1 + 1 := by omega); (try have : wr.heap.size + 1 < w4.heap.size := by omega); (try have : wr.heap.size + 1 < w4.heap.size + 1 := by omega); (try have : wr.heap.size + 1 < w4.heap.size + 1 + 1 := by omega); (try have : wr.heap.size + 1 < w4.heap.size + 1 + 1 + 1 := by omega); (try have : w1.heap.size < w4.heap.size := by omega); (try have : w1.heap.size < w4.heap.size + 1 := by omega); (try have : w1.heap.size < w4.heap.size + 1 + 1 := by omega); (try have : w1.heap.size < w4.heap.size + 1 + 1 + 1 := by omega); (try have : w2.heap.size < w4.heap.size := by omega); (try have : w2.heap.size < w4.heap.size + 1 := by omega); (try have : w2.heap.size < w4.heap.size + 1 + 1 := by omega); (try have : w2.heap.size < w4.heap.size + 1 + 1 + 1 := by omega)
        have HO5 : Hid (Own w4 w.heap.size 3 1 (.slice a4 xs4.length cap4) ((hids l (j + 1)).map natC)) := by
          rw [show hids l (j + 1) = xs4 by rw [HS2.out, HX4.out]; simp]
          exact HO4
        clear HO2 HE HS2 HI HX4 HO4
        go_wp2
        go_roundw
        case rel => exact ⟨j + 1, by omega, by go_num, HO5, by (repeat' (first | (with_reducible exact Below.refl _ _) | (with_reducible assumption) | (with_reducible refine Below.alloc ?_ ?_ _) | (with_reducible refine Below.drew ?_) | (with_reducible refine Below.stepG ?_ (by assumption) ?_) | (with_reducible refine Below.setCell ?_ ?_ _) | omega | (dsimp only; omega) | (simp; done) | (simp; omega)))⟩
        case measure => simp [intOf]; omega
    · obtain rfl : j = l.length := by omega
      have HO2 := HO.out
      clear HO
      go_wp2
      go_returns
      exact ⟨_, rfl, HO2, by (repeat' (first | (with_reducible exact Below.refl _ _) | (with_reducible assumption) | (with_reducible refine Below.alloc ?_ ?_ _) | (with_reducible refine Below.drew ?_) | (with_reducible refine Below.stepG ?_ (by assumption) ?_) | (with_reducible refine Below.setCell ?_ ?_ _) | omega | (dsimp only; omega) | (simp; done) | (simp; omega)))⟩
end Go.Proofs.Ytlcacocecdnpnaa
