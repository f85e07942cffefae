
/- ClassTurned: the walk. -/
import Derived.Test.YtlcacocecdnpnaaCHid
import Derived.Test.YtlcacocecdnpnaaCFirst
set_option linter.unusedVariables false
namespace Go.Proofs.Ytlcacocecdnpnaa
open Go.RowKit Go.Sort Wc Wk

def MatchD.turned (q : MatchD) : MatchD := ⟨q.m, q.l, q.n, q.k, q.cls⟩
theorem MatchD.turned_ok {q : MatchD} (h : q.ok) : q.turned.ok := ⟨h.2.1, h.1, h.2.2⟩
theorem turned_fits (q : MatchD) (a b : Nat) : q.turned.fits b a ↔ q.fits a b := ⟨fun h => ⟨h.2, h.1⟩, fun h => ⟨h.2, h.1⟩⟩
theorem class_turned (l : List MatchD) (a b : Nat) : classI (l.map MatchD.turned) b a = classI l a b ∧ classC (l.map MatchD.turned) b a = classC l a b := by
  rcases class_cases l a b with ⟨h1, h2, h3⟩ | ⟨i, r, hr, h1, h2, h3, h4⟩
  · rw [h1, h2]
    refine class_not fun i hi r hr => ?_
    rw [List.getElem?_map] at hr
    obtain ⟨q, hq, rfl⟩ := Option.map_eq_some_iff.1 hr
    rw [turned_fits]
    exact h3 q (List.mem_of_getElem? hq)
  · rw [h1, h2]
    have := class_at (l := l.map MatchD.turned) (a := b) (b := a) (j := i) (q := r.turned) (by rw [List.getElem?_map, hr]; rfl) ((turned_fits r a b).2 h3) (fun j hj q hq => by
      rw [List.getElem?_map] at hq
      obtain ⟨z, hz, rfl⟩ := Option.map_eq_some_iff.1 hq
      rw [turned_fits]
      exact h4 j hj z hz)
    exact this
theorem whole_turned (l : List MatchD) (n k m j : Nat) : Whole (l.map MatchD.turned) m j n k ↔ Whole l n k m j := by
  constructor
  · intro h a b ha hb
    obtain ⟨q, hq, hf⟩ := h b a hb ha
    obtain ⟨z, hz, rfl⟩ := List.mem_map.1 hq
    exact ⟨z, hz, (turned_fits z a b).1 hf⟩
  · intro h a b ha hb
    obtain ⟨q, hq, hf⟩ := h b a hb ha
    exact ⟨q.turned, List.mem_map.2 ⟨q, hq, rfl⟩, (turned_fits q b a).2 hf⟩
theorem hids_turned {l : List MatchD} (hl : ∀ q ∈ l, MatchD.ok q) : hids (l.map MatchD.turned) (l.map MatchD.turned).length = hids l l.length := by
  have hl2 : ∀ q ∈ l.map MatchD.turned, MatchD.ok q := fun q hq => by
    obtain ⟨z, hz, rfl⟩ := List.mem_map.1 hq
    exact MatchD.turned_ok (hl z hz)
  unfold hids
  rw [List.length_map]
  apply List.filter_congr
  intro i hi
  rw [List.mem_range] at hi
  have hr := List.getElem?_eq_getElem hi
  generalize l[i] = r at hr
  have hr2 : (l.map MatchD.turned)[i]? = some r.turned := by rw [List.getElem?_map, hr]; rfl
  rw [Bool.eq_iff_iff, isHid_iff hl2 hr2, isHid_iff hl hr, ← List.map_take]
  exact whole_turned _ _ _ _ _
theorem Own.form {w : World} {B : Nat} {e : TypeId} {sz : Nat} {v : Value} {xs : List (List Value)} (h : Own w B e sz v xs) : (v = .slice none 0 0 ∧ xs = []) ∨ ∃ g cap, v = .slice (some ⟨g, 0, none⟩) xs.length cap ∧ xs.length ≤ cap ∧ cap ≤ 9223372036854775807 := by
  obtain ⟨hl, hx, h2⟩ := id h
  rcases h2 with ⟨rfl, h0⟩ | ⟨g, cap, cur, rfl, hb, hg, hn, hm, hs, ht⟩
  · exact .inl ⟨rfl, List.eq_nil_of_length_eq_zero h0⟩
  · exact .inr ⟨g, cap, rfl, hn, by unfold maxLen at hm; exact hm⟩

set_option maxHeartbeats 1000000 in
theorem sameInts_any (a a' : Option Addr) (cap cap' : Nat) (l : List Nat) (w : World) (h1 : Sl w 1 (.slice a l.length cap) (l.map natC)) (h2 : Sl w 1 (.slice a' l.length cap') (l.map natC)) (hlen : l.length ≤ 1000) :
    Calls Try.prog 33 #[.slice a l.length cap, .slice a' l.length cap'] w fun e w' => e = .returned (.bool true) ∧ Below w.heap.size w w' := by
  have H1 := Lib.hid h1
  have H2 := Lib.hid h2
  clear h1 h2
  go_enter Try.func33, Try.ntmps33
  go_wp2_with fail
  go_loopw [5] (fun i wr => ∃ j : Nat, j ≤ l.length ∧ i = .int .i64 j ∧ Below w.heap.size w wr) (fun i _ => l.length - (intOf i).toNat)
  case atStart => exact ⟨0, Nat.zero_le _, rfl, Below.refl _ _⟩
  case round =>
    obtain ⟨j, hj, rfl, hbr⟩ := hrel
    have hzr := hbr.size
    by_cases hlt : j < l.length
    · obtain ⟨r, hr⟩ : ∃ r, l[j]? = some r := ⟨_, List.getElem?_eq_getElem hlt⟩
      obtain ⟨b, off, rfl, hb, d0⟩ := Sl.natC H1.out hbr hr
      obtain ⟨b', off', rfl, hb', d0'⟩ := Sl.natC H2.out hbr hr
      have e1 : b < wr.heap.size := by omega
      have e2 : b' < wr.heap.size := by omega
      clear hr
      go_wp2_with fail
      refine wp_region_qb (by kernel_rfl) (by kernel_rfl) (fun kq => ?_)
      repeat (quiet_step (fail))
      clear kq
      refine wpQuiet_nil ?_; intro w1 hb1; (repeat (with_reducible (replace hb1 := Below.undrew hb1))); obtain ⟨hc1, hf1⟩ := bcell hb1; have hz1 := hb1.size; (repeat (first | rw [World.size_alloc] at hz1 | rw [World.size_drew] at hz1 | rw [World.size_setCell] at hz1))
      go_wp2_with fail
      go_roundw
      case rel => exact ⟨j + 1, by omega, by go_num, by (repeat' (first | (with_reducible exact Below.refl _ _) | (with_reducible assumption) | (with_reducible refine Below.al ?_ _) | (with_reducible refine Below.dr ?_) | (with_reducible refine Below.step ?_ (by assumption)) | (with_reducible refine Below.set ?_ ?_ _) | omega | (dsimp only; omega) | (simp; done) | (simp; omega)))⟩
      case measure => simp [intOf]; omega
    · obtain rfl : j = l.length := by omega
      go_wp2
      go_returns
      exact ⟨rfl, hbr⟩


set_option maxRecDepth 100000 in
set_option maxHeartbeats 1000000 in
theorem classTurned_walk (a : Option Addr) (len cap : Nat) (zs : List Int) (x y : Int) (w : World) (h : IsRow .i64 w a len cap zs) (hx : -9223372036854775808 ≤ x ∧ x ≤ 9223372036854775807) (hy : -9223372036854775808 ≤ y ∧ y ≤ 9223372036854775807) :
    Calls Try.prog 17 #[.slice a len cap, .int .i64 x, .int .i64 y] w fun e w' => e = .returned (.bool true) ∧ Below w.heap.size w w' := by
  have NF1 := Lib.hid (fun w => nearFlow_any x y w)
  have NF2 := Lib.hid (fun w => nearFlow_any y x w)
  have hn := near_fits x
  have hm := near_fits y
  generalize nearN x = n at *
  generalize nearN y = m at *
  go_enter Try.func17, Try.ntmps17
  go_wp2_with fail
  refine (matches_any a len cap zs 30 _ (IsRow.rd h) (IsRow.len_cap h) (by omega)).mono ?_
  rintro e w1 ⟨v, ms, rfl, HO, hok, hlen, hb1⟩; (repeat (with_reducible (replace hb1 := Below.undrew hb1))); obtain ⟨hc1, hf1⟩ := bcell hb1; have hz1 := hb1.size; (repeat (first | rw [World.size_alloc] at hz1 | rw [World.size_drew] at hz1 | rw [World.size_setCell] at hz1)); (try have : w.heap.size < w1.heap.size := by omega); (try have : w.heap.size < w1.heap.size + 1 := by omega); (try have : w.heap.size < w1.heap.size + 1 + 1 := by omega); (try have : w.heap.size < w1.heap.size + 1 + 1 + 1 := by omega)
  have HFM := Lib.hid (Own.form HO)
  obtain ⟨a1, cap1, rfl, hcap1, hcap2⟩ := HO.sl.shape
  rw [List.length_map] at HO hcap1 ⊢
  have HOK := Lib.hid hok
  have HS := Lib.hid HO.sl
  clear hok h HO
  go_wp2_with fail
  go_loopw [8, 9] (fun v i wr => ∃ j : Nat, j ≤ ms.length ∧ i = .int .i64 j ∧ Hid (Own wr w1.heap.size 78 9 v (((ms.take j).map MatchD.turned).map matchCells)) ∧ Below w1.heap.size w1 wr) (fun _ i _ => ms.length - (intOf i).toNat)
  case atStart => exact ⟨0, Nat.zero_le _, rfl, Own.nil _ _ _ _, Below.refl _ _⟩
  case round =>
    obtain ⟨j, hj, rfl, HO, hbr⟩ := hrel
    have hzr := hbr.size
    by_cases hlt : j < ms.length
    · obtain ⟨r, hr⟩ : ∃ r, ms[j]? = some r := ⟨_, List.getElem?_eq_getElem hlt⟩
      obtain ⟨b, off, rfl, hb, d0, d1, d2, d3, d4, d5, d6, d7, d8⟩ := Sl.mat HS.out hbr hr
      have HT := Lib.hid (show (ms.take (j + 1)).map MatchD.turned = (ms.take j).map MatchD.turned ++ [r.turned] by rw [List.take_add_one, hr, List.map_append]; rfl)
      have hbz : b < wr.heap.size := by omega
      have hl : ((ms.take j).map MatchD.turned).length ≤ 30 := by simp; omega
      clear hr
      generalize (ms.take j).map MatchD.turned = ts at *
      go_wp2_with fail
      refine with_tail (A := fun v' w5 => Own w5 w1.heap.size 78 9 v' ((ts ++ [r.turned]).map matchCells) ∧ Below w1.heap.size w1 w5) ?T ?one ?two
      case one =>
        intro tail
        go_region_law (first
          | (refine step_append_rows rfl (.tmp 28) (.tmp 45) 66 78 9 72 _ rfl eiMatch w1.heap.size _ (ts.map matchCells) rfl (by ((repeat (first | (with_reducible refine Own.alloc ?_ _) | (with_reducible refine Own.dr ?_))); exact HO.out)) _ [matchCells r.turned] rfl (sl_new (by simp) rfl) (by intro c hc; simp at hc; subst hc; exact matchCells_one _) (by simp; omega) (by decide) (by simp; omega) ?_
             intro v' w5 hown' hb5))
        all_goals go_simp
        all_goals exact tail _ _ ⟨by rw [List.map_append, List.map_singleton]; exact hown', Below.trans (by (repeat' (first | (with_reducible exact Below.refl _ _) | (with_reducible assumption) | (with_reducible refine Below.alloc ?_ ?_ _) | (with_reducible refine Below.drew ?_) | (with_reducible refine Below.stepG ?_ (by assumption) ?_) | (with_reducible refine Below.setCell ?_ ?_ _) | omega | (dsimp only; omega) | (simp; done) | (simp; omega)))) hb5⟩
      case two =>
        rintro v' w5 ⟨hown', hb5⟩
        have HO5 := Lib.hid hown'
        clear hown'
        go_wp2
        go_roundw
        case rel => exact ⟨j + 1, by omega, by go_num, by rw [HT.out]; exact HO5, hb5⟩
        case measure => simp [intOf]; omega
    · obtain rfl : j = ms.length := by omega
      have HO2 := HO.out
      rw [List.take_length] at HO2
      have hokT : ∀ q ∈ ms.map MatchD.turned, MatchD.ok q := fun q hq => by
        obtain ⟨z, hz, rfl⟩ := List.mem_map.1 hq
        exact MatchD.turned_ok (HOK.out z hz)
      have hlT : (ms.map MatchD.turned).length = ms.length := by simp
      obtain ⟨hct1, hct2⟩ := class_turned ms n m
      have HHT := Lib.hid (hids_turned (l := (ms.take 10)) (fun q hq => HOK.out q (List.mem_of_mem_take hq)))
      have FM2 := Own.form HO2
      obtain ⟨a4, cap4, hv4, hcap5, hcap6⟩ := HO2.sl.shape
      rw [List.length_map] at hv4
      subst hv4
      have HSo := Lib.hid HO2.sl
      have hbw : Below w.heap.size w wr := hb1.trans (hbr.mono hz1)
      have hzw := hbw.size
      have HS4 := Lib.hid (HS.out.below hbr)
      have C1 := Lib.hid (fun w hs => classed_any a1 cap1 ms n m w hs (by omega) HOK.out hn hm)
      have C2 := Lib.hid (fun w hs => classed_any a4 cap4 (ms.map MatchD.turned) m n w hs (by omega) hokT hm hn)
      rw [hct1, hct2] at C2
      have HOKT := Lib.hid hokT
      generalize classC ms n m = cc at *
      generalize classI ms n m = i1 at *
      obtain ⟨ts, hts⟩ : ∃ x, x = ms.map MatchD.turned := ⟨_, rfl⟩
      rw [← hts] at hlT C2 HSo HOKT HO2 FM2 hcap5 ⊢
      have HTS := Lib.hid hts
      rw [List.length_map] at hcap5
      clear hts hct1 hct2 hokT HO HO2 hn hm hbr hb1 HS hzr
      clear hc1 hf1 hz1
      obtain ⟨p, hp⟩ : ∃ p, p = min ms.length 10 := ⟨_, rfl⟩
      have hm1 : min (ms.length : Int) 10 = (p : Int) := by omega
      have hm2 : min (ts.length : Int) 10 = (p : Int) := by rw [hlT]; omega
      have hpl : p ≤ ms.length := by omega
      have hpt : p ≤ ts.length := by omega
      have hp10 : p ≤ 10 := by omega
      have hpc1 : p ≤ cap1 := by omega
      have hpc4 : p ≤ cap4 := by omega
      have hq0 : (0 : Int) ≤ (p : Int) := by omega
      have HP := Lib.hid hp
      clear hp
      have i1' : ∀ w, (Instr.slice 66 (.slice a1 ms.length cap1) none (some (.int .i64 (p : Int))) none).run Try.prog w = .ok (.slice a1 p cap1) w := by
        intro w
        rcases HFM.out with ⟨hv, he⟩ | ⟨g1, cp1, hv, h5, h6⟩
        · simp only [Value.slice.injEq] at hv
          obtain ⟨rfl, h5, rfl⟩ := hv
          have h0 : ms.length = 0 := by rw [List.length_map] at h5; exact h5
          obtain rfl : p = 0 := by (have := HP.out; omega)
          rw [h0]
          first | rfl | kernel_rfl
        · simp only [Value.slice.injEq] at hv
          obtain ⟨rfl, _, rfl⟩ := hv
          go_simp
      have i2' : ∀ w, (Instr.slice 66 (.slice a4 ts.length cap4) none (some (.int .i64 (p : Int))) none).run Try.prog w = .ok (.slice a4 p cap4) w := by
        intro w
        rcases FM2 with ⟨hv, he⟩ | ⟨g1, cp1, hv, h5, h6⟩
        · simp only [Value.slice.injEq] at hv
          obtain ⟨rfl, h5, rfl⟩ := hv
          have h0 : ts.length = 0 := h5
          obtain rfl : p = 0 := by omega
          rw [h0]
          first | rfl | kernel_rfl
        · simp only [Value.slice.injEq] at hv
          obtain ⟨rfl, _, rfl⟩ := hv
          go_simp
      have T1 := Lib.hid (show Sl wr 9 (.slice a1 p cap1) ((ms.take p).map matchCells) by
        rw [List.map_take]; exact HS4.out.take p (by simpa using hpl))
      have T2 := Lib.hid (show Sl wr 9 (.slice a4 p cap4) ((ts.take p).map matchCells) by
        rw [List.map_take]; exact HSo.out.take p (by simpa using hpt))
      have HEQ : Hid (hids (ts.take p) (ts.take p).length = hids (ms.take p) (ms.take p).length) := by
        show _ = _
        rw [HTS.out, ← List.map_take]
        exact hids_turned (l := ms.take p) (fun q hq => HOK.out q (List.mem_of_mem_take hq))
      have LM := Lib.hid (show (ms.take p).length = p by simp; omega)
      have LT := Lib.hid (show (ts.take p).length = p by simp; omega)
      have D1 := Lib.hid (fun a cap (xs : List MatchD) w (hx : xs = ms.take p) hs => hidden_any a cap xs w hs (by rw [hx, LM.out]; omega) (fun q hq => HOK.out q (List.mem_of_mem_take (by rw [hx] at hq; exact hq))))
      have D2 := Lib.hid (fun a cap (xs : List MatchD) w (hx : xs = ts.take p) hs => hidden_any a cap xs w hs (by rw [hx, LT.out]; omega) (fun q hq => HOKT.out q (List.mem_of_mem_take (by rw [hx] at hq; exact hq))))
      clear HOK HOKT HTS HFM FM2 HHT hlT hcap5 hcap6
      generalize ms.take p = mp at *
      generalize ts.take p = tq at *
      go_wp2_with (first | ((with_reducible refine (NF1.out _).mono ?_); rintro e w2 ⟨rfl, hb2⟩; (repeat (with_reducible (replace hb2 := Below.undrew hb2))); obtain ⟨hc2, hf2⟩ := bcell hb2; have hz2 := hb2.size; (repeat (first | rw [World.size_alloc] at hz2 | rw [World.size_drew] at hz2 | rw [World.size_setCell] at hz2)); (try have : w.heap.size < w2.heap.size := by omega); (try have : w.heap.size < w2.heap.size + 1 := by omega); (try have : w.heap.size < w2.heap.size + 1 + 1 := by omega); (try have : w.heap.size < w2.heap.size + 1 + 1 + 1 := by omega); (try have : w1.heap.size < w2.heap.size := by omega); (try have : w1.heap.size < w2.heap.size + 1 := by omega); (try have : w1.heap.size < w2.heap.size + 1 + 1 := by omega); (try have : w1.heap.size < w2.heap.size + 1 + 1 + 1 := by omega); (try have : wr.heap.size < w2.heap.size := by omega); (try have : wr.heap.size < w2.heap.size + 1 := by omega); (try have : wr.heap.size < w2.heap.size + 1 + 1 := by omega); (try have : wr.heap.size < w2.heap.size + 1 + 1 + 1 := by omega)))
      refine (C1.out _ (HS4.out.below (by (repeat' (first | (with_reducible exact Below.refl _ _) | (with_reducible assumption) | (with_reducible refine Below.alloc ?_ ?_ _) | (with_reducible refine Below.drew ?_) | (with_reducible refine Below.stepG ?_ (by assumption) ?_) | (with_reducible refine Below.setCell ?_ ?_ _) | omega | (dsimp only; omega) | (simp; done) | (simp; omega)))))).mono ?_; rintro e w3 ⟨rfl, hb3⟩; (repeat (with_reducible (replace hb3 := Below.undrew hb3))); obtain ⟨hc3, hf3⟩ := bcell hb3; have hz3 := hb3.size; (repeat (first | rw [World.size_alloc] at hz3 | rw [World.size_drew] at hz3 | rw [World.size_setCell] at hz3)); (try have : w.heap.size < w3.heap.size := by omega); (try have : w.heap.size < w3.heap.size + 1 := by omega); (try have : w.heap.size < w3.heap.size + 1 + 1 := by omega); (try have : w.heap.size < w3.heap.size + 1 + 1 + 1 := by omega); (try have : w1.heap.size < w3.heap.size := by omega); (try have : w1.heap.size < w3.heap.size + 1 := by omega); (try have : w1.heap.size < w3.heap.size + 1 + 1 := by omega); (try have : w1.heap.size < w3.heap.size + 1 + 1 + 1 := by omega); (try have : wr.heap.size < w3.heap.size := by omega); (try have : wr.heap.size < w3.heap.size + 1 := by omega); (try have : wr.heap.size < w3.heap.size + 1 + 1 := by omega); (try have : wr.heap.size < w3.heap.size + 1 + 1 + 1 := by omega); (try have : w2.heap.size < w3.heap.size := by omega); (try have : w2.heap.size < w3.heap.size + 1 := by omega); (try have : w2.heap.size < w3.heap.size + 1 + 1 := by omega); (try have : w2.heap.size < w3.heap.size + 1 + 1 + 1 := by omega)
      go_wp2_with (first | ((with_reducible refine (NF2.out _).mono ?_); rintro e w4 ⟨rfl, hb4⟩; (repeat (with_reducible (replace hb4 := Below.undrew hb4))); obtain ⟨hc4, hf4⟩ := bcell hb4; have hz4 := hb4.size; (repeat (first | rw [World.size_alloc] at hz4 | rw [World.size_drew] at hz4 | rw [World.size_setCell] at hz4)); (try have : w.heap.size < w4.heap.size := by omega); (try have : w.heap.size < w4.heap.size + 1 := by omega); (try have : w.heap.size < w4.heap.size + 1 + 1 := by omega); (try have : w.heap.size < w4.heap.size + 1 + 1 + 1 := by omega); (try have : w1.heap.size < w4.heap.size := by omega); (try have : w1.heap.size < w4.heap.size + 1 := by omega); (try have : w1.heap.size < w4.heap.size + 1 + 1 := by omega); (try have : w1.heap.size < w4.heap.size + 1 + 1 + 1 := by omega); (try have : wr.heap.size < w4.heap.size := by omega); (try have : wr.heap.size < w4.heap.size + 1 := by omega); (try have : wr.heap.size < w4.heap.size + 1 + 1 := by omega); (try have : wr.heap.size < w4.heap.size + 1 + 1 + 1 := by omega); (try have : w2.heap.size < w4.heap.size := by omega); (try have : w2.heap.size < w4.heap.size + 1 := by omega); (try have : w2.heap.size < w4.heap.size + 1 + 1 := by omega); (try have : w2.heap.size < w4.heap.size + 1 + 1 + 1 := by omega); (try have : w3.heap.size < w4.heap.size := by omega); (try have : w3.heap.size < w4.heap.size + 1 := by omega); (try have : w3.heap.size < w4.heap.size + 1 + 1 := by omega); (try have : w3.heap.size < w4.heap.size + 1 + 1 + 1 := by omega)))
      refine (C2.out _ (HSo.out.below (by (repeat' (first | (with_reducible exact Below.refl _ _) | (with_reducible assumption) | (with_reducible refine Below.alloc ?_ ?_ _) | (with_reducible refine Below.drew ?_) | (with_reducible refine Below.stepG ?_ (by assumption) ?_) | (with_reducible refine Below.setCell ?_ ?_ _) | omega | (dsimp only; omega) | (simp; done) | (simp; omega)))))).mono ?_; rintro e w5 ⟨rfl, hb5⟩; (repeat (with_reducible (replace hb5 := Below.undrew hb5))); obtain ⟨hc5, hf5⟩ := bcell hb5; have hz5 := hb5.size; (repeat (first | rw [World.size_alloc] at hz5 | rw [World.size_drew] at hz5 | rw [World.size_setCell] at hz5)); (try have : w.heap.size < w5.heap.size := by omega); (try have : w.heap.size < w5.heap.size + 1 := by omega); (try have : w.heap.size < w5.heap.size + 1 + 1 := by omega); (try have : w.heap.size < w5.heap.size + 1 + 1 + 1 := by omega); (try have : w1.heap.size < w5.heap.size := by omega); (try have : w1.heap.size < w5.heap.size + 1 := by omega); (try have : w1.heap.size < w5.heap.size + 1 + 1 := by omega); (try have : w1.heap.size < w5.heap.size + 1 + 1 + 1 := by omega); (try have : wr.heap.size < w5.heap.size := by omega); (try have : wr.heap.size < w5.heap.size + 1 := by omega); (try have : wr.heap.size < w5.heap.size + 1 + 1 := by omega); (try have : wr.heap.size < w5.heap.size + 1 + 1 + 1 := by omega); (try have : w2.heap.size < w5.heap.size := by omega); (try have : w2.heap.size < w5.heap.size + 1 := by omega); (try have : w2.heap.size < w5.heap.size + 1 + 1 := by omega); (try have : w2.heap.size < w5.heap.size + 1 + 1 + 1 := by omega); (try have : w3.heap.size < w5.heap.size := by omega); (try have : w3.heap.size < w5.heap.size + 1 := by omega); (try have : w3.heap.size < w5.heap.size + 1 + 1 := by omega); (try have : w3.heap.size < w5.heap.size + 1 + 1 + 1 := by omega); (try have : w4.heap.size < w5.heap.size := by omega); (try have : w4.heap.size < w5.heap.size + 1 := by omega); (try have : w4.heap.size < w5.heap.size + 1 + 1 := by omega); (try have : w4.heap.size < w5.heap.size + 1 + 1 + 1 := by omega)
      go_wp2_with (at_builtin; refine stop_at ?_; intro G hG)
      have T15 := Lib.hid (T1.out.below (w' := w5) (by (repeat' (first | (with_reducible exact Below.refl _ _) | (with_reducible assumption) | (with_reducible refine Below.alloc ?_ ?_ _) | (with_reducible refine Below.drew ?_) | (with_reducible refine Below.stepG ?_ (by assumption) ?_) | (with_reducible refine Below.setCell ?_ ?_ _) | omega | (dsimp only; omega) | (simp; done) | (simp; omega)))))
      have T25 := Lib.hid (T2.out.below (w' := w5) (by (repeat' (first | (with_reducible exact Below.refl _ _) | (with_reducible assumption) | (with_reducible refine Below.alloc ?_ ?_ _) | (with_reducible refine Below.drew ?_) | (with_reducible refine Below.stepG ?_ (by assumption) ?_) | (with_reducible refine Below.setCell ?_ ?_ _) | omega | (dsimp only; omega) | (simp; done) | (simp; omega)))))
      have hbA : Below w.heap.size w w5 := by (repeat' (first | (with_reducible exact Below.refl _ _) | (with_reducible assumption) | (with_reducible refine Below.alloc ?_ ?_ _) | (with_reducible refine Below.drew ?_) | (with_reducible refine Below.stepG ?_ (by assumption) ?_) | (with_reducible refine Below.setCell ?_ ?_ _) | omega | (dsimp only; omega) | (simp; done) | (simp; omega)))
      have hzA := hbA.size
      clear T1 T2 C1 C2 HS4 HSo NF1 NF2 hb2 hb3 hb4 hb5 hbw hc2 hc3 hc4 hc5 hf2 hf3 hf4 hf5
      rw [← hG.out]; clear hG G
      refine wpList_append_any rfl _ _ 66 78 9 72 _ rfl eiMatch w5.heap.size _ ((([] : List MatchD)).map matchCells) rfl (Own.nil _ _ _ _) _ ((mp).map matchCells) rfl (T15.out) (by intro c hc; obtain ⟨r, _, rfl⟩ := List.mem_map.1 hc; exact matchCells_one r) (by have := LM.out; first | omega | (simp; omega)) (by decide) (by first | omega | (simp; done) | (simp; omega)) ?_
      intro v6 w6 hown6 hb6
      rw [← List.map_append] at hown6
      obtain ⟨xs6, hxs6⟩ : ∃ x : List MatchD, x = (([] : List MatchD)) ++ (mp) := ⟨_, rfl⟩
      rw [← hxs6] at hown6
      have hl6 : xs6.length = (([] : List MatchD)).length + (mp).length := by rw [hxs6, List.length_append]
      have HX6 := Lib.hid hxs6
      clear hxs6
      have HL6 := Lib.hid hl6
      clear hl6
      obtain ⟨a6, cap6, rfl⟩ := hown6.shape
      rw [List.length_map] at hown6 ⊢
      have HO6 := Lib.hid hown6
      clear hown6
      obtain ⟨hc6, hf6⟩ := bcellB hb6; have hz6 := hb6.size; (repeat (first | rw [World.size_alloc] at hz6 | rw [World.size_drew] at hz6 | rw [World.size_setCell] at hz6)); (try have : w.heap.size < w6.heap.size := by omega); (try have : w.heap.size < w6.heap.size + 1 := by omega); (try have : w.heap.size < w6.heap.size + 1 + 1 := by omega); (try have : w.heap.size < w6.heap.size + 1 + 1 + 1 := by omega); (try have : w1.heap.size < w6.heap.size := by omega); (try have : w1.heap.size < w6.heap.size + 1 := by omega); (try have : w1.heap.size < w6.heap.size + 1 + 1 := by omega); (try have : w1.heap.size < w6.heap.size + 1 + 1 + 1 := by omega); (try have : wr.heap.size < w6.heap.size := by omega); (try have : wr.heap.size < w6.heap.size + 1 := by omega); (try have : wr.heap.size < w6.heap.size + 1 + 1 := by omega); (try have : wr.heap.size < w6.heap.size + 1 + 1 + 1 := by omega); (try have : w2.heap.size < w6.heap.size := by omega); (try have : w2.heap.size < w6.heap.size + 1 := by omega); (try have : w2.heap.size < w6.heap.size + 1 + 1 := by omega); (try have : w2.heap.size < w6.heap.size + 1 + 1 + 1 := by omega); (try have : w3.heap.size < w6.heap.size := by omega); (try have : w3.heap.size < w6.heap.size + 1 := by omega); (try have : w3.heap.size < w6.heap.size + 1 + 1 := by omega); (try have : w3.heap.size < w6.heap.size + 1 + 1 + 1 := by omega); (try have : w4.heap.size < w6.heap.size := by omega); (try have : w4.heap.size < w6.heap.size + 1 := by omega); (try have : w4.heap.size < w6.heap.size + 1 + 1 := by omega); (try have : w4.heap.size < w6.heap.size + 1 + 1 + 1 := by omega); (try have : w5.heap.size < w6.heap.size := by omega); (try have : w5.heap.size < w6.heap.size + 1 := by omega); (try have : w5.heap.size < w6.heap.size + 1 + 1 := by omega); (try have : w5.heap.size < w6.heap.size + 1 + 1 + 1 := by omega)
      have e6 : xs6 = mp := by rw [HX6.out]; rfl
      have E6 := Lib.hid e6
      clear e6 HL6 HX6
      go_wp2_with fail
      refine (D1.out _ _ xs6 _ E6.out HO6.out.sl).mono ?_
      rintro e w7 ⟨v7, rfl, hown7, hb7⟩
      have hbx : Below w.heap.size w w6 := hbA.trans (hb6.mono hzA)
      have T26 := Lib.hid (T25.out.below hb6)
      rw [E6.out] at hown7
      obtain ⟨hv1, hhv1⟩ : ∃ x, x = hids mp mp.length := ⟨_, rfl⟩
      rw [← hhv1] at hown7
      have HV1 := Lib.hid hhv1
      have hh1 : hv1.length ≤ 10 := by rw [hhv1]; exact Nat.le_trans (hids_len _ _) (by have := LM.out; omega)
      clear hhv1
      obtain ⟨a7, cap7, rfl, _, _⟩ := hown7.sl.shape
      rw [List.length_map] at hown7 ⊢
      have HW7 := Lib.hid hown7
      have hbx7 : Below w.heap.size w w7 := hbx.trans (hb7.mono hbx.size)
      have T27 := Lib.hid (T26.out.below hb7)
      have hz7 := hbx7.size
      clear hown7 hb7 hbx hb6 hc6 hf6 hbA T15 T25 T26 HO6 D1
      go_wp2_with (at_builtin; refine stop_at ?_; intro G hG)
      rw [← hG.out]; clear hG G
      refine wpList_append_any rfl _ _ 66 78 9 72 _ rfl eiMatch w7.heap.size _ ((([] : List MatchD)).map matchCells) rfl (Own.nil _ _ _ _) _ ((tq).map matchCells) rfl (T27.out) (by intro c hc; obtain ⟨r, _, rfl⟩ := List.mem_map.1 hc; exact matchCells_one r) (by have := LT.out; first | omega | (simp; omega)) (by decide) (by first | omega | (simp; done) | (simp; omega)) ?_
      intro v8 w8 hown8 hb8
      rw [← List.map_append] at hown8
      obtain ⟨xs8, hxs8⟩ : ∃ x : List MatchD, x = (([] : List MatchD)) ++ (tq) := ⟨_, rfl⟩
      rw [← hxs8] at hown8
      have hl8 : xs8.length = (([] : List MatchD)).length + (tq).length := by rw [hxs8, List.length_append]
      have HX8 := Lib.hid hxs8
      clear hxs8
      have HL8 := Lib.hid hl8
      clear hl8
      obtain ⟨a8, cap8, rfl⟩ := hown8.shape
      rw [List.length_map] at hown8 ⊢
      have HO8 := Lib.hid hown8
      clear hown8
      obtain ⟨hc8, hf8⟩ := bcellB hb8; have hz8 := hb8.size; (repeat (first | rw [World.size_alloc] at hz8 | rw [World.size_drew] at hz8 | rw [World.size_setCell] at hz8)); (try have : w.heap.size < w8.heap.size := by omega); (try have : w.heap.size < w8.heap.size + 1 := by omega); (try have : w.heap.size < w8.heap.size + 1 + 1 := by omega); (try have : w.heap.size < w8.heap.size + 1 + 1 + 1 := by omega); (try have : w1.heap.size < w8.heap.size := by omega); (try have : w1.heap.size < w8.heap.size + 1 := by omega); (try have : w1.heap.size < w8.heap.size + 1 + 1 := by omega); (try have : w1.heap.size < w8.heap.size + 1 + 1 + 1 := by omega); (try have : wr.heap.size < w8.heap.size := by omega); (try have : wr.heap.size < w8.heap.size + 1 := by omega); (try have : wr.heap.size < w8.heap.size + 1 + 1 := by omega); (try have : wr.heap.size < w8.heap.size + 1 + 1 + 1 := by omega); (try have : w2.heap.size < w8.heap.size := by omega); (try have : w2.heap.size < w8.heap.size + 1 := by omega); (try have : w2.heap.size < w8.heap.size + 1 + 1 := by omega); (try have : w2.heap.size < w8.heap.size + 1 + 1 + 1 := by omega); (try have : w3.heap.size < w8.heap.size := by omega); (try have : w3.heap.size < w8.heap.size + 1 := by omega); (try have : w3.heap.size < w8.heap.size + 1 + 1 := by omega); (try have : w3.heap.size < w8.heap.size + 1 + 1 + 1 := by omega); (try have : w4.heap.size < w8.heap.size := by omega); (try have : w4.heap.size < w8.heap.size + 1 := by omega); (try have : w4.heap.size < w8.heap.size + 1 + 1 := by omega); (try have : w4.heap.size < w8.heap.size + 1 + 1 + 1 := by omega); (try have : w5.heap.size < w8.heap.size := by omega); (try have : w5.heap.size < w8.heap.size + 1 := by omega); (try have : w5.heap.size < w8.heap.size + 1 + 1 := by omega); (try have : w5.heap.size < w8.heap.size + 1 + 1 + 1 := by omega)
      have e8 : xs8 = tq := by rw [HX8.out]; rfl
      have E8 := Lib.hid e8
      clear e8 HL8 HX8
      go_wp2_with fail
      refine (D2.out _ _ xs8 _ E8.out HO8.out.sl).mono ?_
      rintro e w9 ⟨v9, rfl, hown9, hb9⟩
      rw [E8.out, HEQ.out, ← HV1.out] at hown9
      obtain ⟨a9, cap9, rfl, _, _⟩ := hown9.sl.shape
      rw [List.length_map] at hown9 ⊢
      have HW9 := Lib.hid hown9
      have HW79 := Lib.hid ((HW7.out.sl.below hb8).below hb9)
      have hbx9 : Below w.heap.size w w9 := (hbx7.trans (hb8.mono hz7)).trans (hb9.mono (Nat.le_trans hz7 hb8.size))
      clear hown9 hb9 hb8 hc8 hf8 HO8 D2 HEQ HV1 HW7 T27
      have SI := Lib.hid (sameInts_any a7 a9 cap7 cap9 hv1 w9 HW79.out HW9.out.sl (by omega))
      go_wp2_with fail
      refine SI.out.mono ?_
      rintro e w10 ⟨rfl, hb10⟩
      have hbe : Below w.heap.size w w10 := hbx9.trans (hb10.mono hbx9.size)
      go_wp2
      all_goals go_returns
      all_goals exact ⟨rfl, hbe⟩
end Go.Proofs.Ytlcacocecdnpnaa
