
/- The laws' maker of vias. -/
import Derived.Test.YtllemhknmleklaaVia3
import Derived.Test.YtllemhknmleklaaRules
set_option linter.unusedVariables false
namespace Go.Proofs.Ytllemhknmleklaa
open Go.RowKit Go.Sort Wc Wk

/-- Vias of the hops 1, 2, .. -/
def ViasOk (vs : List ViaD) : Prop := ∀ i v, vs[i]? = some v → v.hop = i + 1 ∧ v.port ≤ 30 ∧ v.next ≤ 22 ∧ ((v.port = 0 ∧ 1 ≤ v.next) ∨ (1 ≤ v.port ∧ v.next = 0))
theorem ViasOk.snoc {vs : List ViaD} (h : ViasOk vs) {v : ViaD} (h1 : v.hop = vs.length + 1) (h2 : v.port ≤ 30) (h3 : v.next ≤ 22) (h4 : (v.port = 0 ∧ 1 ≤ v.next) ∨ (1 ≤ v.port ∧ v.next = 0)) : ViasOk (vs ++ [v]) := by
  intro i u hu
  rcases Nat.lt_or_ge i vs.length with hi | hi
  · rw [List.getElem?_append_left hi] at hu; exact h i u hu
  · rw [List.getElem?_append_right hi] at hu
    have : i - vs.length = 0 := by
      have := (List.getElem?_eq_some_iff.1 hu).1
      simp at this; omega
    rw [this] at hu
    simp at hu
    subst hu
    exact ⟨by omega, h2, h3, h4⟩
theorem ViasOk.ok {vs : List ViaD} (h : ViasOk vs) (hl : vs.length ≤ 60) : ∀ v ∈ vs, v.ok := by
  intro v hv
  obtain ⟨i, hi, he⟩ := List.getElem_of_mem hv
  obtain ⟨a, b, c, d⟩ := h i v (by rw [List.getElem?_eq_getElem hi, he])
  unfold ViaD.ok
  omega
theorem ViasOk.apart {vs : List ViaD} (h : ViasOk vs) : hopsApart vs := by
  unfold hopsApart
  rw [List.pairwise_iff_getElem]
  intro i j hi hj hij
  have a := (h i _ (List.getElem?_eq_getElem hi)).1
  have b := (h j _ (List.getElem?_eq_getElem hj)).1
  omega
/-- It returns vias in a slice of its own. -/
def RetVias (w : World) (n : Nat) (r : Ending) (w' : World) : Prop := ∃ (v : Value) (vs : List ViaD), r = .returned v ∧ Own w' w.heap.size 76 3 v (vs.map viaCells) ∧ ViasOk vs ∧ vs.length ≤ 20 ∧ (vs = [] → n = 0) ∧ Below w.heap.size w w'


set_option maxRecDepth 100000 in
set_option maxHeartbeats 4000000 in
theorem vias_any (a : Option Addr) (len cap : Nat) (zs : List Int) (n : Int) (w : World) (h : IsRow .i64 w a len cap zs) (hn : -9223372036854775808 ≤ n ∧ n ≤ 9223372036854775807) :
    Calls Try.prog 25 #[.slice a len cap, .int .i64 n] w (RetVias w len) := by
  obtain ⟨hlm, hlz⟩ := h.len_le
  have P0 := Lib.hid (fun w => picked_any n 20 w (by decide) (by decide))
  have n0 := Int.emod_nonneg n (show (20 : Int) ≠ 0 by decide)
  have n1 := Int.emod_lt_of_pos n (show (0 : Int) < 20 by decide)
  obtain ⟨kk, hkk⟩ := Int.eq_ofNat_of_zero_le n0
  rw [hkk] at P0 n1
  clear n0 hkk
  go_enter Try.func25, Try.ntmps25
  go_wp2_with (first | ((with_reducible refine (P0.out _).mono ?_); rintro e w' ⟨rfl, rfl⟩))
  go_loopw [5, 7] (fun v i wr => ∃ k : Nat, k ≤ len ∧ k ≤ kk + 1 ∧ i = .int .i64 k ∧ (∃ vs : List ViaD, vs.length = k ∧ ViasOk vs ∧ Own wr w.heap.size 76 3 v (vs.map viaCells)) ∧ Below w.heap.size w wr) (fun _ i _ => len - (intOf i).toNat)
  case atStart => exact ⟨0, Nat.zero_le _, Nat.zero_le _, rfl, ⟨[], rfl, fun i v h => by simp at h, Own.nil _ _ _ _⟩, Below.refl _ _⟩
  case round =>
    obtain ⟨k, hk, hkn, rfl, ⟨vs, hvl, hvs, hown⟩, hbr⟩ := hrel
    have hzr := hbr.size
    by_cases hlt : k < len
    · by_cases hlt2 : k < kk + 1
      · obtain ⟨b, off, rfl, hb, hcs⟩ := h.opened (by omega)
        obtain ⟨hc, x0, x1⟩ := hcs k hlt
        have hcr := (hbr.cell (p := ⟨b, off + k, none⟩) hb).trans hc
        generalize zs.getD k 0 = x at *
        have HV := Lib.hid hvs
        have HO := Lib.hid hown
        have HK := Lib.hid hvl
        clear hcs hc hvs hown hvl
        have hbw : b < wr.heap.size := by omega
        have E3 := Lib.hid (show IntKind.i64.wrap (x.tdiv 3) = x.tdiv 3 from wrap_tdiv x 3 ⟨x0, x1⟩)
        have D1 := Lib.hid (fun w => picked_any (x.tdiv 3) 30 w (by decide) (by decide))
        have a0 := Int.emod_nonneg (x.tdiv 3) (show (30 : Int) ≠ 0 by decide)
        have a1 := Int.emod_lt_of_pos (x.tdiv 3) (show (0 : Int) < 30 by decide)
        obtain ⟨d1, hd1⟩ := Int.eq_ofNat_of_zero_le a0
        rw [hd1] at D1 a1
        clear hd1 a0
        have D2 := Lib.hid (fun w => picked_any x 3 w (by decide) (by decide))
        have a0 := Int.emod_nonneg x (show (3 : Int) ≠ 0 by decide)
        obtain ⟨d2, hd2⟩ := Int.eq_ofNat_of_zero_le a0
        rw [hd2] at D2
        clear hd2 a0
        have D3 := Lib.hid (fun w => picked_any (x.tdiv 3) (1 + (kk : Int) + 2) w (by omega) (by omega))
        have a0 := Int.emod_nonneg (x.tdiv 3) (show (1 + (kk : Int) + 2) ≠ 0 by omega)
        have a3 := Int.emod_lt_of_pos (x.tdiv 3) (show (0 : Int) < 1 + (kk : Int) + 2 by omega)
        obtain ⟨d3, hd3⟩ := Int.eq_ofNat_of_zero_le a0
        rw [hd3] at D3 a3
        clear hd3 a0
        have hd : d2 = 0 ∨ 0 < d2 := by omega
        rcases hd with rfl | hd
        · go_wp2_with (first | ((with_reducible refine (D1.out _).mono ?_); rintro e w' ⟨rfl, rfl⟩) | ((with_reducible refine (D2.out _).mono ?_); rintro e w' ⟨rfl, rfl⟩) | (at_builtin; refine stop_at ?_; intro G hG))
          rw [← hG.out]; clear hG G
          refine wpList_append_any rfl _ _ 69 76 3 24 _ rfl eiVia w.heap.size _ ((vs).map viaCells) rfl (by ((repeat (first | (with_reducible refine Wk.Own.alloc ?_ _) | (with_reducible refine Wk.Own.dr ?_))); exact HO.out)) _ (([(⟨k + 1, 1 + d1, 0⟩ : ViaD)]).map viaCells) rfl (sl_via1 (⟨k + 1, 1 + d1, 0⟩ : ViaD) (by simp)) (by intro c hc; obtain ⟨r, _, rfl⟩ := List.mem_map.1 hc; exact viaCells_one r) (by have := HK.out; first | omega | (simp; omega)) (by decide) (by first | omega | (simp; done) | (simp; omega)) ?_
          intro v4 w4 hown4 hb4
          rw [← List.map_append] at hown4
          obtain ⟨xs4, hxs4⟩ : ∃ x : List ViaD, x = (vs) ++ ([(⟨k + 1, 1 + d1, 0⟩ : ViaD)]) := ⟨_, rfl⟩
          rw [← hxs4] at hown4
          have hl4 : xs4.length = (vs).length + ([(⟨k + 1, 1 + d1, 0⟩ : ViaD)]).length := by rw [hxs4, List.length_append]
          have HX4 := Lib.hid hxs4
          clear hxs4
          have HL4 := Lib.hid hl4
          clear hl4
          obtain ⟨a4, cap4, rfl⟩ := hown4.shape
          rw [List.length_map] at hown4 ⊢
          have HO4 := Lib.hid hown4
          clear hown4
          obtain ⟨hc4, hf4⟩ := bcellB hb4; have hz4 := hb4.size; (repeat (first | rw [World.size_alloc] at hz4 | rw [World.size_drew] at hz4 | rw [World.size_setCell] at hz4)); (try have : b < w4.heap.size := by omega); (try have : b < w4.heap.size + 1 := by omega); (try have : b < w4.heap.size + 1 + 1 := by omega); (try have : b < w4.heap.size + 1 + 1 + 1 := by omega); (try have : wr.heap.size < w4.heap.size := by omega); (try have : wr.heap.size < w4.heap.size + 1 := by omega); (try have : wr.heap.size < w4.heap.size + 1 + 1 := by omega); (try have : wr.heap.size < w4.heap.size + 1 + 1 + 1 := by omega); (try have : w1.heap.size < w4.heap.size := by omega); (try have : w1.heap.size < w4.heap.size + 1 := by omega); (try have : w1.heap.size < w4.heap.size + 1 + 1 := by omega); (try have : w1.heap.size < w4.heap.size + 1 + 1 + 1 := by omega); (try have : w2.heap.size < w4.heap.size := by omega); (try have : w2.heap.size < w4.heap.size + 1 := by omega); (try have : w2.heap.size < w4.heap.size + 1 + 1 := by omega); (try have : w2.heap.size < w4.heap.size + 1 + 1 + 1 := by omega)
          have hvs4 : ViasOk xs4 := by rw [HX4.out]; exact HV.out.snoc (by have := HK.out; (first | omega | (simp; done) | (simp; omega))) (by (first | omega | (simp; done) | (simp; omega))) (by (first | omega | (simp; done) | (simp; omega))) (by (first | omega | (simp; done) | (simp; omega)))
          have hl4 : xs4.length = k + 1 := by have := HK.out; have := HL4.out; simp at this; omega
          have hown4 := HO4.out
          rw [hl4] at hown4
          clear HV HO HK
          go_wp2
          go_roundw
          case rel => exact ⟨k + 1, by omega, by omega, by go_num, ⟨xs4, hl4, hvs4, hown4⟩, by (repeat' (first | (with_reducible exact Below.refl _ _) | (with_reducible assumption) | (with_reducible refine Below.alloc ?_ ?_ _) | (with_reducible refine Below.drew ?_) | (with_reducible refine Below.stepG ?_ (by assumption) ?_) | (with_reducible refine Below.setCell ?_ ?_ _) | omega | (dsimp only; omega) | (simp; done) | (simp; omega)))⟩
          case measure => simp [intOf]; omega
        · go_wp2_with (first | ((with_reducible refine (D1.out _).mono ?_); rintro e w' ⟨rfl, rfl⟩) | ((with_reducible refine (D2.out _).mono ?_); rintro e w' ⟨rfl, rfl⟩) | ((with_reducible refine (D3.out _).mono ?_); rintro e w' ⟨rfl, rfl⟩) | (at_builtin; refine stop_at ?_; intro G hG))
          rw [← hG.out]; clear hG G
          refine wpList_append_any rfl _ _ 69 76 3 24 _ rfl eiVia w.heap.size _ ((vs).map viaCells) rfl (by ((repeat (first | (with_reducible refine Wk.Own.alloc ?_ _) | (with_reducible refine Wk.Own.dr ?_))); exact HO.out)) _ (([(⟨k + 1, 0, 1 + d3⟩ : ViaD)]).map viaCells) rfl (sl_via1 (⟨k + 1, 0, 1 + d3⟩ : ViaD) (by simp)) (by intro c hc; obtain ⟨r, _, rfl⟩ := List.mem_map.1 hc; exact viaCells_one r) (by have := HK.out; first | omega | (simp; omega)) (by decide) (by first | omega | (simp; done) | (simp; omega)) ?_
          intro v4 w4 hown4 hb4
          rw [← List.map_append] at hown4
          obtain ⟨xs4, hxs4⟩ : ∃ x : List ViaD, x = (vs) ++ ([(⟨k + 1, 0, 1 + d3⟩ : ViaD)]) := ⟨_, rfl⟩
          rw [← hxs4] at hown4
          have hl4 : xs4.length = (vs).length + ([(⟨k + 1, 0, 1 + d3⟩ : ViaD)]).length := by rw [hxs4, List.length_append]
          have HX4 := Lib.hid hxs4
          clear hxs4
          have HL4 := Lib.hid hl4
          clear hl4
          obtain ⟨a4, cap4, rfl⟩ := hown4.shape
          rw [List.length_map] at hown4 ⊢
          have HO4 := Lib.hid hown4
          clear hown4
          obtain ⟨hc4, hf4⟩ := bcellB hb4; have hz4 := hb4.size; (repeat (first | rw [World.size_alloc] at hz4 | rw [World.size_drew] at hz4 | rw [World.size_setCell] at hz4)); (try have : b < w4.heap.size := by omega); (try have : b < w4.heap.size + 1 := by omega); (try have : b < w4.heap.size + 1 + 1 := by omega); (try have : b < w4.heap.size + 1 + 1 + 1 := by omega); (try have : wr.heap.size < w4.heap.size := by omega); (try have : wr.heap.size < w4.heap.size + 1 := by omega); (try have : wr.heap.size < w4.heap.size + 1 + 1 := by omega); (try have : wr.heap.size < w4.heap.size + 1 + 1 + 1 := by omega); (try have : w1.heap.size < w4.heap.size := by omega); (try have : w1.heap.size < w4.heap.size + 1 := by omega); (try have : w1.heap.size < w4.heap.size + 1 + 1 := by omega); (try have : w1.heap.size < w4.heap.size + 1 + 1 + 1 := by omega); (try have : w2.heap.size < w4.heap.size := by omega); (try have : w2.heap.size < w4.heap.size + 1 := by omega); (try have : w2.heap.size < w4.heap.size + 1 + 1 := by omega); (try have : w2.heap.size < w4.heap.size + 1 + 1 + 1 := by omega)
          have hvs4 : ViasOk xs4 := by rw [HX4.out]; exact HV.out.snoc (by have := HK.out; (first | omega | (simp; done) | (simp; omega))) (by (first | omega | (simp; done) | (simp; omega))) (by (first | omega | (simp; done) | (simp; omega))) (by (first | omega | (simp; done) | (simp; omega)))
          have hl4 : xs4.length = k + 1 := by have := HK.out; have := HL4.out; simp at this; omega
          have hown4 := HO4.out
          rw [hl4] at hown4
          clear HV HO HK
          go_wp2
          go_roundw
          case rel => exact ⟨k + 1, by omega, by omega, by go_num, ⟨xs4, hl4, hvs4, hown4⟩, by (repeat' (first | (with_reducible exact Below.refl _ _) | (with_reducible assumption) | (with_reducible refine Below.alloc ?_ ?_ _) | (with_reducible refine Below.drew ?_) | (with_reducible refine Below.stepG ?_ (by assumption) ?_) | (with_reducible refine Below.setCell ?_ ?_ _) | omega | (dsimp only; omega) | (simp; done) | (simp; omega)))⟩
          case measure => simp [intOf]; omega
      · have hd : decide ((k : Int) < 1 + kk) = false := by (first | omega | (simp; done) | (simp; omega))
        go_wp2
        go_returns
        exact ⟨_, vs, rfl, hown, hvs, by omega, by rintro rfl; simp at hvl; omega, hbr⟩
    · have hd : decide ((k : Int) < len) = false := by (first | omega | (simp; done) | (simp; omega))
      go_wp2
      all_goals go_returns
      all_goals exact ⟨_, vs, rfl, hown, hvs, by omega, by rintro rfl; simp at hvl; omega, hbr⟩
end Go.Proofs.Ytllemhknmleklaa
