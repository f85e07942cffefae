
/- OffersAgain: the walk. -/
import Derived.Test.YtllemhknmleklaaOf8
import Derived.Test.YtllemhknmleklaaOf7
set_option linter.unusedVariables false
set_option linter.unusedSimpArgs false
namespace Go.Proofs.Ytllemhknmleklaa
open Go.RowKit Go.Sort Wc Wk

theorem run_of_drop (g p n c : Nat) (h1 : p ≤ n) (h2 : n ≤ c) (h3 : c ≤ 9223372036854775807) (hne : c ≠ p) (W : World) : (Instr.slice 79 (.slice (some ⟨g, 0, none⟩) n c) (some (.int .i64 (p : Int))) none none).run Try.prog W = .ok (.slice (some ⟨g, 0 + p * 8, none⟩) (n - p) (c - p)) W := by
  have h4 : p ≤ c := by omega
  have h5 : (0 : Int) ≤ p := by omega
  go_simp
theorem bids_ok (bs : List BidD) (n : Nat) : ∀ o ∈ (bs.take n).map bidO, o.ok := by
  intro o ho
  obtain ⟨b, _, rfl⟩ := List.mem_map.1 ho
  exact bidO_ok b
theorem bids_len (bs : List BidD) (n : Nat) : ((bs.take n).map bidO).length ≤ n := by
  rw [List.length_map, List.length_take]; omega
/-- The last one once more: what is asked of it. -/
def Agn (os : List OfD) (W : World) (v : Value) : Prop := ∃ (ms : List OfD) (a : Option Addr) (c : Nat), v = .slice a ms.length c ∧ Sl W 8 (.slice a ms.length c) (ms.map ofCells) ∧ ms.length ≤ 1 ∧ (∀ o ∈ os ++ ms, o.ok) ∧ ∀ o, o ∈ liveL (os ++ ms) ↔ o ∈ liveL os


set_option maxRecDepth 100000 in
set_option maxHeartbeats 4000000 in
theorem offersAgain_walk (a0 : Option Addr) (len0 cap0 : Nat) (z0 : List BidD) (n : Int) (w : World) (h0 : IsBids w a0 len0 cap0 z0) (hn : -9223372036854775808 ≤ n ∧ n ≤ 9223372036854775807) :
    Calls Try.prog 8 #[.slice a0 len0 cap0, .int .i64 n] w fun e w' => e = .returned (.bool true) ∧ Below w.heap.size w w' := by
  have P0 := Lib.hid (fun w => picked_any n 1 w (by decide) (by decide))
  rw [Int.emod_one] at P0
  go_enter Try.func8, Try.ntmps8
  go_wp2_with fail
  refine (offers_any a0 len0 cap0 z0 60 w h0 (by decide)).mono ?_
  rintro e w1 ⟨v1, rfl, HO1, hb1⟩; (repeat (with_reducible (replace hb1 := Below.undrew hb1))); obtain ⟨hc1, hf1⟩ := bcell hb1; have hz1 := hb1.size; (repeat (first | rw [World.size_alloc] at hz1 | rw [World.size_drew] at hz1 | rw [World.size_setCell] at hz1)); (try have : w.heap.size < w1.heap.size := by omega); (try have : w.heap.size < w1.heap.size + 1 := by omega); (try have : w.heap.size < w1.heap.size + 1 + 1 := by omega); (try have : w.heap.size < w1.heap.size + 1 + 1 + 1 := by omega)
  have HOK := Lib.hid (bids_ok z0 60)
  have hol := bids_len z0 60
  generalize (z0.take 60).map bidO = os at *
  obtain ⟨a1, cap1, rfl⟩ := HO1.shape
  rw [List.length_map] at HO1 ⊢
  have HO1 := Lib.hid HO1
  go_wp2_with fail
  refine (bestOf_any a1 cap1 os w1 HO1.out.sl (by omega) HOK.out).mono ?_
  rintro e w2 ⟨v2, xs, rfl, HO2, HR2, hl2, hb2⟩; (repeat (with_reducible (replace hb2 := Below.undrew hb2))); obtain ⟨hc2, hf2⟩ := bcell hb2; have hz2 := hb2.size; (repeat (first | rw [World.size_alloc] at hz2 | rw [World.size_drew] at hz2 | rw [World.size_setCell] at hz2)); (try have : w.heap.size < w2.heap.size := by omega); (try have : w.heap.size < w2.heap.size + 1 := by omega); (try have : w.heap.size < w2.heap.size + 1 + 1 := by omega); (try have : w.heap.size < w2.heap.size + 1 + 1 + 1 := by omega); (try have : w1.heap.size < w2.heap.size := by omega); (try have : w1.heap.size < w2.heap.size + 1 := by omega); (try have : w1.heap.size < w2.heap.size + 1 + 1 := by omega); (try have : w1.heap.size < w2.heap.size + 1 + 1 + 1 := by omega)
  obtain ⟨a2, cap2, rfl⟩ := HO2.shape
  rw [List.length_map] at HO2 ⊢
  have HO2 := Lib.hid HO2
  have HR2 := Lib.hid HR2
  have HXK := Lib.hid (fun o ho => HOK.out o (HR2.out.met HOK.out o ho).1)
  go_wp2_with fail
  refine (bestOf_any a2 cap2 xs w2 HO2.out.sl hl2 HXK.out).mono ?_
  rintro e w3 ⟨v3, ys, rfl, HO3, HR3, hl3, hb3⟩; (repeat (with_reducible (replace hb3 := Below.undrew hb3))); obtain ⟨hc3, hf3⟩ := bcell hb3; have hz3 := hb3.size; (repeat (first | rw [World.size_alloc] at hz3 | rw [World.size_drew] at hz3 | rw [World.size_setCell] at hz3)); (try have : w.heap.size < w3.heap.size := by omega); (try have : w.heap.size < w3.heap.size + 1 := by omega); (try have : w.heap.size < w3.heap.size + 1 + 1 := by omega); (try have : w.heap.size < w3.heap.size + 1 + 1 + 1 := by omega); (try have : w1.heap.size < w3.heap.size := by omega); (try have : w1.heap.size < w3.heap.size + 1 := by omega); (try have : w1.heap.size < w3.heap.size + 1 + 1 := by omega); (try have : w1.heap.size < w3.heap.size + 1 + 1 + 1 := by omega); (try have : w2.heap.size < w3.heap.size := by omega); (try have : w2.heap.size < w3.heap.size + 1 := by omega); (try have : w2.heap.size < w3.heap.size + 1 + 1 := by omega); (try have : w2.heap.size < w3.heap.size + 1 + 1 + 1 := by omega)
  obtain rfl : xs = ys := again_law HOK.out HR2.out HR3
  obtain ⟨a3, cap3, rfl⟩ := HO3.shape
  rw [List.length_map] at HO3 ⊢
  have HO3 := Lib.hid HO3
  have HO13 := Lib.hid ((HO1.out.below hb2).below hb3)
  have HS1 := Lib.hid HO13.out.sl
  have HS2 := Lib.hid (HO2.out.below hb3).sl
  have HB3 := Lib.hid (show Below w.heap.size w w3 by (repeat' (first | (with_reducible exact Below.refl _ _) | (with_reducible assumption) | (with_reducible refine Below.alloc ?_ ?_ _) | (with_reducible refine Below.drew ?_) | (with_reducible refine Below.stepG ?_ (by assumption) ?_) | (with_reducible refine Below.setCell ?_ ?_ _) | omega | (dsimp only; omega) | (simp; done) | (simp; omega))))
  clear HR3 hb2 hb3 hb1 hc1 hf1 hc2 hf2 hc3 hf3 HO2
  go_upto_if 27 with fail
  go_cut [10] (fun v wx => Hid (Agn os w3 v) ∧ w3 = wx)
  case first =>
    by_cases hz : os.length = 0
    · have hos : os = [] := List.eq_nil_of_length_eq_zero hz
      go_wp2
      go_meet
      exact ⟨Lib.hid ⟨[], none, 0, rfl, Sl.empty _ _ _ _ (by decide), by decide, by rw [List.append_nil]; exact HOK.out, fun o => by rw [List.append_nil]⟩, rfl⟩
    · obtain ⟨l, x, hlx⟩ : ∃ l x, os = l ++ [x] := by
        rcases List.eq_nil_or_concat os with h | ⟨l, x, h⟩
        · rw [h] at hz; exact absurd rfl hz
        · exact ⟨l, x, by rw [h, List.concat_eq_append]⟩
      obtain ⟨p, hp⟩ : ∃ p, p = l.length := ⟨_, rfl⟩
      have hop : os.length = p + 1 := by rw [hlx, hp]; simp
      have hsl := HS1.out
      obtain ⟨g, c, hv, _, _, hg3, hg4, _, _⟩ := HO13.out.at (by rw [List.length_map]; omega)
      rw [List.length_map] at hv hg3
      simp only [Value.slice.injEq, true_and] at hv
      obtain ⟨rfl, rfl⟩ := hv
      have HDR : ∀ W : World, (Instr.slice 79 (.slice (some ⟨g, 0, none⟩) os.length cap1) (some (.int .i64 (p : Int))) none none).run Try.prog W = .ok (.slice (some ⟨g, 0 + p * 8, none⟩) 1 (cap1 - p)) W := fun W => by
        rw [run_of_drop g p os.length cap1 (by omega) hg3 hg4 (by omega) W, show os.length - p = 1 by omega]
      have hd := hsl.drop p (by rw [List.length_map]; omega)
      have e1 : os.drop p = [x] := by rw [hlx, hp]; simp
      rw [show os.length - p = 1 by omega, ← List.map_drop, e1] at hd
      have HA : Hid (Agn os w3 (.slice (some ⟨g, 0 + p * 8, none⟩) 1 (cap1 - p))) := ⟨[x], _, _, rfl, hd, by simp, fun o ho => by
        rcases List.mem_append.1 ho with h | h
        · exact HOK.out o h
        · rw [List.mem_singleton] at h; rw [h]; exact HOK.out x (by rw [hlx]; simp), fun o => by
          have hok := HOK.out
          rw [hlx] at hok ⊢
          exact twice_law hok o⟩
      have ew : IntKind.i64.wrap ((os.length : Int) - 1) = (p : Int) := by rw [IntKind.wrap_i64]; omega
      have ew2 : IntKind.i64.wrap (p : Int) = (p : Int) := by rw [IntKind.wrap_i64]; omega
      have hpos : (0 : Int) < os.length := by omega
      clear hd hsl e1 hlx hp hop hz hg3 hg4
      go_wp2_with (((with_reducible refine (P0.out _).mono ?_); rintro e w' ⟨rfl, rfl⟩))
      go_meet
      exact ⟨by rw [Nat.zero_add] at HA; exact HA, rfl⟩
  case rest =>
    obtain ⟨HA, rfl⟩ := hcut
    obtain ⟨ms, am, cm, rfl, hms, hm1, hmo, hml⟩ := HA.out
    have HMS := Lib.hid hms
    have HMO := Lib.hid hmo
    have HML := Lib.hid hml
    clear HA hms hmo hml
    go_wp2_with (at_builtin; refine stop_at ?_; intro G hG)
    rw [← hG.out]; clear hG G
    refine wpList_append_any rfl _ _ 79 84 8 64 _ rfl eiOf w3.heap.size _ ((([] : List OfD)).map ofCells) rfl (Own.nil _ _ _ _) _ ((os).map ofCells) rfl (HS1.out) (by intro c hc; obtain ⟨r, _, rfl⟩ := List.mem_map.1 hc; exact ofCells_one r) (by skip; first | omega | (simp; omega)) (by decide) (by first | omega | (simp; done) | (simp; omega)) ?_
    intro v4 w4 hown4 hb4
    rw [← List.map_append] at hown4
    obtain ⟨xs4, hxs4⟩ : ∃ x : List OfD, x = (([] : List OfD)) ++ (os) := ⟨_, rfl⟩
    rw [← hxs4] at hown4
    have hl4 : xs4.length = (([] : List OfD)).length + (os).length := by rw [hxs4, List.length_append]
    have HX4 := Lib.hid hxs4
    clear hxs4
    have HL4 := Lib.hid hl4
    clear hl4
    obtain ⟨a4, cap4, rfl⟩ := hown4.shape
    rw [List.length_map] at hown4 ⊢
    have HO4 := Lib.hid hown4
    clear hown4
    obtain ⟨hc4, hf4⟩ := bcellB hb4; have hz4 := hb4.size; (repeat (first | rw [World.size_alloc] at hz4 | rw [World.size_drew] at hz4 | rw [World.size_setCell] at hz4)); (try have : w.heap.size < w4.heap.size := by omega); (try have : w.heap.size < w4.heap.size + 1 := by omega); (try have : w.heap.size < w4.heap.size + 1 + 1 := by omega); (try have : w.heap.size < w4.heap.size + 1 + 1 + 1 := by omega); (try have : w1.heap.size < w4.heap.size := by omega); (try have : w1.heap.size < w4.heap.size + 1 := by omega); (try have : w1.heap.size < w4.heap.size + 1 + 1 := by omega); (try have : w1.heap.size < w4.heap.size + 1 + 1 + 1 := by omega); (try have : w2.heap.size < w4.heap.size := by omega); (try have : w2.heap.size < w4.heap.size + 1 := by omega); (try have : w2.heap.size < w4.heap.size + 1 + 1 := by omega); (try have : w2.heap.size < w4.heap.size + 1 + 1 + 1 := by omega); (try have : w3.heap.size < w4.heap.size := by omega); (try have : w3.heap.size < w4.heap.size + 1 := by omega); (try have : w3.heap.size < w4.heap.size + 1 + 1 := by omega); (try have : w3.heap.size < w4.heap.size + 1 + 1 + 1 := by omega)
    obtain rfl : xs4 = os := by rw [HX4.out]; rfl
    go_wp2_with (at_builtin; refine stop_at ?_; intro G hG)
    rw [← hG.out]; clear hG G
    refine wpList_append_any rfl _ _ 79 84 8 64 _ rfl eiOf w3.heap.size _ ((xs4).map ofCells) rfl (HO4.out) _ ((ms).map ofCells) rfl (HMS.out.below hb4) (by intro c hc; obtain ⟨r, _, rfl⟩ := List.mem_map.1 hc; exact ofCells_one r) (by skip; first | omega | (simp; omega)) (by decide) (by first | omega | (simp; done) | (simp; omega)) ?_
    intro v5 w5 hown5 hb5
    rw [← List.map_append] at hown5
    obtain ⟨xs5, hxs5⟩ : ∃ x : List OfD, x = (xs4) ++ (ms) := ⟨_, rfl⟩
    rw [← hxs5] at hown5
    have hl5 : xs5.length = (xs4).length + (ms).length := by rw [hxs5, List.length_append]
    have HX5 := Lib.hid hxs5
    clear hxs5
    have HL5 := Lib.hid hl5
    clear hl5
    obtain ⟨a5, cap5, rfl⟩ := hown5.shape
    rw [List.length_map] at hown5 ⊢
    have HO5 := Lib.hid hown5
    clear hown5
    obtain ⟨hc5, hf5⟩ := bcellB hb5; have hz5 := hb5.size; (repeat (first | rw [World.size_alloc] at hz5 | rw [World.size_drew] at hz5 | rw [World.size_setCell] at hz5)); (try have : w.heap.size < w5.heap.size := by omega); (try have : w.heap.size < w5.heap.size + 1 := by omega); (try have : w.heap.size < w5.heap.size + 1 + 1 := by omega); (try have : w.heap.size < w5.heap.size + 1 + 1 + 1 := by omega); (try have : w1.heap.size < w5.heap.size := by omega); (try have : w1.heap.size < w5.heap.size + 1 := by omega); (try have : w1.heap.size < w5.heap.size + 1 + 1 := by omega); (try have : w1.heap.size < w5.heap.size + 1 + 1 + 1 := by omega); (try have : w2.heap.size < w5.heap.size := by omega); (try have : w2.heap.size < w5.heap.size + 1 := by omega); (try have : w2.heap.size < w5.heap.size + 1 + 1 := by omega); (try have : w2.heap.size < w5.heap.size + 1 + 1 + 1 := by omega); (try have : w3.heap.size < w5.heap.size := by omega); (try have : w3.heap.size < w5.heap.size + 1 := by omega); (try have : w3.heap.size < w5.heap.size + 1 + 1 := by omega); (try have : w3.heap.size < w5.heap.size + 1 + 1 + 1 := by omega); (try have : w4.heap.size < w5.heap.size := by omega); (try have : w4.heap.size < w5.heap.size + 1 := by omega); (try have : w4.heap.size < w5.heap.size + 1 + 1 := by omega); (try have : w4.heap.size < w5.heap.size + 1 + 1 + 1 := by omega)
    have HB5 := Lib.hid (HB3.out.trans ((hb4.trans hb5).mono (by have := HB3.out.size; omega)))
    have h5 : xs5.length ≤ 100 := by have := HL5.out; omega
    have HS5 := Lib.hid HO5.out.sl
    have HX5 := HX5
    have HY2 := Lib.hid (HS2.out.below (hb4.trans hb5))
    have HY3 := Lib.hid (HO3.out.sl.below (hb4.trans hb5))
    have BB := Lib.hid (bestOf_any a5 cap5 xs5 w5 HS5.out h5 (fun v hv => HMO.out v (by have e := HX5.out; rw [e] at hv; exact hv)))
    clear hb4 hc4 hf4 hb5 hc5 hf5 HO4 HO5
    go_wp2_with fail
    refine BB.out.mono ?_
    rintro e w6 ⟨v6, zs, rfl, HO6, HR6, hl6, hb6⟩; (repeat (with_reducible (replace hb6 := Below.undrew hb6))); obtain ⟨hc6, hf6⟩ := bcell hb6; have hz6 := hb6.size; (repeat (first | rw [World.size_alloc] at hz6 | rw [World.size_drew] at hz6 | rw [World.size_setCell] at hz6)); (try have : w.heap.size < w6.heap.size := by omega); (try have : w.heap.size < w6.heap.size + 1 := by omega); (try have : w.heap.size < w6.heap.size + 1 + 1 := by omega); (try have : w.heap.size < w6.heap.size + 1 + 1 + 1 := by omega); (try have : w1.heap.size < w6.heap.size := by omega); (try have : w1.heap.size < w6.heap.size + 1 := by omega); (try have : w1.heap.size < w6.heap.size + 1 + 1 := by omega); (try have : w1.heap.size < w6.heap.size + 1 + 1 + 1 := by omega); (try have : w2.heap.size < w6.heap.size := by omega); (try have : w2.heap.size < w6.heap.size + 1 := by omega); (try have : w2.heap.size < w6.heap.size + 1 + 1 := by omega); (try have : w2.heap.size < w6.heap.size + 1 + 1 + 1 := by omega); (try have : w3.heap.size < w6.heap.size := by omega); (try have : w3.heap.size < w6.heap.size + 1 := by omega); (try have : w3.heap.size < w6.heap.size + 1 + 1 := by omega); (try have : w3.heap.size < w6.heap.size + 1 + 1 + 1 := by omega); (try have : w4.heap.size < w6.heap.size := by omega); (try have : w4.heap.size < w6.heap.size + 1 := by omega); (try have : w4.heap.size < w6.heap.size + 1 + 1 := by omega); (try have : w4.heap.size < w6.heap.size + 1 + 1 + 1 := by omega); (try have : w5.heap.size < w6.heap.size := by omega); (try have : w5.heap.size < w6.heap.size + 1 := by omega); (try have : w5.heap.size < w6.heap.size + 1 + 1 := by omega); (try have : w5.heap.size < w6.heap.size + 1 + 1 + 1 := by omega)
    obtain rfl : xs = zs := HR2.out.same HR6 (fun o => by
      have e := HX5.out
      rw [e]
      exact (HML.out o).symm)
    obtain ⟨a6, cap6, rfl⟩ := HO6.shape
    rw [List.length_map] at HO6 ⊢
    have S1 := Lib.hid (fun w7 (hb : Below w6.heap.size w6 w7) => sameOf_any a2 a3 cap2 cap3 xs.length xs w7 rfl ((HY2.out.below hb6).below hb) ((HY3.out.below hb6).below hb))
    have S2 := Lib.hid (fun w7 (hb : Below w6.heap.size w6 w7) => sameOf_any a2 a6 cap2 cap6 xs.length xs w7 rfl ((HY2.out.below hb6).below hb) (HO6.sl.below hb))
    have HB6 := Lib.hid (HB5.out.trans (hb6.mono (HB5.out.size)))
    clear hb6 hc6 hf6 BB HO6 HR6
    go_wp2_with fail
    refine (S1.out _ (Below.refl _ _)).mono ?_
    rintro e w7 ⟨rfl, hb7⟩; (repeat (with_reducible (replace hb7 := Below.undrew hb7))); obtain ⟨hc7, hf7⟩ := bcell hb7; have hz7 := hb7.size; (repeat (first | rw [World.size_alloc] at hz7 | rw [World.size_drew] at hz7 | rw [World.size_setCell] at hz7)); (try have : w.heap.size < w7.heap.size := by omega); (try have : w.heap.size < w7.heap.size + 1 := by omega); (try have : w.heap.size < w7.heap.size + 1 + 1 := by omega); (try have : w.heap.size < w7.heap.size + 1 + 1 + 1 := by omega); (try have : w1.heap.size < w7.heap.size := by omega); (try have : w1.heap.size < w7.heap.size + 1 := by omega); (try have : w1.heap.size < w7.heap.size + 1 + 1 := by omega); (try have : w1.heap.size < w7.heap.size + 1 + 1 + 1 := by omega); (try have : w2.heap.size < w7.heap.size := by omega); (try have : w2.heap.size < w7.heap.size + 1 := by omega); (try have : w2.heap.size < w7.heap.size + 1 + 1 := by omega); (try have : w2.heap.size < w7.heap.size + 1 + 1 + 1 := by omega); (try have : w3.heap.size < w7.heap.size := by omega); (try have : w3.heap.size < w7.heap.size + 1 := by omega); (try have : w3.heap.size < w7.heap.size + 1 + 1 := by omega); (try have : w3.heap.size < w7.heap.size + 1 + 1 + 1 := by omega); (try have : w4.heap.size < w7.heap.size := by omega); (try have : w4.heap.size < w7.heap.size + 1 := by omega); (try have : w4.heap.size < w7.heap.size + 1 + 1 := by omega); (try have : w4.heap.size < w7.heap.size + 1 + 1 + 1 := by omega); (try have : w5.heap.size < w7.heap.size := by omega); (try have : w5.heap.size < w7.heap.size + 1 := by omega); (try have : w5.heap.size < w7.heap.size + 1 + 1 := by omega); (try have : w5.heap.size < w7.heap.size + 1 + 1 + 1 := by omega); (try have : w6.heap.size < w7.heap.size := by omega); (try have : w6.heap.size < w7.heap.size + 1 := by omega); (try have : w6.heap.size < w7.heap.size + 1 + 1 := by omega); (try have : w6.heap.size < w7.heap.size + 1 + 1 + 1 := by omega)
    go_wp2_with fail
    refine (S2.out _ hb7).mono ?_
    rintro e w8 ⟨rfl, hb8⟩; (repeat (with_reducible (replace hb8 := Below.undrew hb8))); obtain ⟨hc8, hf8⟩ := bcell hb8; have hz8 := hb8.size; (repeat (first | rw [World.size_alloc] at hz8 | rw [World.size_drew] at hz8 | rw [World.size_setCell] at hz8)); (try have : w.heap.size < w8.heap.size := by omega); (try have : w.heap.size < w8.heap.size + 1 := by omega); (try have : w.heap.size < w8.heap.size + 1 + 1 := by omega); (try have : w.heap.size < w8.heap.size + 1 + 1 + 1 := by omega); (try have : w1.heap.size < w8.heap.size := by omega); (try have : w1.heap.size < w8.heap.size + 1 := by omega); (try have : w1.heap.size < w8.heap.size + 1 + 1 := by omega); (try have : w1.heap.size < w8.heap.size + 1 + 1 + 1 := by omega); (try have : w2.heap.size < w8.heap.size := by omega); (try have : w2.heap.size < w8.heap.size + 1 := by omega); (try have : w2.heap.size < w8.heap.size + 1 + 1 := by omega); (try have : w2.heap.size < w8.heap.size + 1 + 1 + 1 := by omega); (try have : w3.heap.size < w8.heap.size := by omega); (try have : w3.heap.size < w8.heap.size + 1 := by omega); (try have : w3.heap.size < w8.heap.size + 1 + 1 := by omega); (try have : w3.heap.size < w8.heap.size + 1 + 1 + 1 := by omega); (try have : w4.heap.size < w8.heap.size := by omega); (try have : w4.heap.size < w8.heap.size + 1 := by omega); (try have : w4.heap.size < w8.heap.size + 1 + 1 := by omega); (try have : w4.heap.size < w8.heap.size + 1 + 1 + 1 := by omega); (try have : w5.heap.size < w8.heap.size := by omega); (try have : w5.heap.size < w8.heap.size + 1 := by omega); (try have : w5.heap.size < w8.heap.size + 1 + 1 := by omega); (try have : w5.heap.size < w8.heap.size + 1 + 1 + 1 := by omega); (try have : w6.heap.size < w8.heap.size := by omega); (try have : w6.heap.size < w8.heap.size + 1 := by omega); (try have : w6.heap.size < w8.heap.size + 1 + 1 := by omega); (try have : w6.heap.size < w8.heap.size + 1 + 1 + 1 := by omega)
    go_wp2
    go_returns
    exact ⟨rfl, HB6.out.trans ((hb7.trans (hb8.mono hz7)).mono HB6.out.size)⟩
end Go.Proofs.Ytllemhknmleklaa
