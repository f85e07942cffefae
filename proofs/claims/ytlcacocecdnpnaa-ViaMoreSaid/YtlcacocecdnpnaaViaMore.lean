
/- ViaMore: the walk. -/
import Derived.Test.YtlcacocecdnpnaaViaPlain
import Derived.Test.YtlcacocecdnpnaaVias
set_option linter.unusedVariables false
namespace Go.Proofs.Ytlcacocecdnpnaa
open Go.RowKit Go.Sort Wc Wk

theorem viaAt_more {vs : List ViaD} {u : ViaD} {x : Nat} (h : x ≠ u.hop) : viaAt (vs ++ [u]) x = viaAt vs x := by
  unfold viaAt
  rw [List.find?_append]
  have : ([u].find? fun v => decide ((v.hop : Int) = (x : Int))) = none := by
    rw [List.find?_eq_none]
    intro v hv
    simp at hv
    subst hv
    simp only [decide_eq_true_eq]
    omega
  rw [this]
  simp
theorem portW_more {vs : List ViaD} {u : ViaD} (hn : ∀ v ∈ vs, v.next ≠ u.hop) : ∀ (f : Nat) (s : List Nat) (x : Nat), x ≠ u.hop → portW (vs ++ [u]) f s x = portW vs f s x
  | 0, _, _, _ => rfl
  | f + 1, s, x, hx => by
    have e := viaAt_more (vs := vs) hx
    cases hv : viaAt vs x with
    | none => rw [hv] at e; rw [portW_none hv, portW_none e]
    | some v =>
      rw [hv] at e
      rw [portW_some hv, portW_some e, portW_more hn f (s ++ [x]) v.next (hn v (viaAt_mem hv).1)]
theorem viaAt_last {vs : List ViaD} {u : ViaD} (hn : ∀ v ∈ vs, v.hop ≠ u.hop) : viaAt (vs ++ [u]) u.hop = some u := by
  unfold viaAt
  rw [List.find?_append]
  have : (vs.find? fun v => decide ((v.hop : Int) = (u.hop : Int))) = none := by
    rw [List.find?_eq_none]
    intro v hv
    have := hn v hv
    simp only [decide_eq_true_eq]
    omega
  rw [this]
  simp


set_option maxRecDepth 100000 in
set_option maxHeartbeats 4000000 in
theorem viaMore_walk (a : Option Addr) (len cap : Nat) (zs : List Int) (n at_ port : Int) (w : World) (h : IsRow .i64 w a len cap zs) (hn : -9223372036854775808 ≤ n ∧ n ≤ 9223372036854775807) (ha : -9223372036854775808 ≤ at_ ∧ at_ ≤ 9223372036854775807) (hp : -9223372036854775808 ≤ port ∧ port ≤ 9223372036854775807) :
    Calls Try.prog 4 #[.slice a len cap, .int .i64 n, .int .i64 at_, .int .i64 port] w fun e w' => e = .returned (.bool true) ∧ Below w.heap.size w w' := by
  have Q1 := Lib.hid (fun w => picked_any at_ 20 w (by decide) (by decide))
  have q0 := Int.emod_nonneg at_ (show (20 : Int) ≠ 0 by decide)
  have q1 := Int.emod_lt_of_pos at_ (show (0 : Int) < 20 by decide)
  obtain ⟨k, hk⟩ := Int.eq_ofNat_of_zero_le q0
  rw [hk] at Q1 q1
  have Q2 := Lib.hid (fun w => picked_any port 30 w (by decide) (by decide))
  have r0 := Int.emod_nonneg port (show (30 : Int) ≠ 0 by decide)
  have r1 := Int.emod_lt_of_pos port (show (0 : Int) < 30 by decide)
  obtain ⟨P, hP⟩ := Int.eq_ofNat_of_zero_le r0
  rw [hP] at Q2 r1
  clear hk hP q0 r0
  go_enter Try.func4, Try.ntmps4
  go_wp2_with fail
  refine (vias_any a len cap zs n _ h hn).mono ?_
  rintro e w1 ⟨v, vs, rfl, HO, hvs, hlen, _, hb1⟩; (repeat (with_reducible (replace hb1 := Below.undrew hb1))); obtain ⟨hc1, hf1⟩ := bcell hb1; have hz1 := hb1.size; (repeat (first | rw [World.size_alloc] at hz1 | rw [World.size_drew] at hz1 | rw [World.size_setCell] at hz1)); (try have : w.heap.size < w1.heap.size := by omega); (try have : w.heap.size < w1.heap.size + 1 := by omega); (try have : w.heap.size < w1.heap.size + 1 + 1 := by omega); (try have : w.heap.size < w1.heap.size + 1 + 1 + 1 := by omega)
  obtain ⟨a1, cap1, rfl, hcap1, hcap2⟩ := HO.sl.shape
  rw [List.length_map] at HO hcap1 ⊢
  have hH : ∀ v ∈ vs, v.hop ≤ 20 ∧ v.next ≤ 22 := by
    intro v hv
    obtain ⟨i, hi, he⟩ := List.getElem_of_mem hv
    have := hvs i v (by rw [List.getElem?_eq_getElem hi, he])
    omega
  have A1 := Lib.hid (fun w (hb : Below w1.heap.size w1 w) => portOf_any a1 cap1 (1 + k) vs w (HO.sl.below hb) (by omega) (hvs.ok (by omega)) hvs.apart (by omega))
  have X1 := Lib.hid (portW_more (vs := vs) (u := ⟨500, 1 + P, 0⟩) (fun v hv => by have := (hH v hv).2; show v.next ≠ 500; omega) 10 [] (1 + k) (by show 1 + k ≠ 500; omega))
  have X2 := Lib.hid (viaAt_last (vs := vs) (u := ⟨500, 1 + P, 0⟩) (fun v hv => by have := (hH v hv).1; show v.hop ≠ 500; omega))
  have hC := portW_code vs 10 [] (1 + k) rfl
  have M1 : Hid (∀ m ∈ vs ++ [(⟨500, 1 + P, 0⟩ : ViaD)], m.ok) := by
    intro m hm
    rcases List.mem_append.1 hm with h | h
    · exact hvs.ok (by omega) m h
    · simp at h; subst h; unfold ViaD.ok; dsimp only; omega
  have M2 : Hid (hopsApart (vs ++ [(⟨500, 1 + P, 0⟩ : ViaD)])) := by
    unfold hopsApart
    rw [List.pairwise_append]
    refine ⟨hvs.apart, by simp, fun v hv u hu => ?_⟩
    simp at hu; subst hu
    have := (hH v hv).1
    show v.hop ≠ 500; omega
  have HV := Lib.hid HO
  clear hH hvs h HO
  generalize hR : portW vs 10 [] (1 + k) = R at *
  have HR := Lib.hid hR
  obtain ⟨p, d, e⟩ := R
  unfold port3 at A1
  dsimp only at A1 hC
  rw [show ((1 + k : Nat) : Int) = 1 + (k : Int) from by omega] at A1
  have he3 : (((e : Int) != 3) = true) := by rw [bne_iff_ne]; omega
  clear hR hC
  go_wp2_with (at_builtin; refine stop_at ?_; intro G hG)
  rw [← hG.out]; clear hG G
  refine wpList_append_any rfl _ _ 23 29 3 24 _ rfl eiVia (w1.heap.size) _ ((([] : List ViaD)).map viaCells) rfl (Own.nil _ _ _ _) _ ((vs).map viaCells) rfl (HV.out.sl.below (by (repeat' (first | (with_reducible exact Below.refl _ _) | (with_reducible assumption) | (with_reducible refine Below.alloc ?_ ?_ _) | (with_reducible refine Below.drew ?_) | (with_reducible refine Below.stepG ?_ (by assumption) ?_) | (with_reducible refine Below.setCell ?_ ?_ _) | omega | (dsimp only; omega) | (simp; done) | (simp; omega))))) (by intro c hc; obtain ⟨r, _, rfl⟩ := List.mem_map.1 hc; exact viaCells_one r) (by skip; first | omega | (simp; omega)) (by decide) (by first | omega | (simp; done) | (simp; omega)) ?_
  intro v2 w2 hown2 hb2
  rw [← List.map_append] at hown2
  obtain ⟨xs2, hxs2⟩ : ∃ x : List ViaD, x = (([] : List ViaD)) ++ (vs) := ⟨_, rfl⟩
  rw [← hxs2] at hown2
  have hl2 : xs2.length = (([] : List ViaD)).length + (vs).length := by rw [hxs2, List.length_append]
  have HX2 := Lib.hid hxs2
  clear hxs2
  have HL2 := Lib.hid hl2
  clear hl2
  obtain ⟨a2, cap2, rfl⟩ := hown2.shape
  rw [List.length_map] at hown2 ⊢
  have HO2 := Lib.hid hown2
  clear hown2
  obtain ⟨hc2, hf2⟩ := bcellB hb2; have hz2 := hb2.size; (repeat (first | rw [World.size_alloc] at hz2 | rw [World.size_drew] at hz2 | rw [World.size_setCell] at hz2)); (try have : w.heap.size < w2.heap.size := by omega); (try have : w.heap.size < w2.heap.size + 1 := by omega); (try have : w.heap.size < w2.heap.size + 1 + 1 := by omega); (try have : w.heap.size < w2.heap.size + 1 + 1 + 1 := by omega); (try have : w1.heap.size < w2.heap.size := by omega); (try have : w1.heap.size < w2.heap.size + 1 := by omega); (try have : w1.heap.size < w2.heap.size + 1 + 1 := by omega); (try have : w1.heap.size < w2.heap.size + 1 + 1 + 1 := by omega); (try have : w1.heap.size + 1 < w2.heap.size := by omega); (try have : w1.heap.size + 1 < w2.heap.size + 1 := by omega); (try have : w1.heap.size + 1 < w2.heap.size + 1 + 1 := by omega); (try have : w1.heap.size + 1 < w2.heap.size + 1 + 1 + 1 := by omega)
  obtain rfl : xs2 = vs := by rw [HX2.out]; rfl
  go_wp2_with (first | ((with_reducible refine (Q2.out _).mono ?_); rintro e w' ⟨rfl, rfl⟩) | (at_builtin; refine stop_at ?_; intro G hG))
  rw [← hG.out]; clear hG G
  refine wpList_append_any rfl _ _ 23 29 3 24 _ rfl eiVia (w1.heap.size) _ ((xs2).map viaCells) rfl (by ((repeat (first | (with_reducible refine Own.alloc ?_ _) | (with_reducible refine Own.dr ?_))); exact HO2.out)) _ (([(⟨500, 1 + P, 0⟩ : ViaD)]).map viaCells) rfl (sl_via1 ⟨500, 1 + P, 0⟩ (by simp)) (by intro c hc; obtain ⟨r, _, rfl⟩ := List.mem_map.1 hc; exact viaCells_one r) (by skip; first | omega | (simp; omega)) (by decide) (by first | omega | (simp; done) | (simp; omega)) ?_
  intro v3 w3 hown3 hb3
  rw [← List.map_append] at hown3
  obtain ⟨xs3, hxs3⟩ : ∃ x : List ViaD, x = (xs2) ++ ([(⟨500, 1 + P, 0⟩ : ViaD)]) := ⟨_, rfl⟩
  rw [← hxs3] at hown3
  have hl3 : xs3.length = (xs2).length + ([(⟨500, 1 + P, 0⟩ : ViaD)]).length := by rw [hxs3, List.length_append]
  have HX3 := Lib.hid hxs3
  clear hxs3
  have HL3 := Lib.hid hl3
  clear hl3
  obtain ⟨a3, cap3, rfl⟩ := hown3.shape
  rw [List.length_map] at hown3 ⊢
  have HO3 := Lib.hid hown3
  clear hown3
  obtain ⟨hc3, hf3⟩ := bcellB hb3; have hz3 := hb3.size; (repeat (first | rw [World.size_alloc] at hz3 | rw [World.size_drew] at hz3 | rw [World.size_setCell] at hz3)); (try have : w.heap.size < w3.heap.size := by omega); (try have : w.heap.size < w3.heap.size + 1 := by omega); (try have : w.heap.size < w3.heap.size + 1 + 1 := by omega); (try have : w.heap.size < w3.heap.size + 1 + 1 + 1 := by omega); (try have : w1.heap.size < w3.heap.size := by omega); (try have : w1.heap.size < w3.heap.size + 1 := by omega); (try have : w1.heap.size < w3.heap.size + 1 + 1 := by omega); (try have : w1.heap.size < w3.heap.size + 1 + 1 + 1 := by omega); (try have : w1.heap.size + 1 < w3.heap.size := by omega); (try have : w1.heap.size + 1 < w3.heap.size + 1 := by omega); (try have : w1.heap.size + 1 < w3.heap.size + 1 + 1 := by omega); (try have : w1.heap.size + 1 < w3.heap.size + 1 + 1 + 1 := by omega); (try have : w2.heap.size < w3.heap.size := by omega); (try have : w2.heap.size < w3.heap.size + 1 := by omega); (try have : w2.heap.size < w3.heap.size + 1 + 1 := by omega); (try have : w2.heap.size < w3.heap.size + 1 + 1 + 1 := by omega)
  have hl3 : xs3.length ≤ 60 := by have := HL3.out; simp only [List.length_singleton] at this; omega
  have HX3' := Lib.hid HX3.out
  have B1 := Lib.hid (fun w hs => portOf_any a3 cap3 (1 + k) xs3 w hs hl3 (by rw [HX3.out]; exact M1.out) (by rw [HX3.out]; exact M2.out) (by omega))
  have B2 := Lib.hid (fun w hs => portOf_any a3 cap3 500 xs3 w hs hl3 (by rw [HX3.out]; exact M1.out) (by rw [HX3.out]; exact M2.out) (by omega))
  rw [show portW xs3 10 [] (1 + k) = (p, d, e) by rw [HX3.out, X1.out]] at B1
  rw [show portW xs3 10 [] 500 = (1 + P, 0, 0) by rw [HX3.out]; exact portW_port X2.out (by show 0 < 1 + P; omega)] at B2
  unfold port3 at B1 B2
  dsimp only at B1 B2
  rw [show ((1 + k : Nat) : Int) = 1 + (k : Int) from by omega] at B1
  rw [show ((1 + P : Nat) : Int) = 1 + (P : Int) from by omega] at B2
  go_wp2_with (first | ((with_reducible refine (Q1.out _).mono ?_); rintro e w' ⟨rfl, rfl⟩) | fail)
  refine (A1.out _ (by (repeat' (first | (with_reducible exact Below.refl _ _) | (with_reducible assumption) | (with_reducible refine Below.alloc ?_ ?_ _) | (with_reducible refine Below.drew ?_) | (with_reducible refine Below.stepG ?_ (by assumption) ?_) | (with_reducible refine Below.setCell ?_ ?_ _) | omega | (dsimp only; omega) | (simp; done) | (simp; omega))))).mono ?_; rintro e w4 ⟨rfl, hb4⟩; (repeat (with_reducible (replace hb4 := Below.undrew hb4))); obtain ⟨hc4, hf4⟩ := bcell hb4; have hz4 := hb4.size; (repeat (first | rw [World.size_alloc] at hz4 | rw [World.size_drew] at hz4 | rw [World.size_setCell] at hz4)); (try have : w.heap.size < w4.heap.size := by omega); (try have : w.heap.size < w4.heap.size + 1 := by omega); (try have : w.heap.size < w4.heap.size + 1 + 1 := by omega); (try have : w.heap.size < w4.heap.size + 1 + 1 + 1 := by omega); (try have : w1.heap.size < w4.heap.size := by omega); (try have : w1.heap.size < w4.heap.size + 1 := by omega); (try have : w1.heap.size < w4.heap.size + 1 + 1 := by omega); (try have : w1.heap.size < w4.heap.size + 1 + 1 + 1 := by omega); (try have : w1.heap.size + 1 < w4.heap.size := by omega); (try have : w1.heap.size + 1 < w4.heap.size + 1 := by omega); (try have : w1.heap.size + 1 < w4.heap.size + 1 + 1 := by omega); (try have : w1.heap.size + 1 < w4.heap.size + 1 + 1 + 1 := by omega); (try have : w2.heap.size < w4.heap.size := by omega); (try have : w2.heap.size < w4.heap.size + 1 := by omega); (try have : w2.heap.size < w4.heap.size + 1 + 1 := by omega); (try have : w2.heap.size < w4.heap.size + 1 + 1 + 1 := by omega); (try have : w3.heap.size < w4.heap.size := by omega); (try have : w3.heap.size < w4.heap.size + 1 := by omega); (try have : w3.heap.size < w4.heap.size + 1 + 1 := by omega); (try have : w3.heap.size < w4.heap.size + 1 + 1 + 1 := by omega)
  go_wp2_with fail
  refine (B1.out _ (HO3.out.sl.below (by (repeat' (first | (with_reducible exact Below.refl _ _) | (with_reducible assumption) | (with_reducible refine Below.alloc ?_ ?_ _) | (with_reducible refine Below.drew ?_) | (with_reducible refine Below.stepG ?_ (by assumption) ?_) | (with_reducible refine Below.setCell ?_ ?_ _) | omega | (dsimp only; omega) | (simp; done) | (simp; omega)))))).mono ?_; rintro e w5 ⟨rfl, hb5⟩; (repeat (with_reducible (replace hb5 := Below.undrew hb5))); obtain ⟨hc5, hf5⟩ := bcell hb5; have hz5 := hb5.size; (repeat (first | rw [World.size_alloc] at hz5 | rw [World.size_drew] at hz5 | rw [World.size_setCell] at hz5)); (try have : w.heap.size < w5.heap.size := by omega); (try have : w.heap.size < w5.heap.size + 1 := by omega); (try have : w.heap.size < w5.heap.size + 1 + 1 := by omega); (try have : w.heap.size < w5.heap.size + 1 + 1 + 1 := by omega); (try have : w1.heap.size < w5.heap.size := by omega); (try have : w1.heap.size < w5.heap.size + 1 := by omega); (try have : w1.heap.size < w5.heap.size + 1 + 1 := by omega); (try have : w1.heap.size < w5.heap.size + 1 + 1 + 1 := by omega); (try have : w1.heap.size + 1 < w5.heap.size := by omega); (try have : w1.heap.size + 1 < w5.heap.size + 1 := by omega); (try have : w1.heap.size + 1 < w5.heap.size + 1 + 1 := by omega); (try have : w1.heap.size + 1 < w5.heap.size + 1 + 1 + 1 := by omega); (try have : w2.heap.size < w5.heap.size := by omega); (try have : w2.heap.size < w5.heap.size + 1 := by omega); (try have : w2.heap.size < w5.heap.size + 1 + 1 := by omega); (try have : w2.heap.size < w5.heap.size + 1 + 1 + 1 := by omega); (try have : w3.heap.size < w5.heap.size := by omega); (try have : w3.heap.size < w5.heap.size + 1 := by omega); (try have : w3.heap.size < w5.heap.size + 1 + 1 := by omega); (try have : w3.heap.size < w5.heap.size + 1 + 1 + 1 := by omega); (try have : w4.heap.size < w5.heap.size := by omega); (try have : w4.heap.size < w5.heap.size + 1 := by omega); (try have : w4.heap.size < w5.heap.size + 1 + 1 := by omega); (try have : w4.heap.size < w5.heap.size + 1 + 1 + 1 := by omega)
  go_wp2_with fail
  refine (B2.out _ (HO3.out.sl.below (by (repeat' (first | (with_reducible exact Below.refl _ _) | (with_reducible assumption) | (with_reducible refine Below.alloc ?_ ?_ _) | (with_reducible refine Below.drew ?_) | (with_reducible refine Below.stepG ?_ (by assumption) ?_) | (with_reducible refine Below.setCell ?_ ?_ _) | omega | (dsimp only; omega) | (simp; done) | (simp; omega)))))).mono ?_; rintro e w6 ⟨rfl, hb6⟩; (repeat (with_reducible (replace hb6 := Below.undrew hb6))); obtain ⟨hc6, hf6⟩ := bcell hb6; have hz6 := hb6.size; (repeat (first | rw [World.size_alloc] at hz6 | rw [World.size_drew] at hz6 | rw [World.size_setCell] at hz6)); (try have : w.heap.size < w6.heap.size := by omega); (try have : w.heap.size < w6.heap.size + 1 := by omega); (try have : w.heap.size < w6.heap.size + 1 + 1 := by omega); (try have : w.heap.size < w6.heap.size + 1 + 1 + 1 := by omega); (try have : w1.heap.size < w6.heap.size := by omega); (try have : w1.heap.size < w6.heap.size + 1 := by omega); (try have : w1.heap.size < w6.heap.size + 1 + 1 := by omega); (try have : w1.heap.size < w6.heap.size + 1 + 1 + 1 := by omega); (try have : w1.heap.size + 1 < w6.heap.size := by omega); (try have : w1.heap.size + 1 < w6.heap.size + 1 := by omega); (try have : w1.heap.size + 1 < w6.heap.size + 1 + 1 := by omega); (try have : w1.heap.size + 1 < w6.heap.size + 1 + 1 + 1 := by omega); (try have : w2.heap.size < w6.heap.size := by omega); (try have : w2.heap.size < w6.heap.size + 1 := by omega); (try have : w2.heap.size < w6.heap.size + 1 + 1 := by omega); (try have : w2.heap.size < w6.heap.size + 1 + 1 + 1 := by omega); (try have : w3.heap.size < w6.heap.size := by omega); (try have : w3.heap.size < w6.heap.size + 1 := by omega); (try have : w3.heap.size < w6.heap.size + 1 + 1 := by omega); (try have : w3.heap.size < w6.heap.size + 1 + 1 + 1 := by omega); (try have : w4.heap.size < w6.heap.size := by omega); (try have : w4.heap.size < w6.heap.size + 1 := by omega); (try have : w4.heap.size < w6.heap.size + 1 + 1 := by omega); (try have : w4.heap.size < w6.heap.size + 1 + 1 + 1 := by omega); (try have : w5.heap.size < w6.heap.size := by omega); (try have : w5.heap.size < w6.heap.size + 1 := by omega); (try have : w5.heap.size < w6.heap.size + 1 + 1 := by omega); (try have : w5.heap.size < w6.heap.size + 1 + 1 + 1 := by omega)
  go_wp2_with (first | ((with_reducible refine (Q2.out _).mono ?_); rintro e w' ⟨rfl, rfl⟩))
  all_goals go_returns
  all_goals exact ⟨rfl, by (repeat' (first | (with_reducible exact Below.refl _ _) | (with_reducible assumption) | (with_reducible refine Below.alloc ?_ ?_ _) | (with_reducible refine Below.drew ?_) | (with_reducible refine Below.stepG ?_ (by assumption) ?_) | (with_reducible refine Below.setCell ?_ ?_ _) | omega | (dsimp only; omega) | (simp; done) | (simp; omega)))⟩
end Go.Proofs.Ytlcacocecdnpnaa
