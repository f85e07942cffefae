
/- Contracts of package via: Port; portOf. -/
import Derived.Test.YtllemhknmleklaaVia2
set_option linter.unusedVariables false
namespace Go.Proofs.Ytllemhknmleklaa
open Go.RowKit Go.Sort Wc Wk



set_option maxHeartbeats 2000000 in
theorem Port_any (a : Option Addr) (cap hop : Nat) (l : List ViaD) (w : World) (hs : Sl w 3 (.slice a l.length cap) (l.map viaCells)) (hlen : l.length ≤ 60) (hok : ∀ v ∈ l, v.ok) (hd : hopsApart l) (hh : hop ≤ 1000) :
    Calls Try.prog 65 #[.slice a l.length cap, .int .i64 hop] w fun e w' => e = .returned (port3 (portW l 10 [] hop)) ∧ Below w.heap.size w w' := by
  have HS := Lib.hid hs
  have P := Lib.hid (fun b n w hm => port_any b n hop l w hm hok hh)
  generalize portW l 10 [] hop = R at *
  have HOK := Lib.hid hok
  have HD := Lib.hid hd
  clear hs hok hd
  go_enter Try.func65, Try.ntmps65
  go_wp2_with fail
  refine (known_ok a cap l _ (HS.out.below (by (repeat' (first | (with_reducible exact Below.refl _ _) | (with_reducible assumption) | (with_reducible refine Below.alloc ?_ ?_ _) | (with_reducible refine Below.drew ?_) | (with_reducible refine Below.stepG ?_ (by assumption) ?_) | (with_reducible refine Below.setCell ?_ ?_ _) | omega | (dsimp only; omega) | (simp; done) | (simp; omega))))) hlen HOK.out HD.out).mono ?_
  rintro e w1 ⟨b, rfl, hm, hb, hb1⟩; (repeat (with_reducible (replace hb1 := Below.undrew hb1))); obtain ⟨hc1, hf1⟩ := bcell hb1; have hz1 := hb1.size; (repeat (first | rw [World.size_alloc] at hz1 | rw [World.size_drew] at hz1 | rw [World.size_setCell] at hz1)); (try have : w.heap.size < w1.heap.size := by omega); (try have : w.heap.size < w1.heap.size + 1 := by omega); (try have : w.heap.size < w1.heap.size + 1 + 1 := by omega); (try have : w.heap.size < w1.heap.size + 1 + 1 + 1 := by omega)
  go_wp2_with fail
  refine (P.out b _ _ hm).mono ?_
  rintro e w2 ⟨rfl, hb2⟩
  unfold port3
  go_wp2
  go_returns
  exact ⟨rfl, by (repeat' (first | (with_reducible exact Below.refl _ _) | (with_reducible assumption) | (with_reducible refine Below.alloc ?_ ?_ _) | (with_reducible refine Below.drew ?_) | (with_reducible refine Below.stepG ?_ (by assumption) ?_) | (with_reducible refine Below.setCell ?_ ?_ _) | omega | (dsimp only; omega) | (simp; done) | (simp; omega)))⟩

theorem one_via : portW [⟨1, 5, 0⟩] 10 [] 1 = (5, 0, 0) := by decide
theorem one_ok : ∀ q ∈ [(⟨1, 5, 0⟩ : ViaD)], ViaD.ok q := by
  intro q hq
  simp at hq
  subst hq
  exact ⟨by decide, by decide, .inr ⟨by decide, by decide, rfl⟩⟩
theorem sl_via1 {W : World} {b : Nat} (v : ViaD) (hb : b = W.heap.size) : Sl (W.alloc (.cells #[.int .i64 v.hop, .int .i64 v.port, .int .i64 v.next] 76)) 3 (.slice (some ⟨b, 0, none⟩) 1 1) ([v].map viaCells) :=
  sl_new (c := viaCells v) hb rfl


set_option maxHeartbeats 2000000 in
theorem portOf_any (a : Option Addr) (cap hop : Nat) (l : List ViaD) (w : World) (hs : Sl w 3 (.slice a l.length cap) (l.map viaCells)) (hlen : l.length ≤ 60) (hok : ∀ v ∈ l, v.ok) (hd : hopsApart l) (hh : hop ≤ 1000) :
    Calls Try.prog 27 #[.slice a l.length cap, .int .i64 hop] w fun e w' => e = .returned (port3 (portW l 10 [] hop)) ∧ Below w.heap.size w w' := by
  have HS := Lib.hid hs
  have C := Lib.hid (fun a cap w hs => (Port_any a cap hop l w hs hlen hok hd hh))
  generalize portW l 10 [] hop = R at *
  unfold port3 at *
  clear hs hok hd
  go_enter Try.func27, Try.ntmps27
  go_wp2_with (at_builtin; refine stop_at ?_; intro G hG)
  rw [← hG.out]; clear hG G
  refine wpList_append_any rfl _ _ 69 76 3 24 _ rfl eiVia w.heap.size _ ((([] : List ViaD)).map viaCells) rfl (Own.nil _ _ _ _) _ ((l).map viaCells) rfl (HS.out.below (by (repeat' (first | (with_reducible exact Below.refl _ _) | (with_reducible assumption) | (with_reducible refine Below.alloc ?_ ?_ _) | (with_reducible refine Below.drew ?_) | (with_reducible refine Below.stepG ?_ (by assumption) ?_) | (with_reducible refine Below.setCell ?_ ?_ _) | omega | (dsimp only; omega) | (simp; done) | (simp; omega))))) (by intro c hc; obtain ⟨r, _, rfl⟩ := List.mem_map.1 hc; exact viaCells_one r) (by skip; first | omega | (simp; omega)) (by decide) (by first | omega | (simp; done) | (simp; omega)) ?_
  intro v1 w1 hown1 hb1
  rw [← List.map_append] at hown1
  obtain ⟨xs1, hxs1⟩ : ∃ x : List ViaD, x = (([] : List ViaD)) ++ (l) := ⟨_, rfl⟩
  rw [← hxs1] at hown1
  have hl1 : xs1.length = (([] : List ViaD)).length + (l).length := by rw [hxs1, List.length_append]
  have HX1 := Lib.hid hxs1
  clear hxs1
  have HL1 := Lib.hid hl1
  clear hl1
  obtain ⟨a1, cap1, rfl⟩ := hown1.shape
  rw [List.length_map] at hown1 ⊢
  have HO1 := Lib.hid hown1
  clear hown1
  obtain ⟨hc1, hf1⟩ := bcellB hb1; have hz1 := hb1.size; (repeat (first | rw [World.size_alloc] at hz1 | rw [World.size_drew] at hz1 | rw [World.size_setCell] at hz1)); (try have : w.heap.size < w1.heap.size := by omega); (try have : w.heap.size < w1.heap.size + 1 := by omega); (try have : w.heap.size < w1.heap.size + 1 + 1 := by omega); (try have : w.heap.size < w1.heap.size + 1 + 1 + 1 := by omega)
  obtain rfl : xs1 = l := by rw [HX1.out]; rfl
  go_wp2_with fail
  refine (C.out _ _ _ (HO1.out.sl.below (by (repeat' (first | (with_reducible exact Below.refl _ _) | (with_reducible assumption) | (with_reducible refine Below.alloc ?_ ?_ _) | (with_reducible refine Below.drew ?_) | (with_reducible refine Below.stepG ?_ (by assumption) ?_) | (with_reducible refine Below.setCell ?_ ?_ _) | omega | (dsimp only; omega) | (simp; done) | (simp; omega)))))).mono ?_; rintro e w2 ⟨rfl, hb2⟩; (repeat (with_reducible (replace hb2 := Below.undrew hb2))); obtain ⟨hc2, hf2⟩ := bcell hb2; have hz2 := hb2.size; (repeat (first | rw [World.size_alloc] at hz2 | rw [World.size_drew] at hz2 | rw [World.size_setCell] at hz2)); (try have : w.heap.size < w2.heap.size := by omega); (try have : w.heap.size < w2.heap.size + 1 := by omega); (try have : w.heap.size < w2.heap.size + 1 + 1 := by omega); (try have : w.heap.size < w2.heap.size + 1 + 1 + 1 := by omega); (try have : w1.heap.size < w2.heap.size := by omega); (try have : w1.heap.size < w2.heap.size + 1 := by omega); (try have : w1.heap.size < w2.heap.size + 1 + 1 := by omega); (try have : w1.heap.size < w2.heap.size + 1 + 1 + 1 := by omega)
  go_wp2_with fail
  refine (Port_any _ _ 1 [⟨1, 5, 0⟩] _ (sl_via1 ⟨1, 5, 0⟩ (by simp)) (by simp) one_ok (by simp [hopsApart]) (by decide)).mono ?_
  rintro e w3 ⟨he, hb3⟩
  rw [one_via] at he
  unfold port3 at he
  subst he
  go_wp2
  go_returns
  exact ⟨rfl, by (repeat' (first | (with_reducible exact Below.refl _ _) | (with_reducible assumption) | (with_reducible refine Below.alloc ?_ ?_ _) | (with_reducible refine Below.drew ?_) | (with_reducible refine Below.stepG ?_ (by assumption) ?_) | (with_reducible refine Below.setCell ?_ ?_ _) | omega | (dsimp only; omega) | (simp; done) | (simp; omega)))⟩
end Go.Proofs.Ytllemhknmleklaa
