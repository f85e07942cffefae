
/- OffersApart: the walk. -/
import Derived.Test.YtllemhknmleklaaOf9
set_option linter.unusedVariables false
set_option linter.unusedSimpArgs false
namespace Go.Proofs.Ytllemhknmleklaa
open Go.RowKit Go.Sort Wc Wk

/-- The first j are moved up. -/
def upTo (l : List OfD) (j : Nat) : List OfD := (l.take j).map OfD.up ++ l.drop j
theorem upTo_len (l : List OfD) (j : Nat) : (upTo l j).length = l.length := by
  unfold upTo; rw [List.length_append, List.length_map, List.length_take, List.length_drop]; omega
theorem upTo_at {l : List OfD} {j : Nat} {o : OfD} (h : l[j]? = some o) : (upTo l j)[j]? = some o := by
  have hj := (List.getElem?_eq_some_iff.1 h).1
  unfold upTo
  rw [List.getElem?_append_right (by rw [List.length_map, List.length_take]; omega), List.length_map, List.length_take, List.getElem?_drop]
  rw [show j + (j - min j l.length) = j by omega]; exact h
theorem upTo_set {l : List OfD} {j : Nat} {o : OfD} (h : l[j]? = some o) : ((upTo l j).map ofCells).set j ((ofCells o).set 2 (.int .u64 (loOf (o.n + 16777216)))) = (upTo l (j + 1)).map ofCells := by
  have hj := (List.getElem?_eq_some_iff.1 h).1
  have e : (ofCells o).set 2 (.int .u64 (loOf (o.n + 16777216))) = ofCells o.up := by simp [ofCells, OfD.up, hiOf_false]
  rw [e, ← List.map_set]
  congr 1
  unfold upTo
  have hl : ((l.take j).map OfD.up).length = j := by rw [List.length_map, List.length_take]; omega
  rw [List.set_append_right _ _ (by omega), hl, Nat.sub_self, List.take_add_one, h, List.map_append]
  have hd : l.drop j = o :: l.drop (j + 1) := by
    obtain ⟨h1, h2⟩ := List.getElem?_eq_some_iff.1 h
    rw [List.drop_eq_getElem_cons h1, h2]
  rw [hd]
  simp


set_option maxRecDepth 100000 in
set_option maxHeartbeats 4000000 in
theorem offersApart_walk (a0 : Option Addr) (len0 cap0 : Nat) (z0 : List BidD) (a1 : Option Addr) (len1 cap1 : Nat) (z1 : List BidD) (w : World) (h0 : IsBids w a0 len0 cap0 z0) (h1 : IsBids w a1 len1 cap1 z1) :
    Calls Try.prog 9 #[.slice a0 len0 cap0, .slice a1 len1 cap1] w fun e w' => e = .returned (.bool true) ∧ Below w.heap.size w w' := by
  have H1 := Lib.hid h1
  clear h1
  go_enter Try.func9, Try.ntmps9
  go_wp2_with fail
  refine (offers_any a0 len0 cap0 z0 30 w h0 (by decide)).mono ?_
  rintro e w1 ⟨v1, rfl, HO1, hb1⟩; (repeat (with_reducible (replace hb1 := Below.undrew hb1))); obtain ⟨hc1, hf1⟩ := bcell hb1; have hz1 := hb1.size; (repeat (first | rw [World.size_alloc] at hz1 | rw [World.size_drew] at hz1 | rw [World.size_setCell] at hz1)); (try have : w.heap.size < w1.heap.size := by omega); (try have : w.heap.size < w1.heap.size + 1 := by omega); (try have : w.heap.size < w1.heap.size + 1 + 1 := by omega); (try have : w.heap.size < w1.heap.size + 1 + 1 + 1 := by omega)
  have HOK := Lib.hid (bids_ok z0 30)
  have HNR := Lib.hid (bids_near z0 30)
  have hol := bids_len z0 30
  generalize (z0.take 30).map bidO = os at *
  obtain ⟨aa, ca, rfl⟩ := HO1.shape
  rw [List.length_map] at HO1 ⊢
  have HA := Lib.hid HO1.sl
  have HAB : Hid (∀ x, aa = some x → x.block < w1.heap.size) := fun x hx => (HO1.lt x.block (by rw [hx]; rfl)).2
  go_wp2_with fail
  refine (offers_any a1 len1 cap1 z1 30 w1 (H1.out.below hb1) (by decide)).mono ?_
  rintro e w2 ⟨v2, rfl, HO2, hb2⟩; (repeat (with_reducible (replace hb2 := Below.undrew hb2))); obtain ⟨hc2, hf2⟩ := bcell hb2; have hz2 := hb2.size; (repeat (first | rw [World.size_alloc] at hz2 | rw [World.size_drew] at hz2 | rw [World.size_setCell] at hz2)); (try have : w.heap.size < w2.heap.size := by omega); (try have : w.heap.size < w2.heap.size + 1 := by omega); (try have : w.heap.size < w2.heap.size + 1 + 1 := by omega); (try have : w.heap.size < w2.heap.size + 1 + 1 + 1 := by omega); (try have : w1.heap.size < w2.heap.size := by omega); (try have : w1.heap.size < w2.heap.size + 1 := by omega); (try have : w1.heap.size < w2.heap.size + 1 + 1 := by omega); (try have : w1.heap.size < w2.heap.size + 1 + 1 + 1 := by omega)
  have HPK := Lib.hid (bids_ok z1 30)
  have HPN := Lib.hid (bids_near z1 30)
  have hpl := bids_len z1 30
  generalize (z1.take 30).map bidO = bs at *
  obtain ⟨ab, cb, rfl⟩ := HO2.shape
  rw [List.length_map] at HO2 ⊢
  have HB := Lib.hid HO2
  have HA2 := Lib.hid (HA.out.below hb2)
  have HW2 := Lib.hid (show Below w.heap.size w w2 by (repeat' (first | (with_reducible exact Below.refl _ _) | (with_reducible assumption) | (with_reducible refine Below.alloc ?_ ?_ _) | (with_reducible refine Below.drew ?_) | (with_reducible refine Below.stepG ?_ (by assumption) ?_) | (with_reducible refine Below.setCell ?_ ?_ _) | omega | (dsimp only; omega) | (simp; done) | (simp; omega))))
  clear HO1 HO2 HA hb1 hb2 hc1 hf1 hc2 hf2 h0
  go_wp2_with fail
  go_loopw [7] (fun i wr => ∃ j : Nat, j ≤ bs.length ∧ i = .int .i64 j ∧ Hid (Own wr w1.heap.size 84 8 (.slice ab bs.length cb) ((upTo bs j).map ofCells)) ∧ Hid (Below w1.heap.size w2 wr)) (fun i _ => bs.length - (intOf i).toNat)
  case atStart => exact ⟨0, Nat.zero_le _, rfl, by unfold upTo; simpa using HB, Below.refl _ _⟩
  case round =>
    obtain ⟨j, hj, rfl, HO, HR⟩ := hrel
    by_cases hlt : j < bs.length
    · obtain ⟨o, ho⟩ : ∃ o, bs[j]? = some o := ⟨_, List.getElem?_eq_getElem hlt⟩
      have hup := upTo_at ho
      have HUS := Lib.hid (upTo_set ho)
      obtain ⟨g, c, hv, hg1, hg2, hg3, hg4, hg5, hg6⟩ := HO.out.at (by rw [List.length_map, upTo_len]; omega)
      rw [List.length_map, upTo_len] at hv hg3
      simp only [Value.slice.injEq, true_and] at hv
      obtain ⟨rfl, rfl⟩ := hv
      have c2 : wr.cell? ⟨g, j * 8 + 2, none⟩ = some (.int .u64 (loOf o.n)) := hg6 j (ofCells o) (by rw [List.getElem?_map, hup]; rfl) 2 _ rfl
      have f2 := hg5 (j * 8 + 2)
      have hn := HPN.out o (List.mem_of_getElem? ho)
      have hf := (HPK.out o (List.mem_of_getElem? ho)).1.1
      have ew : IntKind.u64.wrap (loOf o.n + 16777216) = loOf (o.n + 16777216) := by
        have h2 : Fits false (o.n + 16777216) := by obtain ⟨_, n2, _⟩ := hn; unfold Fits wd; simp; omega
        rw [loOf_false hf, loOf_false h2, IntKind.wrap_u64]
        obtain ⟨_, n2, _⟩ := hn
        omega
      have HS := Lib.hid (HO.out.set (i := j) (c := ofCells o) (by rw [List.getElem?_map, hup]; rfl) (j := 2) (by decide) (.int .u64 (loOf (o.n + 16777216))))
      clear hup hg6 hg5 hn hf ho
      go_wp2
      go_roundw
      case rel => exact ⟨j + 1, by omega, by go_num, by have h := HS.out; rw [HUS.out] at h; exact h, HR.out.setCell hg1 _⟩
      case measure => simp [intOf]; omega
    · obtain rfl : j = bs.length := by omega
      have hbu : upTo bs bs.length = bs.map OfD.up := by unfold upTo; rw [List.take_length, List.drop_length, List.append_nil]
      rw [hbu] at HO
      have HUK : Hid (∀ o ∈ bs.map OfD.up, o.ok) := fun o ho => by
        obtain ⟨b, hb, rfl⟩ := List.mem_map.1 ho
        exact up_ok (HPK.out b hb) (HPN.out b hb)
      have HUN : Hid (∀ x ∈ os, ∀ y ∈ bs.map OfD.up, x.n < y.n) := fun x hx y hy => by
        obtain ⟨b, hb, rfl⟩ := List.mem_map.1 hy
        have h1 := HNR.out x hx
        have h2 := HPN.out b hb
        unfold NearP at h1 h2
        simp only [OfD.up]
        omega
      have hul : bs.length = (bs.map OfD.up).length := by rw [List.length_map]
      clear hbu
      generalize bs.map OfD.up = bu at *
      rw [hul] at HO hpl ⊢
      have HSA := Lib.hid (HA2.out.below' HR.out HAB.out)
      have HSB := Lib.hid HO.out.sl
      have HWr := Lib.hid (HW2.out.trans (HR.out.mono (by omega)))
      clear HO HA2 HR HB HPK HPN HNR HAB H1 hul
      go_wp2_with fail
      refine (bestOf_any aa ca os wr HSA.out (by omega) HOK.out).mono ?_
      rintro e w3 ⟨v3, xs, rfl, HO3, HR3, hl3, hb3⟩; (repeat (with_reducible (replace hb3 := Below.undrew hb3))); obtain ⟨hc3, hf3⟩ := bcell hb3; have hz3 := hb3.size; (repeat (first | rw [World.size_alloc] at hz3 | rw [World.size_drew] at hz3 | rw [World.size_setCell] at hz3)); (try have : w.heap.size < w3.heap.size := by omega); (try have : w.heap.size < w3.heap.size + 1 := by omega); (try have : w.heap.size < w3.heap.size + 1 + 1 := by omega); (try have : w.heap.size < w3.heap.size + 1 + 1 + 1 := by omega); (try have : w1.heap.size < w3.heap.size := by omega); (try have : w1.heap.size < w3.heap.size + 1 := by omega); (try have : w1.heap.size < w3.heap.size + 1 + 1 := by omega); (try have : w1.heap.size < w3.heap.size + 1 + 1 + 1 := by omega); (try have : w2.heap.size < w3.heap.size := by omega); (try have : w2.heap.size < w3.heap.size + 1 := by omega); (try have : w2.heap.size < w3.heap.size + 1 + 1 := by omega); (try have : w2.heap.size < w3.heap.size + 1 + 1 + 1 := by omega)
      obtain ⟨a3, cap3, rfl⟩ := HO3.shape
      rw [List.length_map] at HO3 ⊢
      have HO3 := Lib.hid HO3
      have HR3 := Lib.hid HR3
      go_wp2_with fail
      refine (bestOf_any ab cb bu w3 (HSB.out.below hb3) (by omega) HUK.out).mono ?_
      rintro e w4 ⟨v4, ys, rfl, HO4, HR4, hl4, hb4⟩; (repeat (with_reducible (replace hb4 := Below.undrew hb4))); obtain ⟨hc4, hf4⟩ := bcell hb4; have hz4 := hb4.size; (repeat (first | rw [World.size_alloc] at hz4 | rw [World.size_drew] at hz4 | rw [World.size_setCell] at hz4)); (try have : w.heap.size < w4.heap.size := by omega); (try have : w.heap.size < w4.heap.size + 1 := by omega); (try have : w.heap.size < w4.heap.size + 1 + 1 := by omega); (try have : w.heap.size < w4.heap.size + 1 + 1 + 1 := by omega); (try have : w1.heap.size < w4.heap.size := by omega); (try have : w1.heap.size < w4.heap.size + 1 := by omega); (try have : w1.heap.size < w4.heap.size + 1 + 1 := by omega); (try have : w1.heap.size < w4.heap.size + 1 + 1 + 1 := by omega); (try have : w2.heap.size < w4.heap.size := by omega); (try have : w2.heap.size < w4.heap.size + 1 := by omega); (try have : w2.heap.size < w4.heap.size + 1 + 1 := by omega); (try have : w2.heap.size < w4.heap.size + 1 + 1 + 1 := by omega); (try have : w3.heap.size < w4.heap.size := by omega); (try have : w3.heap.size < w4.heap.size + 1 := by omega); (try have : w3.heap.size < w4.heap.size + 1 + 1 := by omega); (try have : w3.heap.size < w4.heap.size + 1 + 1 + 1 := by omega)
      obtain ⟨a4, cap4, rfl⟩ := HO4.shape
      rw [List.length_map] at HO4 ⊢
      have HO4 := Lib.hid HO4
      have HR4 := Lib.hid HR4
      have HX3 := Lib.hid (HO3.out.sl.below hb4)
      have HB4 := Lib.hid (hb3.trans (hb4.mono hz3))
      have HSA4 := Lib.hid (HSA.out.below HB4.out)
      have HSB4 := Lib.hid (HSB.out.below HB4.out)
      clear hb3 hb4 hc3 hf3 hc4 hf4 HSA HSB HO3
      go_wp2_with (at_builtin; refine stop_at ?_; intro G hG)
      rw [← hG.out]; clear hG G
      refine wpList_append_any rfl _ _ 79 84 8 64 _ rfl eiOf w4.heap.size _ ((([] : List OfD)).map ofCells) rfl (Own.nil _ _ _ _) _ ((bu).map ofCells) rfl (HSB4.out) (by intro c hc; obtain ⟨r, _, rfl⟩ := List.mem_map.1 hc; exact ofCells_one r) (by skip; first | omega | (simp; omega)) (by decide) (by first | omega | (simp; done) | (simp; omega)) ?_
      intro v5 w5 hown5 hb5
      rw [← List.map_append] at hown5
      obtain ⟨xs5, hxs5⟩ : ∃ x : List OfD, x = (([] : List OfD)) ++ (bu) := ⟨_, rfl⟩
      rw [← hxs5] at hown5
      have hl5 : xs5.length = (([] : List OfD)).length + (bu).length := by rw [hxs5, List.length_append]
      have HX5 := Lib.hid hxs5
      clear hxs5
      have HL5 := Lib.hid hl5
      clear hl5
      obtain ⟨a5, cap5, rfl⟩ := hown5.shape
      rw [List.length_map] at hown5 ⊢
      have HO5 := Lib.hid hown5
      clear hown5
      obtain ⟨hc5, hf5⟩ := bcellB hb5; have hz5 := hb5.size; (repeat (first | rw [World.size_alloc] at hz5 | rw [World.size_drew] at hz5 | rw [World.size_setCell] at hz5)); (try have : w.heap.size < w5.heap.size := by omega); (try have : w.heap.size < w5.heap.size + 1 := by omega); (try have : w.heap.size < w5.heap.size + 1 + 1 := by omega); (try have : w.heap.size < w5.heap.size + 1 + 1 + 1 := by omega); (try have : w1.heap.size < w5.heap.size := by omega); (try have : w1.heap.size < w5.heap.size + 1 := by omega); (try have : w1.heap.size < w5.heap.size + 1 + 1 := by omega); (try have : w1.heap.size < w5.heap.size + 1 + 1 + 1 := by omega); (try have : w2.heap.size < w5.heap.size := by omega); (try have : w2.heap.size < w5.heap.size + 1 := by omega); (try have : w2.heap.size < w5.heap.size + 1 + 1 := by omega); (try have : w2.heap.size < w5.heap.size + 1 + 1 + 1 := by omega); (try have : w3.heap.size < w5.heap.size := by omega); (try have : w3.heap.size < w5.heap.size + 1 := by omega); (try have : w3.heap.size < w5.heap.size + 1 + 1 := by omega); (try have : w3.heap.size < w5.heap.size + 1 + 1 + 1 := by omega); (try have : w4.heap.size < w5.heap.size := by omega); (try have : w4.heap.size < w5.heap.size + 1 := by omega); (try have : w4.heap.size < w5.heap.size + 1 + 1 := by omega); (try have : w4.heap.size < w5.heap.size + 1 + 1 + 1 := by omega)
      obtain rfl : xs5 = bu := by rw [HX5.out]; rfl
      go_wp2_with (at_builtin; refine stop_at ?_; intro G hG)
      rw [← hG.out]; clear hG G
      refine wpList_append_any rfl _ _ 79 84 8 64 _ rfl eiOf w4.heap.size _ ((xs5).map ofCells) rfl (HO5.out) _ ((os).map ofCells) rfl (HSA4.out.below hb5) (by intro c hc; obtain ⟨r, _, rfl⟩ := List.mem_map.1 hc; exact ofCells_one r) (by skip; first | omega | (simp; omega)) (by decide) (by first | omega | (simp; done) | (simp; omega)) ?_
      intro v6 w6 hown6 hb6
      rw [← List.map_append] at hown6
      obtain ⟨xs6, hxs6⟩ : ∃ x : List OfD, x = (xs5) ++ (os) := ⟨_, rfl⟩
      rw [← hxs6] at hown6
      have hl6 : xs6.length = (xs5).length + (os).length := by rw [hxs6, List.length_append]
      have HX6 := Lib.hid hxs6
      clear hxs6
      have HL6 := Lib.hid hl6
      clear hl6
      obtain ⟨a6, cap6, rfl⟩ := hown6.shape
      rw [List.length_map] at hown6 ⊢
      have HO6 := Lib.hid hown6
      clear hown6
      obtain ⟨hc6, hf6⟩ := bcellB hb6; have hz6 := hb6.size; (repeat (first | rw [World.size_alloc] at hz6 | rw [World.size_drew] at hz6 | rw [World.size_setCell] at hz6)); (try have : w.heap.size < w6.heap.size := by omega); (try have : w.heap.size < w6.heap.size + 1 := by omega); (try have : w.heap.size < w6.heap.size + 1 + 1 := by omega); (try have : w.heap.size < w6.heap.size + 1 + 1 + 1 := by omega); (try have : w1.heap.size < w6.heap.size := by omega); (try have : w1.heap.size < w6.heap.size + 1 := by omega); (try have : w1.heap.size < w6.heap.size + 1 + 1 := by omega); (try have : w1.heap.size < w6.heap.size + 1 + 1 + 1 := by omega); (try have : w2.heap.size < w6.heap.size := by omega); (try have : w2.heap.size < w6.heap.size + 1 := by omega); (try have : w2.heap.size < w6.heap.size + 1 + 1 := by omega); (try have : w2.heap.size < w6.heap.size + 1 + 1 + 1 := by omega); (try have : w3.heap.size < w6.heap.size := by omega); (try have : w3.heap.size < w6.heap.size + 1 := by omega); (try have : w3.heap.size < w6.heap.size + 1 + 1 := by omega); (try have : w3.heap.size < w6.heap.size + 1 + 1 + 1 := by omega); (try have : w4.heap.size < w6.heap.size := by omega); (try have : w4.heap.size < w6.heap.size + 1 := by omega); (try have : w4.heap.size < w6.heap.size + 1 + 1 := by omega); (try have : w4.heap.size < w6.heap.size + 1 + 1 + 1 := by omega); (try have : w5.heap.size < w6.heap.size := by omega); (try have : w5.heap.size < w6.heap.size + 1 := by omega); (try have : w5.heap.size < w6.heap.size + 1 + 1 := by omega); (try have : w5.heap.size < w6.heap.size + 1 + 1 + 1 := by omega)
      have HB6 := Lib.hid (hb5.trans hb6)
      have h6 : xs6.length ≤ 100 := by have := HL6.out; omega
      have BB := Lib.hid (bestOf_any a6 cap6 xs6 w6 HO6.out.sl h6 (fun v hv => by
        have e := HX6.out
        rw [e] at hv
        rcases List.mem_append.1 hv with h | h
        · exact HUK.out v h
        · exact HOK.out v h))
      clear hb5 hb6 hc5 hf5 hc6 hf6
      go_wp2_with fail
      refine BB.out.mono ?_
      rintro e w7 ⟨v7, zs, rfl, HO7, HR7, hl7, hb7⟩; (repeat (with_reducible (replace hb7 := Below.undrew hb7))); obtain ⟨hc7, hf7⟩ := bcell hb7; have hz7 := hb7.size; (repeat (first | rw [World.size_alloc] at hz7 | rw [World.size_drew] at hz7 | rw [World.size_setCell] at hz7)); (try have : w.heap.size < w7.heap.size := by omega); (try have : w.heap.size < w7.heap.size + 1 := by omega); (try have : w.heap.size < w7.heap.size + 1 + 1 := by omega); (try have : w.heap.size < w7.heap.size + 1 + 1 + 1 := by omega); (try have : w1.heap.size < w7.heap.size := by omega); (try have : w1.heap.size < w7.heap.size + 1 := by omega); (try have : w1.heap.size < w7.heap.size + 1 + 1 := by omega); (try have : w1.heap.size < w7.heap.size + 1 + 1 + 1 := by omega); (try have : w2.heap.size < w7.heap.size := by omega); (try have : w2.heap.size < w7.heap.size + 1 := by omega); (try have : w2.heap.size < w7.heap.size + 1 + 1 := by omega); (try have : w2.heap.size < w7.heap.size + 1 + 1 + 1 := by omega); (try have : w3.heap.size < w7.heap.size := by omega); (try have : w3.heap.size < w7.heap.size + 1 := by omega); (try have : w3.heap.size < w7.heap.size + 1 + 1 := by omega); (try have : w3.heap.size < w7.heap.size + 1 + 1 + 1 := by omega); (try have : w4.heap.size < w7.heap.size := by omega); (try have : w4.heap.size < w7.heap.size + 1 := by omega); (try have : w4.heap.size < w7.heap.size + 1 + 1 := by omega); (try have : w4.heap.size < w7.heap.size + 1 + 1 + 1 := by omega); (try have : w5.heap.size < w7.heap.size := by omega); (try have : w5.heap.size < w7.heap.size + 1 := by omega); (try have : w5.heap.size < w7.heap.size + 1 + 1 := by omega); (try have : w5.heap.size < w7.heap.size + 1 + 1 + 1 := by omega); (try have : w6.heap.size < w7.heap.size := by omega); (try have : w6.heap.size < w7.heap.size + 1 := by omega); (try have : w6.heap.size < w7.heap.size + 1 + 1 := by omega); (try have : w6.heap.size < w7.heap.size + 1 + 1 + 1 := by omega)
      obtain ⟨a7, cap7, rfl⟩ := HO7.shape
      rw [List.length_map] at HO7 ⊢
      rw [HX6.out] at HR7
      have HZ := Lib.hid (apart_law HOK.out HUK.out HUN.out HR3.out HR4.out HR7)
      have HO7 := Lib.hid HO7
      have HX7 := Lib.hid (HX3.out.below (HB6.out.trans (hb7.mono (by omega))))
      have HY7 := Lib.hid (HO4.out.sl.below (HB6.out.trans (hb7.mono (by omega))))
      have HB7 := Lib.hid (HB4.out.trans ((HB6.out.trans (hb7.mono (by omega))).mono (HB4.out.size)))
      clear hb7 hc7 hf7 HR7 BB HB6
      go_wp2_with (at_builtin; refine stop_at ?_; intro G hG)
      rw [← hG.out]; clear hG G
      refine wpList_append_wtd (by first | rfl | kernel_rfl | (simp [Region.wanted, yielded]; done)) _ _ 79 84 8 64 _ rfl eiOf w7.heap.size _ ((([] : List OfD)).map ofCells) rfl (Own.nil _ _ _ _) _ ((xs).map ofCells) rfl (HX7.out) (by intro c hc; obtain ⟨r, _, rfl⟩ := List.mem_map.1 hc; exact ofCells_one r) (by skip; first | omega | (simp; omega)) (by decide) (by first | omega | (simp; done) | (simp; omega)) ?_
      intro v8 w8 hown8 hb8
      rw [← List.map_append] at hown8
      obtain ⟨xs8, hxs8⟩ : ∃ x : List OfD, x = (([] : List OfD)) ++ (xs) := ⟨_, rfl⟩
      rw [← hxs8] at hown8
      have hl8 : xs8.length = (([] : List OfD)).length + (xs).length := by rw [hxs8, List.length_append]
      have HX8 := Lib.hid hxs8
      clear hxs8
      have HL8 := Lib.hid hl8
      clear hl8
      obtain ⟨a8, cap8, rfl⟩ := hown8.shape
      rw [List.length_map] at hown8 ⊢
      have HO8 := Lib.hid hown8
      clear hown8
      obtain ⟨hc8, hf8⟩ := bcellB hb8; have hz8 := hb8.size; (repeat (first | rw [World.size_alloc] at hz8 | rw [World.size_drew] at hz8 | rw [World.size_setCell] at hz8)); (try have : w.heap.size < w8.heap.size := by omega); (try have : w.heap.size < w8.heap.size + 1 := by omega); (try have : w.heap.size < w8.heap.size + 1 + 1 := by omega); (try have : w.heap.size < w8.heap.size + 1 + 1 + 1 := by omega); (try have : w1.heap.size < w8.heap.size := by omega); (try have : w1.heap.size < w8.heap.size + 1 := by omega); (try have : w1.heap.size < w8.heap.size + 1 + 1 := by omega); (try have : w1.heap.size < w8.heap.size + 1 + 1 + 1 := by omega); (try have : w2.heap.size < w8.heap.size := by omega); (try have : w2.heap.size < w8.heap.size + 1 := by omega); (try have : w2.heap.size < w8.heap.size + 1 + 1 := by omega); (try have : w2.heap.size < w8.heap.size + 1 + 1 + 1 := by omega); (try have : w3.heap.size < w8.heap.size := by omega); (try have : w3.heap.size < w8.heap.size + 1 := by omega); (try have : w3.heap.size < w8.heap.size + 1 + 1 := by omega); (try have : w3.heap.size < w8.heap.size + 1 + 1 + 1 := by omega); (try have : w4.heap.size < w8.heap.size := by omega); (try have : w4.heap.size < w8.heap.size + 1 := by omega); (try have : w4.heap.size < w8.heap.size + 1 + 1 := by omega); (try have : w4.heap.size < w8.heap.size + 1 + 1 + 1 := by omega); (try have : w5.heap.size < w8.heap.size := by omega); (try have : w5.heap.size < w8.heap.size + 1 := by omega); (try have : w5.heap.size < w8.heap.size + 1 + 1 := by omega); (try have : w5.heap.size < w8.heap.size + 1 + 1 + 1 := by omega); (try have : w6.heap.size < w8.heap.size := by omega); (try have : w6.heap.size < w8.heap.size + 1 := by omega); (try have : w6.heap.size < w8.heap.size + 1 + 1 := by omega); (try have : w6.heap.size < w8.heap.size + 1 + 1 + 1 := by omega)
      obtain rfl : xs8 = xs := by rw [HX8.out]; rfl
      go_wp2_with (at_builtin; refine stop_at ?_; intro G hG)
      rw [← hG.out]; clear hG G
      refine wpList_append_wtd (by first | rfl | kernel_rfl | (simp [Region.wanted, yielded]; done)) _ _ 79 84 8 64 _ rfl eiOf w7.heap.size _ ((xs8).map ofCells) rfl (HO8.out) _ ((ys).map ofCells) rfl (HY7.out.below hb8) (by intro c hc; obtain ⟨r, _, rfl⟩ := List.mem_map.1 hc; exact ofCells_one r) (by skip; first | omega | (simp; omega)) (by decide) (by first | omega | (simp; done) | (simp; omega)) ?_
      intro v9 w9 hown9 hb9
      rw [← List.map_append] at hown9
      obtain ⟨xs9, hxs9⟩ : ∃ x : List OfD, x = (xs8) ++ (ys) := ⟨_, rfl⟩
      rw [← hxs9] at hown9
      have hl9 : xs9.length = (xs8).length + (ys).length := by rw [hxs9, List.length_append]
      have HX9 := Lib.hid hxs9
      clear hxs9
      have HL9 := Lib.hid hl9
      clear hl9
      obtain ⟨a9, cap9, rfl⟩ := hown9.shape
      rw [List.length_map] at hown9 ⊢
      have HO9 := Lib.hid hown9
      clear hown9
      obtain ⟨hc9, hf9⟩ := bcellB hb9; have hz9 := hb9.size; (repeat (first | rw [World.size_alloc] at hz9 | rw [World.size_drew] at hz9 | rw [World.size_setCell] at hz9)); (try have : w.heap.size < w9.heap.size := by omega); (try have : w.heap.size < w9.heap.size + 1 := by omega); (try have : w.heap.size < w9.heap.size + 1 + 1 := by omega); (try have : w.heap.size < w9.heap.size + 1 + 1 + 1 := by omega); (try have : w1.heap.size < w9.heap.size := by omega); (try have : w1.heap.size < w9.heap.size + 1 := by omega); (try have : w1.heap.size < w9.heap.size + 1 + 1 := by omega); (try have : w1.heap.size < w9.heap.size + 1 + 1 + 1 := by omega); (try have : w2.heap.size < w9.heap.size := by omega); (try have : w2.heap.size < w9.heap.size + 1 := by omega); (try have : w2.heap.size < w9.heap.size + 1 + 1 := by omega); (try have : w2.heap.size < w9.heap.size + 1 + 1 + 1 := by omega); (try have : w3.heap.size < w9.heap.size := by omega); (try have : w3.heap.size < w9.heap.size + 1 := by omega); (try have : w3.heap.size < w9.heap.size + 1 + 1 := by omega); (try have : w3.heap.size < w9.heap.size + 1 + 1 + 1 := by omega); (try have : w4.heap.size < w9.heap.size := by omega); (try have : w4.heap.size < w9.heap.size + 1 := by omega); (try have : w4.heap.size < w9.heap.size + 1 + 1 := by omega); (try have : w4.heap.size < w9.heap.size + 1 + 1 + 1 := by omega); (try have : w5.heap.size < w9.heap.size := by omega); (try have : w5.heap.size < w9.heap.size + 1 := by omega); (try have : w5.heap.size < w9.heap.size + 1 + 1 := by omega); (try have : w5.heap.size < w9.heap.size + 1 + 1 + 1 := by omega); (try have : w6.heap.size < w9.heap.size := by omega); (try have : w6.heap.size < w9.heap.size + 1 := by omega); (try have : w6.heap.size < w9.heap.size + 1 + 1 := by omega); (try have : w6.heap.size < w9.heap.size + 1 + 1 + 1 := by omega)
      have HB9 := Lib.hid (hb8.trans hb9)
      obtain rfl : xs9 = zs := by rw [HX9.out, HZ.out]
      have SS := Lib.hid (sameOf_any a7 a9 cap7 cap9 xs9.length xs9 w9 rfl (HO7.out.sl.below HB9.out) HO9.out.sl)
      clear hb8 hb9 hc8 hf8 hc9 hf9
      go_wp2_with fail
      refine SS.out.mono ?_
      rintro e w10 ⟨rfl, hb10⟩; (repeat (with_reducible (replace hb10 := Below.undrew hb10))); obtain ⟨hc10, hf10⟩ := bcell hb10; have hz10 := hb10.size; (repeat (first | rw [World.size_alloc] at hz10 | rw [World.size_drew] at hz10 | rw [World.size_setCell] at hz10)); (try have : w.heap.size < w10.heap.size := by omega); (try have : w.heap.size < w10.heap.size + 1 := by omega); (try have : w.heap.size < w10.heap.size + 1 + 1 := by omega); (try have : w.heap.size < w10.heap.size + 1 + 1 + 1 := by omega); (try have : w1.heap.size < w10.heap.size := by omega); (try have : w1.heap.size < w10.heap.size + 1 := by omega); (try have : w1.heap.size < w10.heap.size + 1 + 1 := by omega); (try have : w1.heap.size < w10.heap.size + 1 + 1 + 1 := by omega); (try have : w2.heap.size < w10.heap.size := by omega); (try have : w2.heap.size < w10.heap.size + 1 := by omega); (try have : w2.heap.size < w10.heap.size + 1 + 1 := by omega); (try have : w2.heap.size < w10.heap.size + 1 + 1 + 1 := by omega); (try have : w3.heap.size < w10.heap.size := by omega); (try have : w3.heap.size < w10.heap.size + 1 := by omega); (try have : w3.heap.size < w10.heap.size + 1 + 1 := by omega); (try have : w3.heap.size < w10.heap.size + 1 + 1 + 1 := by omega); (try have : w4.heap.size < w10.heap.size := by omega); (try have : w4.heap.size < w10.heap.size + 1 := by omega); (try have : w4.heap.size < w10.heap.size + 1 + 1 := by omega); (try have : w4.heap.size < w10.heap.size + 1 + 1 + 1 := by omega); (try have : w5.heap.size < w10.heap.size := by omega); (try have : w5.heap.size < w10.heap.size + 1 := by omega); (try have : w5.heap.size < w10.heap.size + 1 + 1 := by omega); (try have : w5.heap.size < w10.heap.size + 1 + 1 + 1 := by omega); (try have : w6.heap.size < w10.heap.size := by omega); (try have : w6.heap.size < w10.heap.size + 1 := by omega); (try have : w6.heap.size < w10.heap.size + 1 + 1 := by omega); (try have : w6.heap.size < w10.heap.size + 1 + 1 + 1 := by omega)
      go_wp2
      go_returns
      exact ⟨rfl, HWr.out.trans ((HB7.out.trans ((HB9.out.trans (hb10.mono (by omega))).mono HB7.out.size)).mono HWr.out.size)⟩
end Go.Proofs.Ytllemhknmleklaa
