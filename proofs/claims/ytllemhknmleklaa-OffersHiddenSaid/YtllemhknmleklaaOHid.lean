
/- OffersHidden: the walk. -/
import Derived.Test.YtllemhknmleklaaOf9
import Derived.Test.YtllemhknmleklaaOfT
set_option linter.unusedVariables false
set_option linter.unusedSimpArgs false
namespace Go.Proofs.Ytllemhknmleklaa
open Go.RowKit Go.Sort Wc Wk

def ofNear : OfD := ⟨0, 0, 3, 0, 0, 3⟩
theorem near_ok : ofNear.ok := by
  refine ⟨⟨by unfold Fits wd; decide, by decide, by decide⟩, by decide, by decide, by decide, by decide, by decide, by decide⟩
theorem sl_near {W : World} {b : Nat} (hb : b = W.heap.size) : Sl (W.alloc (.cells #[.bool false, .int .u64 0, .int .u64 0, .int .i64 0, .int .i64 3, .int .i64 0, .int .i64 0, .int .i64 3] 84)) 8 (.slice (some ⟨b, 0, none⟩) 1 1) ([ofNear].map ofCells) := sl_new (c := ofCells ofNear) hb rfl
theorem filt_at {α : Type} (p : α → Bool) : ∀ {ys : List α} {i : Nat} {x : α}, ys[i]? = some x → p x = true → (ys.filter p)[((ys.take i).filter p).length]? = some x
  | [], i, x, h, _ => by simp at h
  | y :: ys, 0, x, h, hp => by
    simp at h
    subst h
    simp [hp]
  | y :: ys, i + 1, x, h, hp => by
    have ih := filt_at p (ys := ys) (i := i) (x := x) (by simpa using h) hp
    cases hy : p y with
    | true => simp [hy]; exact ih
    | false => simp [hy]; exact ih
theorem Sl.rt {w w' : World} {a : Option Addr} {n cap : Nat} {l : List OfD} (hs : Sl w 5 (.slice a n cap) (l.map rtC)) (hb : Below w.heap.size w w') {i : Nat} {v : OfD} (hv : l[i]? = some v) :
    ∃ b off, a = some ⟨b, off, none⟩ ∧ b < w.heap.size ∧ w'.cell? ⟨b, off + i * 5, none⟩ = some (.bool false) ∧ w'.cell? ⟨b, off + i * 5 + 1, none⟩ = some (.int .u64 (hiOf false v.n)) ∧ w'.cell? ⟨b, off + i * 5 + 2, none⟩ = some (.int .u64 (loOf v.n)) ∧ w'.cell? ⟨b, off + i * 5 + 3, none⟩ = some (.int .i64 v.k) ∧ w'.cell? ⟨b, off + i * 5 + 4, none⟩ = some (.int .i64 v.hop) := by
  obtain ⟨b, off, ha, hlt, hc⟩ := Sl.at hs (i := i) (c := rtC v) (by rw [List.getElem?_map, hv]; rfl)
  have g := fun j u (h : (rtC v)[j]? = some u) => (hb.cell (p := ⟨b, off + i * 5 + j, none⟩) hlt).trans (hc j u h)
  exact ⟨b, off, ha, hlt, g 0 _ rfl, g 1 _ rfl, g 2 _ rfl, g 3 _ rfl, g 4 _ rfl⟩


set_option maxRecDepth 100000 in
set_option maxHeartbeats 6000000 in
theorem offersHidden_walk (a0 : Option Addr) (len0 cap0 : Nat) (z0 : List BidD) (w : World) (h0 : IsBids w a0 len0 cap0 z0) :
    Calls Try.prog 11 #[.slice a0 len0 cap0] w fun e w' => e = .returned (.bool true) ∧ Below w.heap.size w w' := by
  go_enter Try.func11, Try.ntmps11
  go_wp2_with fail
  refine (offers_any a0 len0 cap0 z0 50 w h0 (by decide)).mono ?_
  rintro e w1 ⟨v1, rfl, HO1, hb1⟩; (repeat (with_reducible (replace hb1 := Below.undrew hb1))); obtain ⟨hc1, hf1⟩ := bcell hb1; have hz1 := hb1.size; (repeat (first | rw [World.size_alloc] at hz1 | rw [World.size_drew] at hz1 | rw [World.size_setCell] at hz1)); (try have : w.heap.size < w1.heap.size := by omega); (try have : w.heap.size < w1.heap.size + 1 := by omega); (try have : w.heap.size < w1.heap.size + 1 + 1 := by omega); (try have : w.heap.size < w1.heap.size + 1 + 1 + 1 := by omega)
  have HOK := Lib.hid (bids_ok z0 50)
  have hol := bids_len z0 50
  generalize (z0.take 50).map bidO = os at *
  obtain ⟨a1, ca, rfl⟩ := HO1.shape
  rw [List.length_map] at HO1 ⊢
  have HS1 := Lib.hid HO1.sl
  go_wp2_with fail
  refine (bestOf_any a1 ca os w1 HS1.out (by omega) HOK.out).mono ?_
  rintro e w2 ⟨v2, xs, rfl, HO2, HR2, hl2, hb2⟩; (repeat (with_reducible (replace hb2 := Below.undrew hb2))); obtain ⟨hc2, hf2⟩ := bcell hb2; have hz2 := hb2.size; (repeat (first | rw [World.size_alloc] at hz2 | rw [World.size_drew] at hz2 | rw [World.size_setCell] at hz2)); (try have : w.heap.size < w2.heap.size := by omega); (try have : w.heap.size < w2.heap.size + 1 := by omega); (try have : w.heap.size < w2.heap.size + 1 + 1 := by omega); (try have : w.heap.size < w2.heap.size + 1 + 1 + 1 := by omega); (try have : w1.heap.size < w2.heap.size := by omega); (try have : w1.heap.size < w2.heap.size + 1 := by omega); (try have : w1.heap.size < w2.heap.size + 1 + 1 := by omega); (try have : w1.heap.size < w2.heap.size + 1 + 1 + 1 := by omega)
  obtain ⟨a2, cx, rfl⟩ := HO2.shape
  rw [List.length_map] at HO2 ⊢
  have HX2 := Lib.hid HO2.sl
  have HR := Lib.hid HR2
  have HXK := Lib.hid (fun o ho => HOK.out o (HR2.met HOK.out o ho).1)
  have HS2 := Lib.hid (HS1.out.below hb2)
  have HB2 := Lib.hid (show Below w.heap.size w w2 by (repeat' (first | (with_reducible exact Below.refl _ _) | (with_reducible assumption) | (with_reducible refine Below.alloc ?_ ?_ _) | (with_reducible refine Below.drew ?_) | (with_reducible refine Below.stepG ?_ (by assumption) ?_) | (with_reducible refine Below.setCell ?_ ?_ _) | omega | (dsimp only; omega) | (simp; done) | (simp; omega))))
  clear HO1 HO2 HR2 HS1 hb1 hb2 hc1 hf1 hc2 hf2 h0
  go_wp2_with (at_builtin; refine stop_at ?_; intro G hG)
  rw [← hG.out]; clear hG G
  refine wpList_append_any rfl _ _ 79 84 8 64 _ rfl eiOf w2.heap.size _ ((([] : List OfD)).map ofCells) rfl (Own.nil _ _ _ _) _ ((os).map ofCells) rfl (HS2.out) (by intro c hc; obtain ⟨r, _, rfl⟩ := List.mem_map.1 hc; exact ofCells_one r) (by skip; first | omega | (simp; omega)) (by decide) (by first | omega | (simp; done) | (simp; omega)) ?_
  intro v3 w3 hown3 hb3
  rw [← List.map_append] at hown3
  obtain ⟨xs3, hxs3⟩ : ∃ x : List OfD, x = (([] : List OfD)) ++ (os) := ⟨_, rfl⟩
  rw [← hxs3] at hown3
  have hl3 : xs3.length = (([] : List OfD)).length + (os).length := by rw [hxs3, List.length_append]
  have HX3 := Lib.hid hxs3
  clear hxs3
  have HL3 := Lib.hid hl3
  clear hl3
  obtain ⟨a3, cap3, rfl⟩ := hown3.shape
  rw [List.length_map] at hown3 ⊢
  have HO3 := Lib.hid hown3
  clear hown3
  obtain ⟨hc3, hf3⟩ := bcellB hb3; have hz3 := hb3.size; (repeat (first | rw [World.size_alloc] at hz3 | rw [World.size_drew] at hz3 | rw [World.size_setCell] at hz3)); (try have : w.heap.size < w3.heap.size := by omega); (try have : w.heap.size < w3.heap.size + 1 := by omega); (try have : w.heap.size < w3.heap.size + 1 + 1 := by omega); (try have : w.heap.size < w3.heap.size + 1 + 1 + 1 := by omega); (try have : w1.heap.size < w3.heap.size := by omega); (try have : w1.heap.size < w3.heap.size + 1 := by omega); (try have : w1.heap.size < w3.heap.size + 1 + 1 := by omega); (try have : w1.heap.size < w3.heap.size + 1 + 1 + 1 := by omega); (try have : w2.heap.size < w3.heap.size := by omega); (try have : w2.heap.size < w3.heap.size + 1 := by omega); (try have : w2.heap.size < w3.heap.size + 1 + 1 := by omega); (try have : w2.heap.size < w3.heap.size + 1 + 1 + 1 := by omega)
  obtain rfl : xs3 = os := by rw [HX3.out]; rfl
  have TT := Lib.hid (ofTable_any a3 cap3 xs3 w3 HO3.out.sl (by omega) HOK.out)
  have TN := Lib.hid (fun w b (h : Sl w 8 (.slice (some ⟨b, 0, none⟩) 1 1) ([ofNear].map ofCells)) => ofTable_any (some ⟨b, 0, none⟩) 1 [ofNear] w h (by decide) (fun v hv => by rw [List.mem_singleton] at hv; rw [hv]; exact near_ok))
  go_wp2_with fail
  refine TT.out.mono ?_
  rintro e w4 ⟨v4, ys, ts, rfl, HO4, HR4, hts, hb4⟩; (repeat (with_reducible (replace hb4 := Below.undrew hb4))); obtain ⟨hc4, hf4⟩ := bcell hb4; have hz4 := hb4.size; (repeat (first | rw [World.size_alloc] at hz4 | rw [World.size_drew] at hz4 | rw [World.size_setCell] at hz4)); (try have : w.heap.size < w4.heap.size := by omega); (try have : w.heap.size < w4.heap.size + 1 := by omega); (try have : w.heap.size < w4.heap.size + 1 + 1 := by omega); (try have : w.heap.size < w4.heap.size + 1 + 1 + 1 := by omega); (try have : w1.heap.size < w4.heap.size := by omega); (try have : w1.heap.size < w4.heap.size + 1 := by omega); (try have : w1.heap.size < w4.heap.size + 1 + 1 := by omega); (try have : w1.heap.size < w4.heap.size + 1 + 1 + 1 := by omega); (try have : w2.heap.size < w4.heap.size := by omega); (try have : w2.heap.size < w4.heap.size + 1 := by omega); (try have : w2.heap.size < w4.heap.size + 1 + 1 := by omega); (try have : w2.heap.size < w4.heap.size + 1 + 1 + 1 := by omega); (try have : w3.heap.size < w4.heap.size := by omega); (try have : w3.heap.size < w4.heap.size + 1 := by omega); (try have : w3.heap.size < w4.heap.size + 1 + 1 := by omega); (try have : w3.heap.size < w4.heap.size + 1 + 1 + 1 := by omega)
  obtain rfl : ys = xs := HR4.same HR.out (fun _ => Iff.rfl)
  obtain ⟨a4, ct, rfl⟩ := HO4.shape
  rw [List.length_map] at HO4 ⊢
  have HTS := Lib.hid hts
  clear hts
  have HT4 := Lib.hid HO4.sl
  go_wp2_with fail
  refine (TN.out _ _ (sl_near rfl)).mono ?_
  rintro e w5 ⟨v5, ys5, ts5, rfl, HO5, HR5, hts5, hb5⟩; (repeat (with_reducible (replace hb5 := Below.undrew hb5))); obtain ⟨hc5, hf5⟩ := bcell hb5; have hz5 := hb5.size; (repeat (first | rw [World.size_alloc] at hz5 | rw [World.size_drew] at hz5 | rw [World.size_setCell] at hz5)); (try have : w.heap.size < w5.heap.size := by omega); (try have : w.heap.size < w5.heap.size + 1 := by omega); (try have : w.heap.size < w5.heap.size + 1 + 1 := by omega); (try have : w.heap.size < w5.heap.size + 1 + 1 + 1 := by omega); (try have : w1.heap.size < w5.heap.size := by omega); (try have : w1.heap.size < w5.heap.size + 1 := by omega); (try have : w1.heap.size < w5.heap.size + 1 + 1 := by omega); (try have : w1.heap.size < w5.heap.size + 1 + 1 + 1 := by omega); (try have : w2.heap.size < w5.heap.size := by omega); (try have : w2.heap.size < w5.heap.size + 1 := by omega); (try have : w2.heap.size < w5.heap.size + 1 + 1 := by omega); (try have : w2.heap.size < w5.heap.size + 1 + 1 + 1 := by omega); (try have : w3.heap.size < w5.heap.size := by omega); (try have : w3.heap.size < w5.heap.size + 1 := by omega); (try have : w3.heap.size < w5.heap.size + 1 + 1 := by omega); (try have : w3.heap.size < w5.heap.size + 1 + 1 + 1 := by omega); (try have : w4.heap.size < w5.heap.size := by omega); (try have : w4.heap.size < w5.heap.size + 1 := by omega); (try have : w4.heap.size < w5.heap.size + 1 + 1 := by omega); (try have : w4.heap.size < w5.heap.size + 1 + 1 + 1 := by omega)
  obtain rfl : ys5 = [ofNear] := one_law near_ok (by decide) HR5
  have hts5 : ts5 = [ofNear] := by rw [hts5]; rfl
  subst hts5
  obtain ⟨a5, c5, rfl⟩ := HO5.shape
  have h45 : Below w4.heap.size w4 w5 := ((Below.refl w4.heap.size w4).alloc (Nat.le_refl _) (.cells #[.bool false, .int .u64 0, .int .u64 0, .int .i64 0, .int .i64 3, .int .i64 0, .int .i64 0, .int .i64 3] 84)).trans (hb5.mono (by simp))
  have HT := Lib.hid (HT4.out.below h45)
  have h25 : Below w2.heap.size w2 w5 := (hb3.trans (hb4.mono hz3)).trans (h45.mono (by omega))
  have HX := Lib.hid (HX2.out.below h25)
  have HB := Lib.hid (HB2.out.trans (h25.mono HB2.out.size))
  clear HO5 HR5 HO4 HR4 TT TN hb3 hc3 hf3 hb4 hc4 hf4 hb5 hc5 hf5 h45 h25 HX2 HT4 HB2 HO3 HX3 HL3 HS2
  simp only [List.length_map, List.length_singleton, List.map_cons, List.map_nil, List.length_cons, List.length_nil]
  go_wp2_with fail
  go_loopw [10, 11] (fun kv iv wr => ∃ j : Nat, j ≤ ys.length ∧ iv = .int .i64 j ∧ (∃ q : Nat, kv = .int .i64 q ∧ Hid (q = ((ys.take j).filter (fun o => !hidB ys o)).length)) ∧ Hid (Below w5.heap.size w5 wr)) (fun _ iv _ => ys.length - (intOf iv).toNat)
  case atStart => exact ⟨0, Nat.zero_le _, rfl, ⟨0, rfl, rfl⟩, Below.refl _ _⟩
  case round =>
    obtain ⟨j, hj, rfl, ⟨q, rfl, HQ⟩, HK⟩ := hrel
    by_cases hlt : j < ys.length
    · obtain ⟨o, ho⟩ : ∃ o, ys[j]? = some o := ⟨_, List.getElem?_eq_getElem hlt⟩
      have HJ := Lib.hid ho
      have hoo := HXK.out o (List.mem_of_getElem? ho)
      have HFS := Lib.hid (filt_snoc (fun o => !hidB ys o) ho)
      have HOO := Lib.hid hoo
      obtain ⟨U, hU⟩ : ∃ U, U = wr := ⟨_, rfl⟩
      subst hU
      clear ho hoo
      go_wp2_with fail
      go_loopw [12, 13] (fun hv iv wz => ∃ m : Nat, m ≤ ys.length ∧ iv = .int .i64 m ∧ (∃ c : Bool, hv = .bool c ∧ Hid (c = (decide (o.src = 4) && (ys.take m).any (nearC o)))) ∧ Hid (Below w5.heap.size w5 wz)) (fun _ iv _ => ys.length - (intOf iv).toNat)
      case atStart => exact ⟨0, Nat.zero_le _, rfl, ⟨false, rfl, by show _ = _; simp⟩, HK⟩
      case round =>
        obtain ⟨m, hm, rfl, ⟨c, rfl, HC⟩, HZ⟩ := hrel
        by_cases hmt : m < ys.length
        · obtain ⟨y, hy⟩ : ∃ y, ys[m]? = some y := ⟨_, List.getElem?_eq_getElem hmt⟩
          have HAY := Lib.hid (show (ys.take (m + 1)).any (nearC o) = ((ys.take m).any (nearC o) || nearC o y) by
            rw [List.take_add_one, hy, List.any_append]; simp)
          obtain ⟨b1, o1, rfl, hb1, d0, d1, d2, d3, d4, d5, d6, d7⟩ := Sl.of8 HX.out HZ.out hy
          obtain ⟨b2, o2, hb2, _, c0, c1, c2, c3, c4, c5, c6, c7⟩ := Sl.of8 HX.out HZ.out HJ.out
          simp only [Option.some.injEq, Addr.mk.injEq, and_true] at hb2
          obtain ⟨rfl, rfl⟩ := hb2
          have CV := Lib.hid (fun w => covers_ok false y.n y.k o.n o.k w (HXK.out y (List.mem_of_getElem? hy)).1 HOO.out.1)
          have HNC := Lib.hid (show nearC o y = (decide (y.src ≠ 4) && decide (cov false y.n y.k o.n o.k)) from rfl)
          clear d5 d6 d7 c5 c6 c7 hy
          generalize decide (cov false y.n y.k o.n o.k) = x at *
          obtain ⟨W, hW⟩ : ∃ W, W = wr := ⟨_, rfl⟩
          subst hW
          have bW : b1 < W.heap.size := by have := HZ.out.size; omega
          go_wp2_with fail
          refine wp_region_qb (by kernel_rfl) (by kernel_rfl) (fun kq => ?_)
          repeat (first | go_big_quiet_step ((with_reducible exact Calls.regrown_of (CV.out _))) | quiet_step ((with_reducible exact Calls.regrown_of (CV.out _))))
          clear kq
          refine wpQuiet_nil ?_; intro w6 hb6; (repeat (with_reducible (replace hb6 := Below.undrew hb6))); obtain ⟨hc6, hf6⟩ := bcell hb6; have hz6 := hb6.size; (repeat (first | rw [World.size_alloc] at hz6 | rw [World.size_drew] at hz6 | rw [World.size_setCell] at hz6)); (try have : w.heap.size < w6.heap.size := by omega); (try have : w.heap.size < w6.heap.size + 1 := by omega); (try have : w.heap.size < w6.heap.size + 1 + 1 := by omega); (try have : w.heap.size < w6.heap.size + 1 + 1 + 1 := by omega); (try have : w1.heap.size < w6.heap.size := by omega); (try have : w1.heap.size < w6.heap.size + 1 := by omega); (try have : w1.heap.size < w6.heap.size + 1 + 1 := by omega); (try have : w1.heap.size < w6.heap.size + 1 + 1 + 1 := by omega); (try have : w2.heap.size < w6.heap.size := by omega); (try have : w2.heap.size < w6.heap.size + 1 := by omega); (try have : w2.heap.size < w6.heap.size + 1 + 1 := by omega); (try have : w2.heap.size < w6.heap.size + 1 + 1 + 1 := by omega); (try have : w3.heap.size < w6.heap.size := by omega); (try have : w3.heap.size < w6.heap.size + 1 := by omega); (try have : w3.heap.size < w6.heap.size + 1 + 1 := by omega); (try have : w3.heap.size < w6.heap.size + 1 + 1 + 1 := by omega); (try have : w4.heap.size < w6.heap.size := by omega); (try have : w4.heap.size < w6.heap.size + 1 := by omega); (try have : w4.heap.size < w6.heap.size + 1 + 1 := by omega); (try have : w4.heap.size < w6.heap.size + 1 + 1 + 1 := by omega); (try have : w5.heap.size < w6.heap.size := by omega); (try have : w5.heap.size < w6.heap.size + 1 := by omega); (try have : w5.heap.size < w6.heap.size + 1 + 1 := by omega); (try have : w5.heap.size < w6.heap.size + 1 + 1 + 1 := by omega); (try have : wr.heap.size < w6.heap.size := by omega); (try have : wr.heap.size < w6.heap.size + 1 := by omega); (try have : wr.heap.size < w6.heap.size + 1 + 1 := by omega); (try have : wr.heap.size < w6.heap.size + 1 + 1 + 1 := by omega)
          have cA := (bcell hb6).1
          have d4' := (cA _ _ bW).trans d4
          have c4' := (cA _ _ bW).trans c4
          have HZ6 := Lib.hid (HZ.out.trans (hb6.mono HZ.out.size))
          clear cA hb6 hc6 hf6 d0 d1 d2 d3 d4 c0 c1 c2 c3 c4 CV
          cases c with
          | true =>
            have HC2 : Hid (true = (decide (o.src = 4) && (ys.take (m + 1)).any (nearC o))) := by
              show true = _
              have h := HC.out
              rw [HAY.out]
              cases hd : decide (o.src = 4) <;> rw [hd] at h <;> simp at h ⊢
              left; exact h
            clear HC HAY HNC
            go_wp2
            go_roundw
            case rel => exact ⟨m + 1, by omega, by go_num, ⟨true, rfl, HC2⟩, HZ6⟩
            case measure => simp [intOf]; omega
          | false =>
            by_cases h4 : o.src = 4
            · have e4 : ((o.src : Int) == 4) = true := by rw [h4]; rfl
              have hno : (ys.take m).any (nearC o) = false := by have := HC.out; rw [decide_eq_true h4] at this; simpa using this.symm
              by_cases y4 : y.src = 4
              · have g4 : ((y.src : Int) != 4) = false := by rw [y4]; rfl
                have HC2 : Hid (false = (decide (o.src = 4) && (ys.take (m + 1)).any (nearC o))) := by
                  show false = _
                  rw [HAY.out, hno, HNC.out]; simp [y4]
                clear HC HAY HNC h4 y4 hno
                go_wp2
                go_roundw
                case rel => exact ⟨m + 1, by omega, by go_num, ⟨false, rfl, HC2⟩, HZ6⟩
                case measure => simp [intOf]; omega
              · have g4 : ((y.src : Int) != 4) = true := by rw [bne_iff_ne]; omega
                have HC2 : Hid (x = (decide (o.src = 4) && (ys.take (m + 1)).any (nearC o))) := by
                  show x = _
                  rw [HAY.out, hno, HNC.out]; simp [y4, h4]
                clear HC HAY HNC h4 y4 hno
                go_wp2
                go_roundw
                case rel => exact ⟨m + 1, by omega, by go_num, ⟨x, rfl, HC2⟩, HZ6⟩
                case measure => simp [intOf]; omega
            · have e4 : ((o.src : Int) == 4) = false := by rw [beq_eq_false_iff_ne]; omega
              have HC2 : Hid (false = (decide (o.src = 4) && (ys.take (m + 1)).any (nearC o))) := by
                show false = _
                simp [h4]
              clear HC HAY HNC h4
              go_wp2
              go_roundw
              case rel => exact ⟨m + 1, by omega, by go_num, ⟨false, rfl, HC2⟩, HZ6⟩
              case measure => simp [intOf]; omega
        · obtain rfl : m = ys.length := by omega
          have hch : c = hidB ys o := by have := HC.out; rw [List.take_length] at this; exact this
          clear HC
          cases c with
          | true =>
            have HQ2 : Hid (q = ((ys.take (j + 1)).filter (fun o => !hidB ys o)).length) := by
              show q = _
              rw [HFS.out, ← hch, HQ.out]; simp
            clear hch HFS HQ
            go_wp2
            go_roundw
            case rel => exact ⟨j + 1, by omega, by go_num, ⟨q, rfl, HQ2⟩, HZ⟩
            case measure => simp [intOf]; omega
          | false =>
            have HQ2 : Hid (q + 1 = ((ys.take (j + 1)).filter (fun o => !hidB ys o)).length) := by
              show q + 1 = _
              rw [HFS.out, ← hch, HQ.out]; simp
            have hat : ts[q]? = some o := by
              rw [HTS.out, HQ.out]
              exact filt_at _ HJ.out (by rw [← hch]; rfl)
            have hqb : q ≤ 100 := by
              rw [HQ.out]
              have := List.length_filter_le (fun o => !hidB ys o) (ys.take j)
              rw [List.length_take] at this
              omega
            have hql : q < ts.length := (List.getElem?_eq_some_iff.1 hat).1
            have hge : ¬ ts.length ≤ q := by omega
            obtain ⟨b2, o2, rfl, hb2, c0, c1, c2, c3, c4, c5, c6, c7⟩ := Sl.of8 HX.out HZ.out HJ.out
            obtain ⟨b3, o3, rfl, hb3, d0, d1, d2, d3, d4⟩ := Sl.rt HT.out HZ.out hat
            clear hch HFS HQ hat
            go_wp2_with fail
            go_quiet (fail)
            go_wp2
            go_roundw
            case rel => exact ⟨j + 1, by omega, by go_num, ⟨q + 1, by go_num, HQ2⟩, below_drewN HZ.out _⟩
            case measure => simp [intOf]; omega
    · obtain rfl : j = ys.length := by omega
      have hq : q = ts.length := by rw [HQ.out, HTS.out, List.take_length]
      subst hq
      clear HQ
      go_wp2
      go_returns
      exact ⟨rfl, HB.out.trans (HK.out.mono HB.out.size)⟩
end Go.Proofs.Ytllemhknmleklaa
