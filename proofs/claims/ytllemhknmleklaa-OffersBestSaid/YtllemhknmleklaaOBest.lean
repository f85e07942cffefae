
/- OffersBest: the walk. -/
import Derived.Test.YtllemhknmleklaaOf9
set_option linter.unusedVariables false
set_option linter.unusedSimpArgs false
namespace Go.Proofs.Ytllemhknmleklaa
open Go.RowKit Go.Sort Wc Wk

/-- No one behind i, ahead of k, is of its key. -/
def LastK (os : List OfD) (o : OfD) (i k : Nat) : Prop := o.met < 999 ∧ ∀ m q, i < m → m < k → os[m]? = some q → ¬ SameK q o
theorem lastK_live {os : List OfD} (hok : ∀ o ∈ os, o.ok) {o : OfD} {i : Nat} (hi : os[i]? = some o) (h : LastK os o i os.length) : o ∈ liveL os := by
  refine (mem_liveL os hok o).2 ⟨by have := h.1; omega, os.take i, os.drop (i + 1), ?_, fun q hq => ?_⟩
  · obtain ⟨h1, h2⟩ := List.getElem?_eq_some_iff.1 hi
    rw [← h2, ← List.drop_eq_getElem_cons h1, List.take_append_drop]
  · obtain ⟨m, hm, he⟩ := List.getElem_of_mem hq
    rw [List.getElem_drop] at he
    rw [List.length_drop] at hm
    exact h.2 (i + 1 + m) q (by omega) (by omega) (by rw [List.getElem?_eq_getElem (by omega), he])
theorem lastK_step {os : List OfD} {o q : OfD} {i k : Nat} (hk : os[k]? = some q) (hik : i < k) : LastK os o i (k + 1) ↔ LastK os o i k ∧ ¬ SameK q o := by
  constructor
  · intro h
    exact ⟨⟨h.1, fun m x h1 h2 h3 => h.2 m x h1 (by omega) h3⟩, h.2 k q hik (by omega) hk⟩
  · rintro ⟨h, hs⟩
    refine ⟨h.1, fun m x h1 h2 h3 => ?_⟩
    by_cases hm : m = k
    · subst hm; rw [hk] at h3; cases h3; exact hs
    · exact h.2 m x h1 (by omega) h3


set_option maxRecDepth 100000 in
set_option maxHeartbeats 6000000 in
theorem offersBest_walk (a0 : Option Addr) (len0 cap0 : Nat) (z0 : List BidD) (w : World) (h0 : IsBids w a0 len0 cap0 z0) :
    Calls Try.prog 6 #[.slice a0 len0 cap0] w fun e w' => e = .returned (.bool true) ∧ Below w.heap.size w w' := by
  go_enter Try.func6, Try.ntmps6
  go_wp2_with fail
  refine (offers_any a0 len0 cap0 z0 60 w h0 (by decide)).mono ?_
  rintro e w1 ⟨v1, rfl, HO1, hb1⟩; (repeat (with_reducible (replace hb1 := Below.undrew hb1))); obtain ⟨hc1, hf1⟩ := bcell hb1; have hz1 := hb1.size; (repeat (first | rw [World.size_alloc] at hz1 | rw [World.size_drew] at hz1 | rw [World.size_setCell] at hz1)); (try have : w.heap.size < w1.heap.size := by omega); (try have : w.heap.size < w1.heap.size + 1 := by omega); (try have : w.heap.size < w1.heap.size + 1 + 1 := by omega); (try have : w.heap.size < w1.heap.size + 1 + 1 + 1 := by omega)
  have HOK := Lib.hid (bids_ok z0 60)
  have hol := bids_len z0 60
  generalize (z0.take 60).map bidO = os at *
  obtain ⟨a1, ca, rfl⟩ := HO1.shape
  rw [List.length_map] at HO1 ⊢
  have HO1 := Lib.hid HO1
  go_wp2_with fail
  refine (bestOf_any a1 ca os w1 HO1.out.sl (by omega) HOK.out).mono ?_
  rintro e w2 ⟨v2, ys, rfl, HO2, HR2, hl2, hb2⟩; (repeat (with_reducible (replace hb2 := Below.undrew hb2))); obtain ⟨hc2, hf2⟩ := bcell hb2; have hz2 := hb2.size; (repeat (first | rw [World.size_alloc] at hz2 | rw [World.size_drew] at hz2 | rw [World.size_setCell] at hz2)); (try have : w.heap.size < w2.heap.size := by omega); (try have : w.heap.size < w2.heap.size + 1 := by omega); (try have : w.heap.size < w2.heap.size + 1 + 1 := by omega); (try have : w.heap.size < w2.heap.size + 1 + 1 + 1 := by omega); (try have : w1.heap.size < w2.heap.size := by omega); (try have : w1.heap.size < w2.heap.size + 1 := by omega); (try have : w1.heap.size < w2.heap.size + 1 + 1 := by omega); (try have : w1.heap.size < w2.heap.size + 1 + 1 + 1 := by omega)
  obtain ⟨a2, cy, rfl⟩ := HO2.shape
  rw [List.length_map] at HO2 ⊢
  have HS := Lib.hid (HO1.out.below hb2).sl
  have HY := Lib.hid HO2.sl
  have HRY := Lib.hid HR2
  have HYK := Lib.hid (fun o ho => HOK.out o (HR2.met HOK.out o ho).1)
  have HB2 := Lib.hid (show Below w.heap.size w w2 by (repeat' (first | (with_reducible exact Below.refl _ _) | (with_reducible assumption) | (with_reducible refine Below.alloc ?_ ?_ _) | (with_reducible refine Below.drew ?_) | (with_reducible refine Below.stepG ?_ (by assumption) ?_) | (with_reducible refine Below.setCell ?_ ?_ _) | omega | (dsimp only; omega) | (simp; done) | (simp; omega))))
  clear HO1 HO2 HR2 hb1 hb2 hc1 hf1 hc2 hf2 h0
  go_wp2_with fail
  go_loopw [6] (fun i wr => ∃ j : Nat, j ≤ os.length ∧ i = .int .i64 j ∧ Hid (Below w2.heap.size w2 wr)) (fun i _ => os.length - (intOf i).toNat)
  case atStart => exact ⟨0, Nat.zero_le _, rfl, Below.refl _ _⟩
  case round =>
    obtain ⟨j, hj, rfl, HR⟩ := hrel
    have hzr := HR.out.size
    by_cases hlt : j < os.length
    · obtain ⟨o, ho⟩ : ∃ o, os[j]? = some o := ⟨_, List.getElem?_eq_getElem hlt⟩
      obtain ⟨b, off, rfl, hb, d0, d1, d2, d3, d4, d5, d6, d7⟩ := Sl.of8 HS.out HR.out ho
      have HO := Lib.hid ho
      have HOo := Lib.hid (HOK.out o (List.mem_of_getElem? ho))
      have hm := HOo.out.2.2.2.2.1
      clear ho
      have ed : decide ((o.met : Int) < 999) = decide (o.met < 999) := by
        by_cases h : o.met < 999
        · rw [decide_eq_true h]; simp; omega
        · rw [decide_eq_false h]; simp; omega
      go_wp2_with fail
      obtain ⟨Y, hY⟩ : ∃ Y, Y = wr.alloc (.cells #[.bool false, .int .u64 (hiOf false o.n), .int .u64 (loOf o.n), .int .i64 o.k, .int .i64 o.src, .int .i64 o.peer, .int .i64 o.met, .int .i64 o.hop] 84) := ⟨_, rfl⟩
      have y0 : Y.cell? ⟨wr.heap.size, 0, none⟩ = some (.bool false) := by rw [hY]; simp
      have y1 : Y.cell? ⟨wr.heap.size, 1, none⟩ = some (.int .u64 (hiOf false o.n)) := by rw [hY]; simp
      have y2 : Y.cell? ⟨wr.heap.size, 2, none⟩ = some (.int .u64 (loOf o.n)) := by rw [hY]; simp
      have y3 : Y.cell? ⟨wr.heap.size, 3, none⟩ = some (.int .i64 o.k) := by rw [hY]; simp
      have y4 : Y.cell? ⟨wr.heap.size, 4, none⟩ = some (.int .i64 o.src) := by rw [hY]; simp
      have y5 : Y.cell? ⟨wr.heap.size, 5, none⟩ = some (.int .i64 o.peer) := by rw [hY]; simp
      have y6 : Y.cell? ⟨wr.heap.size, 6, none⟩ = some (.int .i64 o.met) := by rw [hY]; simp
      have hYs : wr.heap.size < Y.heap.size := by rw [hY]; simp
      have HYB := Lib.hid (show Below w2.heap.size w2 Y by rw [hY]; exact HR.out.alloc hzr _)
      rw [← hY]
      obtain ⟨A, hA⟩ : ∃ A, A = wr.heap.size := ⟨_, rfl⟩
      rw [← hA] at y0 y1 y2 y3 y4 y5 y6 hYs ⊢
      clear hA hY d0 d1 d2 d3 d4 d5 d6 d7 HR hzr
      obtain ⟨c0, hc0⟩ : ∃ c0, c0 = decide (o.met < 999) := ⟨_, rfl⟩
      rw [← hc0]
      have HC0 : Hid (c0 = true ↔ LastK os o j (j + 1)) := by
        show _ ↔ _
        rw [hc0, decide_eq_true_iff]
        exact ⟨fun h => ⟨h, fun m q h1 h2 => by omega⟩, fun h => h.1⟩
      clear hc0 ed
      go_loopw [8, 9] (fun l k wk => ∃ q : Nat, j < q ∧ q ≤ os.length ∧ k = .int .i64 q ∧ (∃ c : Bool, l = .bool c ∧ Hid (c = true ↔ LastK os o j q)) ∧ Hid (Below Y.heap.size Y wk)) (fun _ k _ => os.length - (intOf k).toNat)
      case atStart => exact ⟨j + 1, by omega, by omega, by go_num, ⟨c0, rfl, HC0⟩, Below.refl _ _⟩
      case round =>
        obtain ⟨q, hjq, hq, rfl, ⟨c, rfl, HC⟩, HK⟩ := hrel
        by_cases hqt : q < os.length
        · obtain ⟨x, hx⟩ : ∃ x, os[q]? = some x := ⟨_, List.getElem?_eq_getElem hqt⟩
          have cA := (bcell HK.out).1
          have k0 := (cA A 0 hYs).trans y0
          have k1 := (cA A 1 hYs).trans y1
          have k2 := (cA A 2 hYs).trans y2
          have k3 := (cA A 3 hYs).trans y3
          have k4 := (cA A 4 hYs).trans y4
          have k5 := (cA A 5 hYs).trans y5
          obtain ⟨b', off', hb', hlt', d0, d1, d2, d3, d4, d5, d6, d7⟩ := Sl.of8 HS.out (HYB.out.trans (HK.out.mono HYB.out.size)) hx
          simp only [Option.some.injEq, Addr.mk.injEq, and_true] at hb'
          obtain ⟨rfl, rfl⟩ := hb'
          have HST := Lib.hid (lastK_step (o := o) hx hjq)
          have hxo := (HOK.out x (List.mem_of_getElem? hx)).1.1
          have hoo := HOo.out.1.1
          clear cA d6 d7 hx y0 y1 y2 y3 y4 y5 y6
          cases c with
          | false =>
            have HC2 : Hid (false = true ↔ LastK os o j (q + 1)) := by
              show _ ↔ _
              rw [HST.out, ← HC.out]; simp
            clear HC HST hxo hoo
            go_wp2_with fail
            go_quiet (fail)
            go_wp2
            go_roundw
            case rel => exact ⟨q + 1, by omega, by omega, by go_num, ⟨false, rfl, HC2⟩, below_drewN HK.out _⟩
            case measure => simp [intOf]; omega
          | true =>
            by_cases hsk : SameK x o
            · have HC2 : Hid (¬ LastK os o j (q + 1)) := by
                show ¬ _
                rw [HST.out]
                exact fun h => h.2 hsk
              obtain ⟨e1, e2, e3, e4⟩ := hsk
              rw [e1] at d1 d2
              rw [e2] at d3
              rw [e3] at d4
              rw [e4] at d5
              clear e1 e2 e3 e4 HST HC hxo hoo
              go_wp2_with fail
              go_quiet (fail)
              go_wp2
              go_roundw
              case rel => exact ⟨q + 1, by omega, by omega, by go_num, ⟨false, rfl, ⟨fun h => (by cases h), fun h => absurd h HC2.out⟩⟩, below_drewN HK.out _⟩
              case measure => simp [intOf]; omega
            · have HC2 : Hid (LastK os o j (q + 1)) := HST.out.2 ⟨HC.out.1 rfl, hsk⟩
              have hne : ¬ (loOf x.n = loOf o.n) ∨ ¬ ((x.k : Int) = o.k) ∨ (x.n = o.n ∧ x.k = o.k ∧ ((x.src : Int) != o.src) = true) ∨ (x.n = o.n ∧ x.k = o.k ∧ x.src = o.src ∧ ((x.peer : Int) != o.peer) = true) := by
                rw [loOf_false hxo, loOf_false hoo, bne_iff_ne, bne_iff_ne]
                unfold SameK at hsk
                omega
              clear hsk HST HC hxo hoo
              rcases hne with hne | hne | ⟨e1, e2, hne⟩ | ⟨e1, e2, e3, hne⟩
              all_goals
                (try rw [e1] at d1 d2)
                (try rw [e2] at d3)
                (try rw [e3] at d4)
                (try clear e1 e2)
                (try clear e3)
                go_wp2_with fail
                go_quiet (fail)
                go_wp2
                go_roundw
                case rel => exact ⟨q + 1, by omega, by omega, by go_num, ⟨true, rfl, ⟨fun _ => HC2.out, fun _ => rfl⟩⟩, below_drewN HK.out _⟩
                case measure => simp [intOf]; omega
        · obtain rfl : q = os.length := by omega
          have cA := (bcell HK.out).1
          have k0 := (cA A 0 hYs).trans y0
          have k1 := (cA A 1 hYs).trans y1
          have k2 := (cA A 2 hYs).trans y2
          have k3 := (cA A 3 hYs).trans y3
          have k4 := (cA A 4 hYs).trans y4
          have k5 := (cA A 5 hYs).trans y5
          have k6 := (cA A 6 hYs).trans y6
          have HKB := Lib.hid (HYB.out.trans (HK.out.mono HYB.out.size))
          have hAk : A < wr.heap.size := by have := HK.out.size; omega
          clear cA y0 y1 y2 y3 y4 y5 y6 HK HYB hYs
          cases c with
          | false =>
            clear HC
            go_wp2
            go_roundw
            case rel => exact ⟨j + 1, by omega, by go_num, HKB⟩
            case measure => simp [intOf]; omega
          | true =>
            have HLV := Lib.hid (lastK_live HOK.out HO.out (HC.out.1 rfl))
            clear HC
            obtain ⟨V, hV⟩ : ∃ V, V = wr := ⟨_, rfl⟩
            subst hV
            go_wp2_with fail
            go_loopw [10, 11] (fun f k wz => ∃ q : Nat, q ≤ ys.length ∧ k = .int .i64 q ∧ (∃ c : Bool, f = .bool c ∧ Hid (c = true ↔ ∃ y ∈ ys.take q, SameP y o)) ∧ Hid (Below V.heap.size V wz)) (fun _ k _ => ys.length - (intOf k).toNat)
            case atStart => exact ⟨0, Nat.zero_le _, rfl, ⟨false, rfl, by show _ ↔ _; simp⟩, Below.refl _ _⟩
            case round =>
              obtain ⟨q, hq, rfl, ⟨c, rfl, HC⟩, HK⟩ := hrel
              by_cases hqt : q < ys.length
              · obtain ⟨x, hx⟩ : ∃ x, ys[q]? = some x := ⟨_, List.getElem?_eq_getElem hqt⟩
                have cA := (bcell HK.out).1
                have m0 := (cA A 0 hAk).trans k0
                have m1 := (cA A 1 hAk).trans k1
                have m2 := (cA A 2 hAk).trans k2
                have m3 := (cA A 3 hAk).trans k3
                have m4 := (cA A 4 hAk).trans k4
                have m5 := (cA A 5 hAk).trans k5
                have m6 := (cA A 6 hAk).trans k6
                have hAz : A < wr.heap.size := by have := HK.out.size; omega
                obtain ⟨b', off', rfl, hlt', d0, d1, d2, d3, d4, d5, d6, d7⟩ := Sl.of8 HY.out (HKB.out.trans (HK.out.mono HKB.out.size)) hx
                have hxm := List.mem_of_getElem? hx
                have htk : ys.take (q + 1) = ys.take q ++ [x] := by rw [List.take_add_one, hx]; rfl
                have hB2 : Hid (Below V.heap.size V (wr.alloc (.cells #[.bool false, .int .u64 (hiOf false x.n), .int .u64 (loOf x.n), .int .i64 x.k, .int .i64 x.src, .int .i64 x.peer, .int .i64 x.met, .int .i64 x.hop] 84))) := HK.out.alloc HK.out.size _
                clear cA k0 k1 k2 k3 k4 k5 k6
                by_cases hsp : SameP x o
                · have HF2 : Hid (∃ y ∈ ys.take (q + 1), SameP y o) := ⟨x, by rw [htk]; simp, hsp⟩
                  have hbt := ((HRY.out.2.1 x).1 hxm).2 o HLV.out hsp.symm
                  have hne : (¬ o.src < x.src ∧ ((x.src : Int) == o.src) = false) ∨ (x.src = o.src ∧ ¬ o.met < x.met ∧ ((x.met : Int) == o.met) = false) ∨ (x.src = o.src ∧ x.met = o.met ∧ ¬ o.peer < x.peer) := by
                    rw [beq_eq_false_iff_ne, beq_eq_false_iff_ne]
                    unfold Btr at hbt
                    omega
                  obtain ⟨e1, e2⟩ := hsp
                  clear hx hxm htk HC hbt
                  rcases hne with ⟨n1, n2⟩ | ⟨e3, n1, n2⟩ | ⟨e3, e4, n1⟩
                  all_goals
                    rw [e1] at d1 d2 hB2
                    rw [e2] at d3 hB2
                    (try rw [e3] at d4 hB2)
                    (try rw [e4] at d6 hB2)
                    clear e1 e2
                    (try clear e3)
                    (try clear e4)
                    go_wp2
                    go_roundw
                    case rel => exact ⟨q + 1, by omega, by go_num, ⟨true, rfl, ⟨fun _ => HF2.out, fun _ => rfl⟩⟩, hB2⟩
                    case measure => simp [intOf]; omega
                · have HF2 : Hid (c = true ↔ ∃ y ∈ ys.take (q + 1), SameP y o) := by
                    show _ ↔ _
                    rw [htk, HC.out]
                    constructor
                    · rintro ⟨y, hy, hs⟩; exact ⟨y, List.mem_append_left _ hy, hs⟩
                    · rintro ⟨y, hy, hs⟩
                      rcases List.mem_append.1 hy with hy | hy
                      · exact ⟨y, hy, hs⟩
                      · rw [List.mem_singleton] at hy; rw [hy] at hs; exact absurd hs hsp
                  have hne : ¬ (loOf x.n = loOf o.n) ∨ ¬ ((x.k : Int) = o.k) := by
                    have h1 := (HYK.out x hxm).1.1
                    have h2 := HOo.out.1.1
                    rw [loOf_false h1, loOf_false h2]
                    unfold SameP at hsp
                    omega
                  clear hx hxm htk hsp HC
                  rcases hne with hne | hne
                  all_goals
                    go_wp2
                    go_roundw
                    case rel => exact ⟨q + 1, by omega, by go_num, ⟨c, rfl, HF2⟩, hB2⟩
                    case measure => simp [intOf]; omega
              · obtain rfl : q = ys.length := by omega
                obtain rfl : c = true := by
                  rw [HC.out, List.take_length]
                  exact HRY.out.2.2 o HLV.out
                have HKZ := Lib.hid (HKB.out.trans (HK.out.mono HKB.out.size))
                clear HC k0 k1 k2 k3 k4 k5 k6 HK HKB
                go_wp2
                go_roundw
                case rel => exact ⟨j + 1, by omega, by go_num, HKZ⟩
                case measure => simp [intOf]; omega
    · obtain rfl : j = os.length := by omega
      go_wp2_with fail
      go_loopw [13] (fun k wk => ∃ q : Nat, q ≤ ys.length ∧ k = .int .i64 q ∧ Hid (Below w2.heap.size w2 wk)) (fun k _ => ys.length - (intOf k).toNat)
      case atStart => exact ⟨0, Nat.zero_le _, rfl, HR⟩
      case round =>
        obtain ⟨q, hq, rfl, HKV⟩ := hrel
        by_cases hqt : q < ys.length
        · obtain ⟨x, hx⟩ : ∃ x, ys[q]? = some x := ⟨_, List.getElem?_eq_getElem hqt⟩
          have HX := Lib.hid hx
          have hxo := Lib.hid ((HRY.out.met HOK.out x (List.mem_of_getElem? hx)).1)
          obtain ⟨U, hU⟩ : ∃ U, U = wr := ⟨_, rfl⟩
          subst hU
          clear hx
          go_wp2_with fail
          go_loopw [14, 15] (fun wv i wz => ∃ m : Nat, m ≤ os.length ∧ i = .int .i64 m ∧ (∃ c : Bool, wv = .bool c ∧ Hid (c = true ↔ x ∈ os.take m)) ∧ Hid (Below U.heap.size U wz)) (fun _ i _ => os.length - (intOf i).toNat)
          case atStart => exact ⟨0, Nat.zero_le _, rfl, ⟨false, rfl, ⟨fun h => (by cases h), fun h => by simp at h⟩⟩, Below.refl _ _⟩
          case round =>
            obtain ⟨m, hm, rfl, ⟨c, rfl, HC⟩, HK⟩ := hrel
            have HKW := Lib.hid (HKV.out.trans (HK.out.mono HKV.out.size))
            by_cases hmt : m < os.length
            · obtain ⟨u, hu⟩ : ∃ u, os[m]? = some u := ⟨_, List.getElem?_eq_getElem hmt⟩
              have htk : os.take (m + 1) = os.take m ++ [u] := by rw [List.take_add_one, hu]; rfl
              obtain ⟨b1, o1, rfl, _, d0, d1, d2, d3, d4, d5, d6, d7⟩ := Sl.of8 HS.out HKW.out hu
              obtain ⟨b2, o2, rfl, _, c0, c1, c2, c3, c4, c5, c6, c7⟩ := Sl.of8 HY.out HKW.out HX.out
              cases c with
              | true =>
                have HC2 := Lib.hid (show x ∈ os.take (m + 1) by
                  rw [htk]
                  exact List.mem_append_left _ (HC.out.1 rfl))
                clear HC htk hu
                go_wp2_with fail
                go_quiet (fail)
                go_wp2
                go_roundw
                case rel => exact ⟨m + 1, by omega, by go_num, ⟨true, rfl, ⟨fun _ => HC2.out, fun _ => rfl⟩⟩, below_drewN HK.out _⟩
                case measure => simp [intOf]; omega
              | false =>
                by_cases hux : u = x
                · have HC2 := Lib.hid (show x ∈ os.take (m + 1) by
                    rw [htk, hux]; simp)
                  subst hux
                  clear HC htk hu
                  go_wp2_with fail
                  go_quiet (fail)
                  go_wp2
                  go_roundw
                  case rel => exact ⟨m + 1, by omega, by go_num, ⟨true, rfl, ⟨fun _ => HC2.out, fun _ => rfl⟩⟩, below_drewN HK.out _⟩
                  case measure => simp [intOf]; omega
                · have HC2 : Hid (¬ x ∈ os.take (m + 1)) := by
                    show ¬ _
                    rw [htk]
                    intro h
                    rcases List.mem_append.1 h with h | h
                    · have := HC.out.2 h; cases this
                    · rw [List.mem_singleton] at h; exact hux h.symm
                  have hne : ¬ (loOf u.n = loOf x.n) ∨ ¬ ((u.k : Int) = x.k) ∨ ¬ ((u.src : Int) = x.src) ∨ ¬ ((u.peer : Int) = x.peer) ∨ ¬ ((u.met : Int) = x.met) ∨ ¬ ((u.hop : Int) = x.hop) := by
                    have h1 := (HOK.out u (List.mem_of_getElem? hu)).1.1
                    have h2 := (HOK.out x hxo.out).1.1
                    rw [loOf_false h1, loOf_false h2]
                    obtain ⟨u1, u2, u3, u4, u5, u6⟩ := u
                    obtain ⟨x1, x2, x3, x4, x5, x6⟩ := x
                    simp only [OfD.mk.injEq, not_and] at hux
                    dsimp only
                    omega
                  clear HC htk hu hux
                  rcases hne with hne | hne | hne | hne | hne | hne
                  all_goals
                    go_wp2_with fail
                    go_quiet (fail)
                    go_wp2
                    go_roundw
                    case rel => exact ⟨m + 1, by omega, by go_num, ⟨false, rfl, ⟨fun h => (by cases h), fun h => absurd h HC2.out⟩⟩, below_drewN HK.out _⟩
                    case measure => simp [intOf]; omega
            · obtain rfl : m = os.length := by omega
              obtain rfl : c = true := by
                rw [HC.out, List.take_length]
                exact hxo.out
              clear HC
              by_cases hq0 : 0 < q
              · obtain ⟨y, hy⟩ : ∃ y, ys[q - 1]? = some y := ⟨_, List.getElem?_eq_getElem (by omega)⟩
                obtain ⟨p, hp⟩ : ∃ p, p = q - 1 := ⟨_, rfl⟩
                rw [← hp] at hy
                have ew : IntKind.i64.wrap ((q : Int) - 1) = (p : Int) := by rw [IntKind.wrap_i64]; omega
                have hpl : p < ys.length := by omega
                obtain ⟨b2, o2, rfl, _, c0, c1, c2, c3, _, _, _, _⟩ := Sl.of8 HY.out HKW.out HX.out
                obtain ⟨b3, o3, hb3, _, d0, d1, d2, d3, _, _, _, _⟩ := Sl.of8 HY.out HKW.out hy
                simp only [Option.some.injEq, Addr.mk.injEq, and_true] at hb3
                obtain ⟨rfl, rfl⟩ := hb3
                have hne : ¬ (loOf y.n = loOf x.n) ∨ ¬ ((y.k : Int) = x.k) := by
                  have h1 := (HYK.out y (List.mem_of_getElem? hy)).1.1
                  have h2 := (HOK.out x hxo.out).1.1
                  rw [loOf_false h1, loOf_false h2]
                  obtain ⟨g1, g2⟩ := List.getElem?_eq_some_iff.1 hy
                  obtain ⟨g3, g4⟩ := List.getElem?_eq_some_iff.1 HX.out
                  have := (List.pairwise_iff_getElem.1 HRY.out.1) p q g1 g3 (by omega)
                  rw [g2, g4] at this
                  omega
                clear hy hp
                rcases hne with hne | hne
                all_goals
                  go_wp2_with fail
                  go_quiet (fail)
                  go_wp2
                  go_roundw
                  case rel => exact ⟨q + 1, by omega, by go_num, below_drewN HKW.out _⟩
                  case measure => simp [intOf]; omega
              · obtain rfl : q = 0 := by omega
                go_wp2_with fail
                go_quiet (fail)
                go_wp2
                go_roundw
                case rel => exact ⟨0 + 1, by omega, by go_num, below_drewN HKW.out _⟩
                case measure => simp [intOf]; omega
        · obtain rfl : q = ys.length := by omega
          go_wp2
          go_returns
          exact ⟨rfl, HB2.out.trans (HKV.out.mono HB2.out.size)⟩
end Go.Proofs.Ytllemhknmleklaa
