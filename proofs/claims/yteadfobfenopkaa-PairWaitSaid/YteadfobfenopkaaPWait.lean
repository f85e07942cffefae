
/- PairWait: the walk. -/
import Derived.Test.YteadfobfenopkaaPrK
import Derived.Test.YteadfobfenopkaaPrW
set_option linter.unusedVariables false
set_option linter.unusedSimpArgs false
namespace Go.Proofs.Yteadfobfenopkaa
open Go Go.RowKit Go.Sort Wc Wk

/-- Four counters in a block of their own. -/
structure Four (w : World) (B : Nat) (f : Nat → Nat) : Prop where
  lt : B < w.heap.size
  c : ∀ n, n < 4 → w.cell? ⟨B, n, none⟩ = some (.int .i64 (f n))
  fz : ∀ n, n < 4 → w.frozen? ⟨B, n, none⟩ = false
theorem Four.new (w : World) (E : TypeId) : Four (w.alloc (.cells #[.int .i64 0, .int .i64 0, .int .i64 0, .int .i64 0] E)) w.heap.size (fun _ => 0) :=
  ⟨by simp, fun n hn => by
    rw [World.cell?_alloc_new]
    match n, hn with
    | 0, _ => rfl
    | 1, _ => rfl
    | 2, _ => rfl
    | 3, _ => rfl, fun n hn => by simp⟩
theorem Four.below {w w' : World} {B : Nat} {f : Nat → Nat} (h : Four w B f) (hb : Below w.heap.size w w') : Four w' B f :=
  ⟨Nat.lt_of_lt_of_le h.lt hb.size, fun n hn => (hb.cell (p := ⟨B, n, none⟩) h.lt).trans (h.c n hn), fun n hn => (hb.frozen (p := ⟨B, n, none⟩) h.lt).trans (h.fz n hn)⟩
theorem Four.set {w : World} {B : Nat} {f : Nat → Nat} (h : Four w B f) {n : Nat} (hn : n < 4) (v : Nat) : Four (w.setCell ⟨B, n, none⟩ (.int .i64 v)) B (up f n v) := by
  have s0 := chg_set w B n (.int .i64 v)
  refine ⟨Nat.lt_of_lt_of_le h.lt s0.size, fun m hm => ?_, fun m hm => (s0.froz _ _ h.lt).trans (h.fz m hm)⟩
  by_cases e : m = n
  · subst e
    rw [up_same]
    exact World.cell?_setCell_same _ _ _ (h.c m hm)
  · rw [up_other _ _ e]
    exact (s0.cell _ _ h.lt (fun g => e g.2)).trans (h.c m hm)
theorem Four.other {w : World} {B : Nat} {f : Nat → Nat} (h : Four w B f) {A n : Nat} (hA : B ≠ A) (v : Value) : Four (w.setCell ⟨A, n, none⟩ v) B f := by
  have s0 := chg_set w A n v
  exact ⟨Nat.lt_of_lt_of_le h.lt s0.size, fun m hm => (s0.cell _ _ h.lt (fun g => hA g.1)).trans (h.c m hm), fun m hm => (s0.froz _ _ h.lt).trans (h.fz m hm)⟩


set_option maxRecDepth 100000 in
set_option maxHeartbeats 16000000 in
theorem pairWait_walk (a0 : Option Addr) (len0 cap0 : Nat) (z0 : List RawJ) (a1 : Option Addr) (len1 cap1 : Nat) (z1 : List Int) (w : World) (h0 : IsJobs w a0 len0 cap0 z0) (h1 : IsRow .i64 w a1 len1 cap1 z1) :
    Calls Try.prog 13 #[.slice a0 len0 cap0, .slice a1 len1 cap1] w fun e w' => e = .returned (.bool true) ∧ Below w.heap.size w w' := by
  have H0 := Lib.hid h0
  have H1 := Lib.hid h1
  clear h0 h1
  go_enter Try.func13, Try.ntmps13
  go_wp2_with fail
  refine (asks_any a0 len0 cap0 z0 40 w H0.out (by decide)).mono ?_
  rintro e w1 ⟨v1, al, rfl, ho1, hok1, hl1, hb1⟩
  obtain ⟨aa, ac, rfl⟩ := ho1.shape
  rw [List.length_map] at ho1 ⊢
  have HA := Lib.hid ho1.sl
  have HOK := Lib.hid hok1
  have HW := Lib.hid hb1
  have ua := ho1.sl.lens.2.1
  have va := ho1.sl.lens.2.2
  clear ho1 hok1 hb1
  go_wp2_with fail
  refine (picks_any a1 len1 cap1 z1 250 w w1 H1.out HW.out (by decide)).mono ?_
  rintro e w2 ⟨v2, pl, rfl, ho2, hok2, hl2, hb2⟩
  obtain ⟨pa, pc, rfl⟩ := ho2.shape
  rw [List.length_map] at ho2 ⊢
  have HP := Lib.hid ho2.sl
  have HOP := Lib.hid hok2
  replace HA := Lib.hid (HA.out.below hb2)
  replace HW := Lib.hid (HW.out.trans (hb2.mono HW.out.size))
  have ub := ho2.sl.lens.2.1
  have vb := ho2.sl.lens.2.2
  clear ho2 hok2 hb2
  go_wp2_with fail
  refine (paired_any aa pa ac pc al pl w2 HA.out HP.out (by omega) (by omega) HOK.out HOP.out).mono ?_
  rintro e w3 ⟨v3, rfl, ho3, hb3⟩
  obtain ⟨sa, sc, rfl⟩ := ho3.shape
  rw [List.length_map] at ho3 ⊢
  have HS := Lib.hid ho3.sl
  replace HA := Lib.hid (HA.out.below hb3)
  replace HP := Lib.hid (HP.out.below hb3)
  replace HW := Lib.hid (HW.out.trans (hb3.mono HW.out.size))
  have us := ho3.sl.lens.2.1
  have vs := ho3.sl.lens.2.2
  have hKs := Lib.hid (((pasks_ok HOK.out).1.run pl).se)
  clear ho3 hb3
  obtain ⟨X, hX⟩ : ∃ X : World, X = w3 := ⟨_, rfl⟩
  subst hX
  generalize hns : (prun (pasks al) pl).se.length = ns at *
  have HNS := Lib.hid hns
  clear hns
  generalize (prun (pasks al) pl).wt.length = lf
  go_upto_region 8 with fail
  have HF0 := Lib.hid (((Four.new X 85).below (w' := (X.alloc (.cells #[.int .i64 0, .int .i64 0, .int .i64 0, .int .i64 0] 85)).alloc (.cells #[.int .i64 0, .int .i64 0, .int .i64 0, .int .i64 0] 85)) ((Below.refl _ _).alloc (Nat.le_refl _) _)))
  have hF1 := Four.new (X.alloc (.cells #[.int .i64 0, .int .i64 0, .int .i64 0, .int .i64 0] 85)) 85
  rw [World.size_alloc] at hF1
  have HF1 := Lib.hid hF1
  have HBX : Hid (Below X.heap.size X ((X.alloc (.cells #[.int .i64 0, .int .i64 0, .int .i64 0, .int .i64 0] 85)).alloc (.cells #[.int .i64 0, .int .i64 0, .int .i64 0, .int .i64 0] 85))) := Lib.hid (((Below.refl _ _).alloc (Nat.le_refl _) _).alloc (by simp) _)
  clear hF1
  generalize (X.alloc (.cells #[.int .i64 0, .int .i64 0, .int .i64 0, .int .i64 0] 85)).alloc (.cells #[.int .i64 0, .int .i64 0, .int .i64 0, .int .i64 0] 85) = W at *
  obtain ⟨S, hS⟩ : ∃ S, S = X.heap.size := ⟨_, rfl⟩
  obtain ⟨L, hL⟩ : ∃ L, L = X.heap.size + 1 := ⟨_, rfl⟩
  rw [← hL] at HF1 ⊢
  rw [← hS] at HF0 ⊢
  have hSL : S ≠ L := by omega
  have HSX := Lib.hid (show X.heap.size ≤ S ∧ X.heap.size ≤ L by omega)
  clear hS hL
  go_wp2_with fail
  go_loopw [12] (fun i wr => ∃ m : Nat, m ≤ al.length ∧ i = .int .i64 m ∧ Hid (Four wr S (fun _ => 0)) ∧ Hid (Four wr L (looksN (al.take m))) ∧ Hid (Below X.heap.size X wr)) (fun i _ => al.length - (intOf i).toNat)
  case atStart => exact ⟨0, Nat.zero_le _, rfl, HF0, HF1, HBX⟩
  case round =>
    obtain ⟨m, hm, rfl, HF, HG, HB⟩ := hrel
    by_cases hlt : m < al.length
    · obtain ⟨x, hx⟩ : ∃ x, al[m]? = some x := ⟨_, List.getElem?_eq_getElem hlt⟩
      obtain ⟨b, off, rfl, hb, e0, e1, e2, e3, e4, e5, e6, e7, e8, e9, e10, e11, e12, e13⟩ := Sl.ask HA.out HB.out hx
      have hk := HOK.out x (List.mem_of_getElem? hx)
      have HT := Lib.hid (show al.take (m + 1) = al.take m ++ [x] by rw [List.take_add_one, hx]; rfl)
      clear hx e2 e3 e4 e5 e6 e7 e8 e9 e10 e11 e12 e13
      by_cases hr : x.rd = true
      · have hn4 : x.n < 4 := by
          rcases hk with h | h
          · exact h.2.1
          · rw [hr] at h; cases h.1
        have ek : askKind x = 1 := by unfold askKind; rw [if_pos hr]
        rw [ek] at e0
        have hq := (pasks_len (al.take m)).1 x.n
        rw [List.length_take] at hq
        have hq2 : looksN (al.take m) x.n ≤ 40 := by unfold looksN; omega
        have hc := HG.out.c x.n hn4
        have hfz := HG.out.fz x.n hn4
        have hlL := HG.out.lt
        have HU := Lib.hid (show looksN (al.take (m + 1)) = up (looksN (al.take m)) x.n (looksN (al.take m) x.n + 1) by
          rw [HT.out]
          funext n
          rw [looks_snoc]
          by_cases e : n = x.n
          · rw [if_pos ⟨hr, e⟩, e, up_same]
          · rw [if_neg (fun g => e g.2), up_other _ _ e])
        generalize looksN (al.take m) x.n = q at *
        have hi0 : (0 : Int) ≤ x.n := by omega
        have hi4 : (x.n : Int) < 4 := by omega
        have HN4 := Lib.hid hn4
        clear hk hr ek hq
        go_wp2_with fail
        have HG2 := Lib.hid (HG.out.set HN4.out (q + 1))
        have HF2 := Lib.hid (HF.out.other hSL (A := L) (n := x.n) (.int .i64 ((q + 1 : Nat) : Int)))
        rw [← HU.out] at HG2
        have HB2 : Hid (Below X.heap.size X (wr.setCell ⟨L, x.n, none⟩ (.int .i64 ((q + 1 : Nat) : Int)))) := Lib.hid (HB.out.setCell HSX.out.2 _)
        go_roundw
        case rel => exact ⟨m + 1, by omega, by go_num, HF2, HG2, HB2⟩
        case measure => simp [intOf]; omega
      · have ek : askKind x = 2 := by unfold askKind; rw [if_neg hr]
        rw [ek] at e0
        have HU := Lib.hid (show looksN (al.take (m + 1)) = looksN (al.take m) by
          rw [HT.out]
          funext n
          rw [looks_snoc, if_neg (fun g => hr g.1)])
        rw [← HU.out] at HG
        clear hk ek
        go_wp2_with fail
        go_roundw
        case rel => exact ⟨m + 1, by omega, by go_num, HF, HG, HB⟩
        case measure => simp [intOf]; omega
    · obtain rfl : m = al.length := by omega
      have e1 : al.take al.length = al := List.take_of_length_le (Nat.le_refl _)
      rw [e1] at HG
      clear e1
      go_wp2_with fail
      go_loopw [13, 14] (fun kv i wr => ∃ m : Nat, m ≤ pl.length ∧ i = .int .i64 m ∧ kv = .int .i64 (prun (pasks al) (pl.take m)).se.length ∧ (∃ c : Nat → Nat, Hid (Wt (prun (pasks al) (pl.take m)) (looksN al) c) ∧ Hid (∀ n, c n ≤ m) ∧ Hid (Four wr S c)) ∧ Hid (Four wr L (looksN al)) ∧ Hid (Below X.heap.size X wr)) (fun _ i _ => pl.length - (intOf i).toNat)
      case atStart => exact ⟨0, Nat.zero_le _, rfl, by rw [List.take_zero]; show _ = Value.int .i64 ((pasks al).se.length : Nat); rw [pasks_se]; rfl, ⟨fun _ => 0, wait_zero HOK.out, fun _ => Nat.le_refl _, HF⟩, HG, HB⟩
      case round =>
        obtain ⟨m, hm, rfl, rfl, ⟨c, HWt, HC, HF⟩, HG, HB⟩ := hrel
        by_cases hlt : m < pl.length
        · obtain ⟨n, hn⟩ : ∃ n, pl[m]? = some n := ⟨_, List.getElem?_eq_getElem hlt⟩
          obtain ⟨b, off, rfl, hb, e0⟩ := Sl.pick HP.out HB.out hn
          have hst := wait_step HWt.out hn (HOP.out n (List.mem_of_getElem? hn))
          have HKL := Lib.hid (((pasks_ok HOK.out).1.run (pl.take m)).se)
          have hkl : (prun (pasks al) (pl.take m)).se.length ≤ 250 := by have := HKL.out; rw [List.length_take] at this; omega
          generalize hk0 : (prun (pasks al) (pl.take m)).se.length = k0 at *
          clear hn HKL hk0
          rcases hst with ⟨rfl, hw, hl⟩ | ⟨hn4, hw, hl⟩
          · have HW2 := Lib.hid hw
            have HL2 := Lib.hid hl
            clear hw hl
            go_wp2_with fail
            go_roundw
            case rel => exact ⟨m + 1, by omega, by go_num, by rw [HL2.out], ⟨c, HW2, fun n => by have := HC.out n; omega, HF⟩, HG, HB⟩
            case measure => simp [intOf]; omega
          · have HW2 := Lib.hid hw
            have HL2 := Lib.hid hl
            have hi0 : (0 : Int) ≤ n := by omega
            have hi4 : (n : Int) < 4 := by omega
            have hne : ((n : Int) == 4) = false := by rw [beq_eq_false_iff_ne]; omega
            have hc := HF.out.c n hn4
            have hfz := HF.out.fz n hn4
            have hlS := HF.out.lt
            have hcm := HC.out n
            have HN4 := Lib.hid hn4
            clear hw hl hn4
            go_upto_region 20 with fail
            have HF2 : Hid (Four (wr.setCell ⟨S, n, none⟩ (.int .i64 ((c n : Int) + 1))) S (up c n (c n + 1))) := Lib.hid (HF.out.set HN4.out (c n + 1))
            have HG2 : Hid (Four (wr.setCell ⟨S, n, none⟩ (.int .i64 ((c n : Int) + 1))) L (looksN al)) := Lib.hid (HG.out.other (fun e => hSL e.symm) _)
            have HB2 : Hid (Below X.heap.size X (wr.setCell ⟨S, n, none⟩ (.int .i64 ((c n : Int) + 1)))) := Lib.hid (HB.out.setCell HSX.out.1 _)
            have HC2 : Hid (∀ j, up c n (c n + 1) j ≤ m + 1) := Lib.hid (fun j => by
              by_cases e : j = n
              · rw [e, up_same]; omega
              · rw [up_other _ _ e]; have := HC.out j; omega)
            generalize wr.setCell ⟨S, n, none⟩ (.int .i64 ((c n : Int) + 1)) = Y at *
            have hcY : Y.cell? ⟨S, n, none⟩ = some (.int .i64 ((c n : Int) + 1)) := by
              have := HF2.out.c n HN4.out
              rw [up_same] at this
              exact this
            have hlY := HG2.out.c n HN4.out
            have hSY := HF2.out.lt
            have hLY := HG2.out.lt
            have hlk : looksN al n ≤ 40 := by have := (pasks_len al).1 n; unfold looksN; omega
            have t4 : ((c n : Int) + 1).tmod 4 = ((c n + 1) % 4 : Nat) := by rw [Int.tmod_eq_emod_of_nonneg (by omega)]; omega
            generalize c n = q at *
            generalize looksN al n = l at *
            have ewm : IntKind.i64.wrap (4 * (l : Int)) = 4 * (l : Int) := IntWalk.i64_in _ (by omega)
            have hd : ∀ k, Below Y.heap.size Y (Y.drewN k) := fun k => ⟨rfl, rfl, rfl, Nat.le_refl _, fun _ _ => rfl⟩
            clear HF HG HB HC hc hfz
            rcases HL2.out with ⟨g1, g2, g3, x, g4, g5⟩ | ⟨g1, g3⟩
            · have dA : ((((q : Int) + 1).tmod 4) == 3) = true := by rw [t4, g1]; rfl
              have dB : decide ((q : Int) + 1 ≤ 4 * (l : Int)) = true := decide_eq_true (by omega)
              have hk0 : k0 < ns := by
                have := (List.getElem?_eq_some_iff.1 g5).1
                rw [HNS.out] at this
                exact this
              obtain ⟨bs, os, rfl, hbs, hcs⟩ := Sl.at (HS.out.below HB2.out) (i := k0) (c := seenCells x) (by rw [List.getElem?_map, g5]; rfl)
              have s0 := hcs 0 (.int .i64 (n : Int)) (by rw [← g4]; rfl)
              rw [Nat.add_zero] at s0
              have G3 := Lib.hid g3
              have dC : decide ((ns : Int) ≤ (k0 : Int)) = false := decide_eq_false (by omega)
              clear hcs g1 g2 g3 g4 g5 t4
              go_quiet (fail)
              go_wp2_with fail
              go_roundw
              case rel =>
                refine ⟨m + 1, by omega, by go_num, ?_, ⟨_, HW2, HC2, ?_⟩, ?_, ?_⟩
                · rw [G3.out]; rfl
                · exact HF2.out.below (hd _)
                · exact HG2.out.below (hd _)
                · exact HB2.out.trans ((hd _).mono HB2.out.size)
              case measure => simp [intOf]; omega
            · have G3 := Lib.hid g3
              by_cases g2 : (q + 1) % 4 = 3
              · have dA : ((((q : Int) + 1).tmod 4) == 3) = true := by rw [t4, g2]; rfl
                have dB : decide ((q : Int) + 1 ≤ 4 * (l : Int)) = false := decide_eq_false (by omega)
                clear g1 g2 g3 t4
                go_quiet (fail)
                go_wp2_with fail
                go_roundw
                case rel =>
                  refine ⟨m + 1, by omega, by go_num, ?_, ⟨_, HW2, HC2, ?_⟩, ?_, ?_⟩
                  · rw [G3.out]
                  · exact HF2.out.below (hd _)
                  · exact HG2.out.below (hd _)
                  · exact HB2.out.trans ((hd _).mono HB2.out.size)
                case measure => simp [intOf]; omega
              · have dN : ¬ (((q : Int) + 1).tmod 4) = 3 := by rw [t4]; omega
                have dA : ((((q : Int) + 1).tmod 4) == 3) = false := beq_eq_false_iff_ne.2 dN
                have dE : (((q : Int) + 1) % 4 == 3) = false := by rw [beq_eq_false_iff_ne]; omega
                clear dN
                clear g1 g2 g3 t4
                refine wp_region_qb (by kernel_rfl) (by kernel_rfl) (fun kq => ?_)
                repeat (first | go_big_quiet_step (fail) | quiet_step (fail))
                clear kq
                refine wpQuiet_nil ?_; intro w5 hb5; (repeat (with_reducible (replace hb5 := Below.undrew hb5))); obtain ⟨hc5, hf5⟩ := bcell hb5; have hz5 := hb5.size; (repeat (first | rw [World.size_alloc] at hz5 | rw [World.size_drew] at hz5 | rw [World.size_setCell] at hz5)); (try have : b < w5.heap.size := by omega); (try have : b < w5.heap.size + 1 := by omega); (try have : b < w5.heap.size + 1 + 1 := by omega); (try have : b < w5.heap.size + 1 + 1 + 1 := by omega); (try have : w.heap.size < w5.heap.size := by omega); (try have : w.heap.size < w5.heap.size + 1 := by omega); (try have : w.heap.size < w5.heap.size + 1 + 1 := by omega); (try have : w.heap.size < w5.heap.size + 1 + 1 + 1 := by omega); (try have : w1.heap.size < w5.heap.size := by omega); (try have : w1.heap.size < w5.heap.size + 1 := by omega); (try have : w1.heap.size < w5.heap.size + 1 + 1 := by omega); (try have : w1.heap.size < w5.heap.size + 1 + 1 + 1 := by omega); (try have : w2.heap.size < w5.heap.size := by omega); (try have : w2.heap.size < w5.heap.size + 1 := by omega); (try have : w2.heap.size < w5.heap.size + 1 + 1 := by omega); (try have : w2.heap.size < w5.heap.size + 1 + 1 + 1 := by omega); (try have : w3.heap.size < w5.heap.size := by omega); (try have : w3.heap.size < w5.heap.size + 1 := by omega); (try have : w3.heap.size < w5.heap.size + 1 + 1 := by omega); (try have : w3.heap.size < w5.heap.size + 1 + 1 + 1 := by omega); (try have : w3.heap.size + 1 < w5.heap.size := by omega); (try have : w3.heap.size + 1 < w5.heap.size + 1 := by omega); (try have : w3.heap.size + 1 < w5.heap.size + 1 + 1 := by omega); (try have : w3.heap.size + 1 < w5.heap.size + 1 + 1 + 1 := by omega); (try have : wr.heap.size < w5.heap.size := by omega); (try have : wr.heap.size < w5.heap.size + 1 := by omega); (try have : wr.heap.size < w5.heap.size + 1 + 1 := by omega); (try have : wr.heap.size < w5.heap.size + 1 + 1 + 1 := by omega)
                have HB5 := Lib.hid hb5
                clear hc5 hf5 hz5 hb5
                go_wp2_with fail
                go_roundw
                case rel =>
                  refine ⟨m + 1, by omega, by go_num, ?_, ⟨_, HW2, HC2, ?_⟩, ?_, ?_⟩
                  · rw [G3.out]
                  · exact HF2.out.below HB5.out
                  · exact HG2.out.below HB5.out
                  · exact HB2.out.trans (HB5.out.mono HB2.out.size)
                case measure => simp [intOf]; omega
        · obtain rfl : m = pl.length := by omega
          have e1 : pl.take pl.length = pl := List.take_of_length_le (Nat.le_refl _)
          rw [e1]
          rw [HNS.out]
          go_wp2_with fail
          go_returns
          exact ⟨rfl, HW.out.trans (HB.out.mono HW.out.size)⟩
end Go.Proofs.Yteadfobfenopkaa
