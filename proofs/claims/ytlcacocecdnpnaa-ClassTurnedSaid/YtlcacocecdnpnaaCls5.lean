
/- Contracts of package class: first, Check, Find. -/
import Derived.Test.YtlcacocecdnpnaaCls4
import Derived.Test.YtlcacocecdnpnaaClsP
set_option linter.unusedVariables false
namespace Go.Proofs.Ytlcacocecdnpnaa
open Go.RowKit Go.Sort Wc Wk

theorem shr_and (s i : Nat) (hs : s < 2 ^ 30) : bits .and .u64 ((s : Int) / 2 ^ i) 1 = if s.testBit i then 1 else 0 := by
  have e : ((s : Int) / 2 ^ i) = ((s / 2 ^ i : Nat) : Int) := by simp
  have hl : s / 2 ^ i ≤ s := Nat.div_le_self _ _
  rw [e, show (1 : Int) = ((1 : Nat) : Int) from rfl, u64_and_nat _ _ (by omega) (by omega), nat_mask1, div_bit]
  split <;> rfl

set_option maxHeartbeats 1000000 in
theorem first_any (s : Nat) (hs : s < 2 ^ 30) (w : World) :
    Calls Try.prog 54 #[.int .u64 s] w fun e w' => e = .returned (.int .i64 (firstB s)) ∧ w = w' := by
  go_enter Try.func54, Try.ntmps54
  go_wp2
  go_loopw [4] (fun iv wr => ∃ i : Nat, i ≤ 30 ∧ iv = .int .i64 i ∧ Hid (∀ j, j < i → s.testBit j = false) ∧ w = wr) (fun iv _ => 30 - (intOf iv).toNat)
  case atStart => exact ⟨0, by omega, rfl, fun j hj => absurd hj (Nat.not_lt_zero j), rfl⟩
  case round =>
    obtain ⟨i, hi, rfl, hno, rfl⟩ := hrel
    by_cases hlt : i < 30
    · have e := shr_and s i hs
      by_cases hb : s.testBit i = true
      · rw [if_pos hb] at e
        have hr := Lib.hid (firstB_at hlt hb hno.out)
        clear hb hno
        go_wp2
        go_returns
        exact ⟨ret_int hr.out.symm, rfl⟩
      · rw [if_neg hb] at e
        have HN : Hid (∀ j, j < i + 1 → s.testBit j = false) := fun j hj => by
          rcases Nat.lt_or_ge j i with h | h
          · exact hno.out j h
          · obtain rfl : j = i := by omega
            simpa using hb
        clear hb hno
        go_wp2
        go_roundw
        case rel => exact ⟨i + 1, by omega, by go_num, HN, trivial⟩
        case measure => simp [intOf]; omega
    · obtain rfl : i = 30 := by omega
      have hr := Lib.hid (firstB_none hno.out)
      clear hno
      go_wp2
      go_returns
      exact ⟨ret_int hr.out.symm, rfl⟩


set_option maxRecDepth 100000 in
set_option maxHeartbeats 1000000 in
theorem ccheck_any (a : Option Addr) (cap : Nat) (l : List MatchD) (w : World) (hs : Sl w 9 (.slice a l.length cap) (l.map matchCells)) (hlen : l.length ≤ 30) (hok : ∀ q ∈ l, q.ok) :
    Calls Try.prog 46 #[.slice a l.length cap] w fun e w' => e = .returned (.int .i64 0) ∧ Below w.heap.size w w' := by
  have HS := Lib.hid hs
  have HOK := Lib.hid hok
  clear hs hok
  go_enter Try.func46, Try.ntmps46
  go_wp2_with fail
  go_loopw [13] (fun i wr => ∃ j : Nat, j ≤ l.length ∧ i = .int .i64 j ∧ Below w.heap.size w wr) (fun i _ => l.length - (intOf i).toNat)
  case atStart => exact ⟨0, Nat.zero_le _, rfl, Below.refl _ _⟩
  case round =>
    obtain ⟨j, hj, rfl, hbr⟩ := hrel
    have hzr := hbr.size
    by_cases hlt : j < l.length
    · obtain ⟨r, hr⟩ : ∃ r, l[j]? = some r := ⟨_, List.getElem?_eq_getElem hlt⟩
      have hrok := HOK.out r (List.mem_of_getElem? hr)
      obtain ⟨b, off, rfl, hb, d0, d1, d2, d3, d4, d5, d6, d7, d8⟩ := Sl.mat HS.out hbr hr
      have C1 := Lib.hid (fun w => check_ok false r.n r.k w hrok.1)
      have C2 := Lib.hid (fun w => check_ok false r.m r.l w hrok.2.1)
      obtain ⟨_, _, k1, k2⟩ := hrok
      have e1 : decide ((r.cls : Int) < 1) = false := by simp; omega
      have e2 : decide ((999 : Int) < r.cls) = false := by simp; omega
      clear hr
      go_wp2_with fail
      have F0 : (wr.alloc (.cells #[.bool false, .int .u64 (hiOf false r.n), .int .u64 (loOf r.n), .int .i64 r.k, .bool false, .int .u64 (hiOf false r.m), .int .u64 (loOf r.m), .int .i64 r.l, .int .i64 r.cls] 78)).cell? ⟨wr.heap.size, 0, none⟩ = some (.bool false) := by simp
      have F4 : (wr.alloc (.cells #[.bool false, .int .u64 (hiOf false r.n), .int .u64 (loOf r.n), .int .i64 r.k, .bool false, .int .u64 (hiOf false r.m), .int .u64 (loOf r.m), .int .i64 r.l, .int .i64 r.cls] 78)).cell? ⟨wr.heap.size, 4, none⟩ = some (.bool false) := by simp
      have F8 : (wr.alloc (.cells #[.bool false, .int .u64 (hiOf false r.n), .int .u64 (loOf r.n), .int .i64 r.k, .bool false, .int .u64 (hiOf false r.m), .int .u64 (loOf r.m), .int .i64 r.l, .int .i64 r.cls] 78)).cell? ⟨wr.heap.size, 8, none⟩ = some (.int .i64 r.cls) := by simp
      have FS : wr.heap.size < (wr.alloc (.cells #[.bool false, .int .u64 (hiOf false r.n), .int .u64 (loOf r.n), .int .i64 r.k, .bool false, .int .u64 (hiOf false r.m), .int .u64 (loOf r.m), .int .i64 r.l, .int .i64 r.cls] 78)).heap.size := by simp
      have FB : Below w.heap.size w (wr.alloc (.cells #[.bool false, .int .u64 (hiOf false r.n), .int .u64 (loOf r.n), .int .i64 r.k, .bool false, .int .u64 (hiOf false r.m), .int .u64 (loOf r.m), .int .i64 r.l, .int .i64 r.cls] 78)) := hbr.alloc hzr _
      generalize wr.alloc (.cells #[.bool false, .int .u64 (hiOf false r.n), .int .u64 (loOf r.n), .int .i64 r.k, .bool false, .int .u64 (hiOf false r.m), .int .u64 (loOf r.m), .int .i64 r.l, .int .i64 r.cls] 78) = W at *
      clear d0 d1 d2 d3 d4 d5 d6 d7 d8
      obtain ⟨B, hB⟩ : ∃ B, B = wr.heap.size := ⟨_, rfl⟩
      rw [← hB] at F0 F4 F8 FS ⊢
      have hBe : w.heap.size ≤ B := by omega
      clear hB
      have K0 := fun ws (hbs : Below W.heap.size W ws) => (hbs.cell (p := ⟨B, 0, none⟩) FS).trans F0
      have K4 := fun ws (hbs : Below W.heap.size W ws) => (hbs.cell (p := ⟨B, 4, none⟩) FS).trans F4
      have K8 := fun ws (hbs : Below W.heap.size W ws) => (hbs.cell (p := ⟨B, 8, none⟩) FS).trans F8
      go_loopw [22] (fun i ws => ∃ j2 : Nat, j2 ≤ 2 ∧ i = .int .i64 j2 ∧ Below W.heap.size W ws) (fun i _ => 2 - (intOf i).toNat)
      case atStart => exact ⟨0, Nat.zero_le _, rfl, Below.refl _ _⟩
      case round =>
        obtain ⟨j2, hj2, rfl, hbs⟩ := hrel
        have hzs := hbs.size
        have hc : j2 = 0 ∨ j2 = 1 ∨ j2 = 2 := by omega
        have i0 : ∀ w, (Instr.index 124 (.agg #[.bool false, .int .u64 (hiOf false r.n), .int .u64 (loOf r.n), .int .i64 r.k, .bool false, .int .u64 (hiOf false r.m), .int .u64 (loOf r.m), .int .i64 r.l]) (.int .i64 0)).run Try.prog w = .ok (Value.agg #[.bool false, .int .u64 (hiOf false r.n), .int .u64 (loOf r.n), .int .i64 r.k]) w := fun _ => by kernel_rfl
        have i1 : ∀ w, (Instr.index 124 (.agg #[.bool false, .int .u64 (hiOf false r.n), .int .u64 (loOf r.n), .int .i64 r.k, .bool false, .int .u64 (hiOf false r.m), .int .u64 (loOf r.m), .int .i64 r.l]) (.int .i64 1)).run Try.prog w = .ok (Value.agg #[.bool false, .int .u64 (hiOf false r.m), .int .u64 (loOf r.m), .int .i64 r.l]) w := fun _ => by kernel_rfl
        rcases hc with rfl | rfl | rfl
        · clear F0 F4 F8 K0 K4 K8
          go_wp2_with (first | ((with_reducible refine (C1.out _).mono ?_); rintro e w1 ⟨rfl, hb1⟩; (repeat (with_reducible (replace hb1 := Below.undrew hb1))); obtain ⟨hc1, hf1⟩ := bcell hb1; have hz1 := hb1.size; (repeat (first | rw [World.size_alloc] at hz1 | rw [World.size_drew] at hz1 | rw [World.size_setCell] at hz1)); (try have : wr.heap.size < w1.heap.size := by omega); (try have : wr.heap.size < w1.heap.size + 1 := by omega); (try have : wr.heap.size < w1.heap.size + 1 + 1 := by omega); (try have : wr.heap.size < w1.heap.size + 1 + 1 + 1 := by omega); (try have : ws.heap.size < w1.heap.size := by omega); (try have : ws.heap.size < w1.heap.size + 1 := by omega); (try have : ws.heap.size < w1.heap.size + 1 + 1 := by omega); (try have : ws.heap.size < w1.heap.size + 1 + 1 + 1 := by omega)))
          go_roundw
          case rel => exact ⟨1, by omega, by go_num, by (repeat' (first | (with_reducible exact Below.refl _ _) | (with_reducible assumption) | (with_reducible refine Below.al ?_ _) | (with_reducible refine Below.dr ?_) | (with_reducible refine Below.step ?_ (by assumption)) | (with_reducible refine Below.set ?_ ?_ _) | omega | (dsimp only; omega) | (simp; done) | (simp; omega)))⟩
          case measure => simp [intOf]
        · clear F0 F4 F8 K0 K4 K8
          go_wp2_with (first | ((with_reducible refine (C2.out _).mono ?_); rintro e w1 ⟨rfl, hb1⟩; (repeat (with_reducible (replace hb1 := Below.undrew hb1))); obtain ⟨hc1, hf1⟩ := bcell hb1; have hz1 := hb1.size; (repeat (first | rw [World.size_alloc] at hz1 | rw [World.size_drew] at hz1 | rw [World.size_setCell] at hz1)); (try have : wr.heap.size < w1.heap.size := by omega); (try have : wr.heap.size < w1.heap.size + 1 := by omega); (try have : wr.heap.size < w1.heap.size + 1 + 1 := by omega); (try have : wr.heap.size < w1.heap.size + 1 + 1 + 1 := by omega); (try have : ws.heap.size < w1.heap.size := by omega); (try have : ws.heap.size < w1.heap.size + 1 := by omega); (try have : ws.heap.size < w1.heap.size + 1 + 1 := by omega); (try have : ws.heap.size < w1.heap.size + 1 + 1 + 1 := by omega)))
          go_roundw
          case rel => exact ⟨2, by omega, by go_num, by (repeat' (first | (with_reducible exact Below.refl _ _) | (with_reducible assumption) | (with_reducible refine Below.al ?_ _) | (with_reducible refine Below.dr ?_) | (with_reducible refine Below.step ?_ (by assumption)) | (with_reducible refine Below.set ?_ ?_ _) | omega | (dsimp only; omega) | (simp; done) | (simp; omega)))⟩
          case measure => simp [intOf]
        · have G0 := (hbs.cell (p := ⟨_, 0, none⟩) FS).trans F0
          have G4 := K4 _ hbs
          have G8 := K8 _ hbs
          clear F0 F4 F8 K0 K4 K8
          go_wp2_with fail
          go_roundw
          case rel => exact ⟨j + 1, by omega, by go_num, FB.trans (hbs.mono (by omega))⟩
          case measure => simp [intOf]; omega
    · obtain rfl : j = l.length := by omega
      go_wp2
      go_returns
      exact ⟨rfl, hbr⟩


set_option maxRecDepth 100000 in
set_option maxHeartbeats 1000000 in
theorem cfind_any (a : Option Addr) (cap : Nat) (l : List MatchD) (n m : Nat) (w : World) (hs : Sl w 9 (.slice a l.length cap) (l.map matchCells)) (hlen : l.length ≤ 30) (hok : ∀ q ∈ l, q.ok) (hn : Fits false n) (hm : Fits false m) :
    Calls Try.prog 40 #[.slice a l.length cap, .agg #[.bool false, .int .u64 (hiOf false n), .int .u64 (loOf n), .bool false, .int .u64 (hiOf false m), .int .u64 (loOf m)]] w fun e w' => e = .returned (.tuple #[.int .i64 (classC l n m : Nat), .int .i64 (classI l n m), .int .i64 0]) ∧ Below w.heap.size w w' := by
  have HS := Lib.hid hs
  have HOK := Lib.hid hok
  have C := Lib.hid (fun w hs => ccheck_any a cap l w hs hlen hok)
  have P := Lib.hid (fun w hs => plant_any a cap l w hs hlen hok)
  have M1 := Lib.hid (fun w => may_any false n w hn)
  have M2 := Lib.hid (fun w => may_any false m w hm)
  have hF := fun i v => Nat.lt_of_lt_of_le (plantH_lt (matF l) l.length i v) (Nat.pow_le_pow_right (by decide) hlen)
  have hT := fun i v => Nat.lt_of_lt_of_le (plantH_lt (matT l) l.length i v) (Nat.pow_le_pow_right (by decide) hlen)
  have a1 := orTo_lt (n := n) hF 32
  have a2 := orTo_lt (n := m) hT 32
  have FI : Hid (∀ w, Calls Try.prog 54 #[.int .u64 (bits .and .u64 (orTo (plantH (matF l) l.length) n 32 : Nat) (orTo (plantH (matT l) l.length) m 32 : Nat))] w fun e w' => e = .returned (.int .i64 (classI l n m)) ∧ w = w') := by
    intro w
    rw [u64_and_nat _ _ (by omega) (by omega), ← first_class hlen hok]
    exact first_any _ (Nat.lt_of_le_of_lt Nat.and_le_left a1) w
  have E1 := Lib.hid (fun rb ro D w t => find_any rb ro n D (plantH (matF l) l.length) w t hF hn)
  have E2 := Lib.hid (fun rb ro D w t => find_any rb ro m D (plantH (matT l) l.length) w t hT hm)
  have HC := Lib.hid (class_cases l n m)
  clear hs hok hF hT a1 a2 hn hm
  generalize orTo (plantH (matF l) l.length) n 32 = s1 at *
  generalize orTo (plantH (matT l) l.length) m 32 = s2 at *
  generalize classI l n m = ci at *
  generalize classC l n m = cc at *
  go_enter Try.func40, Try.ntmps40
  go_wp2_with fail
  refine (C.out _ (HS.out.below (by (repeat' (first | (with_reducible exact Below.refl _ _) | (with_reducible assumption) | (with_reducible refine Below.al ?_ _) | (with_reducible refine Below.dr ?_) | (with_reducible refine Below.step ?_ (by assumption)) | (with_reducible refine Below.set ?_ ?_ _) | omega | (dsimp only; omega) | (simp; done) | (simp; omega)))))).mono ?_; rintro e w1 ⟨rfl, hb1⟩; (repeat (with_reducible (replace hb1 := Below.undrew hb1))); obtain ⟨hc1, hf1⟩ := bcell hb1; have hz1 := hb1.size; (repeat (first | rw [World.size_alloc] at hz1 | rw [World.size_drew] at hz1 | rw [World.size_setCell] at hz1)); (try have : w.heap.size < w1.heap.size := by omega); (try have : w.heap.size < w1.heap.size + 1 := by omega); (try have : w.heap.size < w1.heap.size + 1 + 1 := by omega); (try have : w.heap.size < w1.heap.size + 1 + 1 + 1 := by omega)
  go_wp2_with fail; ((with_reducible refine (M1.out _).mono ?_); rintro e w2 ⟨rfl, hb2⟩; (repeat (with_reducible (replace hb2 := Below.undrew hb2))); obtain ⟨hc2, hf2⟩ := bcell hb2; have hz2 := hb2.size; (repeat (first | rw [World.size_alloc] at hz2 | rw [World.size_drew] at hz2 | rw [World.size_setCell] at hz2)); (try have : w.heap.size < w2.heap.size := by omega); (try have : w.heap.size < w2.heap.size + 1 := by omega); (try have : w.heap.size < w2.heap.size + 1 + 1 := by omega); (try have : w.heap.size < w2.heap.size + 1 + 1 + 1 := by omega); (try have : w1.heap.size < w2.heap.size := by omega); (try have : w1.heap.size < w2.heap.size + 1 := by omega); (try have : w1.heap.size < w2.heap.size + 1 + 1 := by omega); (try have : w1.heap.size < w2.heap.size + 1 + 1 + 1 := by omega)); go_wp2_with fail; ((with_reducible refine (M2.out _).mono ?_); rintro e w3 ⟨rfl, hb3⟩; (repeat (with_reducible (replace hb3 := Below.undrew hb3))); obtain ⟨hc3, hf3⟩ := bcell hb3; have hz3 := hb3.size; (repeat (first | rw [World.size_alloc] at hz3 | rw [World.size_drew] at hz3 | rw [World.size_setCell] at hz3)); (try have : w.heap.size < w3.heap.size := by omega); (try have : w.heap.size < w3.heap.size + 1 := by omega); (try have : w.heap.size < w3.heap.size + 1 + 1 := by omega); (try have : w.heap.size < w3.heap.size + 1 + 1 + 1 := by omega); (try have : w1.heap.size < w3.heap.size := by omega); (try have : w1.heap.size < w3.heap.size + 1 := by omega); (try have : w1.heap.size < w3.heap.size + 1 + 1 := by omega); (try have : w1.heap.size < w3.heap.size + 1 + 1 + 1 := by omega); (try have : w2.heap.size < w3.heap.size := by omega); (try have : w2.heap.size < w3.heap.size + 1 := by omega); (try have : w2.heap.size < w3.heap.size + 1 + 1 := by omega); (try have : w2.heap.size < w3.heap.size + 1 + 1 + 1 := by omega))
  go_wp2_with fail
  refine (P.out _ (HS.out.below (by (repeat' (first | (with_reducible exact Below.refl _ _) | (with_reducible assumption) | (with_reducible refine Below.al ?_ _) | (with_reducible refine Below.dr ?_) | (with_reducible refine Below.step ?_ (by assumption)) | (with_reducible refine Below.set ?_ ?_ _) | omega | (dsimp only; omega) | (simp; done) | (simp; omega)))))).mono ?_
  rintro e w4 ⟨bt, D1, D2, rfl, HT, hb4⟩
  (repeat (with_reducible (replace hb4 := Below.undrew hb4))); obtain ⟨hc4, hf4⟩ := bcell hb4; have hz4 := hb4.size; (repeat (first | rw [World.size_alloc] at hz4 | rw [World.size_drew] at hz4 | rw [World.size_setCell] at hz4)); (try have : w.heap.size < w4.heap.size := by omega); (try have : w.heap.size < w4.heap.size + 1 := by omega); (try have : w.heap.size < w4.heap.size + 1 + 1 := by omega); (try have : w.heap.size < w4.heap.size + 1 + 1 + 1 := by omega); (try have : w1.heap.size < w4.heap.size := by omega); (try have : w1.heap.size < w4.heap.size + 1 := by omega); (try have : w1.heap.size < w4.heap.size + 1 + 1 := by omega); (try have : w1.heap.size < w4.heap.size + 1 + 1 + 1 := by omega); (try have : w2.heap.size < w4.heap.size := by omega); (try have : w2.heap.size < w4.heap.size + 1 := by omega); (try have : w2.heap.size < w4.heap.size + 1 + 1 := by omega); (try have : w2.heap.size < w4.heap.size + 1 + 1 + 1 := by omega); (try have : w3.heap.size < w4.heap.size := by omega); (try have : w3.heap.size < w4.heap.size + 1 := by omega); (try have : w3.heap.size < w4.heap.size + 1 + 1 := by omega); (try have : w3.heap.size < w4.heap.size + 1 + 1 + 1 := by omega)
  have HT1 := Lib.hid HT
  clear HT
  go_wp2_with fail
  have F1 := Lib.hid (fun d os => E1.out bt 0 D1 (grow (redrawn w4 d) os) (HT1.out.one.below (below_regrown _ _ _)))
  have F2 := Lib.hid (fun d os => E2.out bt 3 D2 (grow (redrawn w4 d) os) (HT1.out.two.below (below_regrown _ _ _)))
  have ltb : bt < w4.heap.size := HT1.out.one.node 0 0 _ _ HT1.out.one.root |>.lt
  clear E1 E2
  refine wp_region_qb (by kernel_rfl) (by kernel_rfl) (fun kq => ?_)
  repeat (quiet_step (first | (with_reducible exact Calls.regrown_of (F1.out _ _)) | (with_reducible exact Calls.regrown_of (F2.out _ _)) | (with_reducible exact Calls.regrown_same (FI.out _))))
  clear kq
  refine wpQuiet_nil ?_; intro w5 hb5; (repeat (with_reducible (replace hb5 := Below.undrew hb5))); obtain ⟨hc5, hf5⟩ := bcell hb5; have hz5 := hb5.size; (repeat (first | rw [World.size_alloc] at hz5 | rw [World.size_drew] at hz5 | rw [World.size_setCell] at hz5)); (try have : w.heap.size < w5.heap.size := by omega); (try have : w.heap.size < w5.heap.size + 1 := by omega); (try have : w.heap.size < w5.heap.size + 1 + 1 := by omega); (try have : w.heap.size < w5.heap.size + 1 + 1 + 1 := by omega); (try have : w1.heap.size < w5.heap.size := by omega); (try have : w1.heap.size < w5.heap.size + 1 := by omega); (try have : w1.heap.size < w5.heap.size + 1 + 1 := by omega); (try have : w1.heap.size < w5.heap.size + 1 + 1 + 1 := by omega); (try have : w2.heap.size < w5.heap.size := by omega); (try have : w2.heap.size < w5.heap.size + 1 := by omega); (try have : w2.heap.size < w5.heap.size + 1 + 1 := by omega); (try have : w2.heap.size < w5.heap.size + 1 + 1 + 1 := by omega); (try have : w3.heap.size < w5.heap.size := by omega); (try have : w3.heap.size < w5.heap.size + 1 := by omega); (try have : w3.heap.size < w5.heap.size + 1 + 1 := by omega); (try have : w3.heap.size < w5.heap.size + 1 + 1 + 1 := by omega); (try have : w4.heap.size < w5.heap.size := by omega); (try have : w4.heap.size < w5.heap.size + 1 := by omega); (try have : w4.heap.size < w5.heap.size + 1 + 1 := by omega); (try have : w4.heap.size < w5.heap.size + 1 + 1 + 1 := by omega)
  rcases HC.out with ⟨rfl, rfl, _⟩ | ⟨i, q, hq, rfl, rfl, _⟩
  · clear HC
    go_wp2
    go_returns
    exact ⟨rfl, by (repeat' (first | (with_reducible exact Below.refl _ _) | (with_reducible assumption) | (with_reducible refine Below.al ?_ _) | (with_reducible refine Below.dr ?_) | (with_reducible refine Below.step ?_ (by assumption)) | (with_reducible refine Below.set ?_ ?_ _) | omega | (dsimp only; omega) | (simp; done) | (simp; omega)))⟩
  · obtain ⟨b, off, rfl, hb, d0, d1, d2, d3, d4, d5, d6, d7, d8⟩ := Sl.mat HS.out (w' := w5) (by (repeat' (first | (with_reducible exact Below.refl _ _) | (with_reducible assumption) | (with_reducible refine Below.al ?_ _) | (with_reducible refine Below.dr ?_) | (with_reducible refine Below.step ?_ (by assumption)) | (with_reducible refine Below.set ?_ ?_ _) | omega | (dsimp only; omega) | (simp; done) | (simp; omega)))) hq
    have hi := (List.getElem?_eq_some_iff.1 hq).1
    clear HC hq d0 d1 d2 d3 d4 d5 d6 d7
    go_wp2
    go_returns
    exact ⟨rfl, by (repeat' (first | (with_reducible exact Below.refl _ _) | (with_reducible assumption) | (with_reducible refine Below.al ?_ _) | (with_reducible refine Below.dr ?_) | (with_reducible refine Below.step ?_ (by assumption)) | (with_reducible refine Below.set ?_ ?_ _) | omega | (dsimp only; omega) | (simp; done) | (simp; omega)))⟩
end Go.Proofs.Ytlcacocecdnpnaa
