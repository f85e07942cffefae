
/- ClassFirst: the walk. -/
import Derived.Test.YtlcacocecdnpnaaClassed
set_option linter.unusedVariables false
namespace Go.Proofs.Ytlcacocecdnpnaa
open Go.RowKit Go.Sort Wc Wk

def nearN (x : Int) : Nat := 167772152 + (x % 540).toNat
theorem near_fits (x : Int) : Fits false (nearN x) := by
  have h2 := Int.emod_lt_of_pos x (show (0 : Int) < 540 by decide)
  unfold Fits wd nearN
  simp
  omega
theorem near_any (x : Int) (w : World) : Calls Try.prog 39 #[.int .i64 x] w fun e w' => e = .returned (Value.agg #[.bool false, .int .u64 (hiOf false (nearN x)), .int .u64 (loOf (nearN x))]) ∧ Below w.heap.size w w' := by
  have P := Lib.hid (fun w => picked_any x 540 w (by decide) (by decide))
  have h1 := Int.emod_nonneg x (show (540 : Int) ≠ 0 by decide)
  have h2 := Int.emod_lt_of_pos x (show (0 : Int) < 540 by decide)
  have hn := near_fits x
  have hN := Lib.hid (loOf_false hn)
  have hd : ((nearN x : Nat) : Int) = 167772152 + x % 540 := by unfold nearN; omega
  rw [hN.out, hd]
  clear hN hd hn
  generalize x % 540 = r at *
  have e1 : wrap64 (167772152 + r) = 167772152 + r := wrap64_in (by omega) (by omega)
  have e2 : IntKind.i64.wrap (167772152 + r) = 167772152 + r := IntWalk.i64_in _ (by omega)
  have e3 : IntKind.u64.wrap (167772152 + r) = 167772152 + r := by
    rw [show IntKind.u64.wrap (167772152 + r) = (167772152 + r) % 18446744073709551616 from rfl]; omega
  go_enter Try.func39, Try.ntmps39
  go_wp2_with (first | ((with_reducible refine (P.out _).mono ?_); rintro e w' ⟨rfl, rfl⟩))
  go_returns
  exact ⟨rfl, by (repeat' (first | (with_reducible exact Below.refl _ _) | (with_reducible assumption) | (with_reducible refine Below.al ?_ _) | (with_reducible refine Below.dr ?_) | (with_reducible refine Below.step ?_ (by assumption)) | (with_reducible refine Below.set ?_ ?_ _) | omega | (dsimp only; omega) | (simp; done) | (simp; omega)))⟩

theorem nearFlow_any (x y : Int) (w : World) : Calls Try.prog 28 #[.int .i64 x, .int .i64 y] w fun e w' => e = .returned (.agg #[.bool false, .int .u64 (hiOf false (nearN x)), .int .u64 (loOf (nearN x)), .bool false, .int .u64 (hiOf false (nearN y)), .int .u64 (loOf (nearN y))]) ∧ Below w.heap.size w w' := by
  have A := Lib.hid (fun w => near_any x w)
  have B := Lib.hid (fun w => near_any y w)
  generalize nearN x = n at *
  generalize nearN y = m at *
  go_enter Try.func28, Try.ntmps28
  go_wp2_with fail
  refine (A.out _).mono ?_; rintro e w1 ⟨rfl, hb1⟩; (repeat (with_reducible (replace hb1 := Below.undrew hb1))); obtain ⟨hc1, hf1⟩ := bcell hb1; have hz1 := hb1.size; (repeat (first | rw [World.size_alloc] at hz1 | rw [World.size_drew] at hz1 | rw [World.size_setCell] at hz1)); (try have : w.heap.size < w1.heap.size := by omega); (try have : w.heap.size < w1.heap.size + 1 := by omega); (try have : w.heap.size < w1.heap.size + 1 + 1 := by omega); (try have : w.heap.size < w1.heap.size + 1 + 1 + 1 := by omega)
  go_wp2_with fail
  refine (B.out _).mono ?_; rintro e w2 ⟨rfl, hb2⟩; (repeat (with_reducible (replace hb2 := Below.undrew hb2))); obtain ⟨hc2, hf2⟩ := bcell hb2; have hz2 := hb2.size; (repeat (first | rw [World.size_alloc] at hz2 | rw [World.size_drew] at hz2 | rw [World.size_setCell] at hz2)); (try have : w.heap.size < w2.heap.size := by omega); (try have : w.heap.size < w2.heap.size + 1 := by omega); (try have : w.heap.size < w2.heap.size + 1 + 1 := by omega); (try have : w.heap.size < w2.heap.size + 1 + 1 + 1 := by omega); (try have : w1.heap.size < w2.heap.size := by omega); (try have : w1.heap.size < w2.heap.size + 1 := by omega); (try have : w1.heap.size < w2.heap.size + 1 + 1 := by omega); (try have : w1.heap.size < w2.heap.size + 1 + 1 + 1 := by omega)
  have k0 : w2.cell? ⟨w.heap.size, 0, none⟩ = some (.bool false) := by rw [hc2 _ _ (by omega), hc1 _ _ (by simp)]; simp
  have z0 : w2.frozen? ⟨w.heap.size, 0, none⟩ = false := by rw [hf2 _ _ (by omega), hf1 _ _ (by simp)]; simp
  have k1 : w2.cell? ⟨w.heap.size, 1, none⟩ = some (.int .u64 0) := by rw [hc2 _ _ (by omega), hc1 _ _ (by simp)]; simp
  have z1 : w2.frozen? ⟨w.heap.size, 1, none⟩ = false := by rw [hf2 _ _ (by omega), hf1 _ _ (by simp)]; simp
  have k2 : w2.cell? ⟨w.heap.size, 2, none⟩ = some (.int .u64 0) := by rw [hc2 _ _ (by omega), hc1 _ _ (by simp)]; simp
  have z2 : w2.frozen? ⟨w.heap.size, 2, none⟩ = false := by rw [hf2 _ _ (by omega), hf1 _ _ (by simp)]; simp
  have k3 : w2.cell? ⟨w.heap.size, 3, none⟩ = some (.bool false) := by rw [hc2 _ _ (by omega), hc1 _ _ (by simp)]; simp
  have z3 : w2.frozen? ⟨w.heap.size, 3, none⟩ = false := by rw [hf2 _ _ (by omega), hf1 _ _ (by simp)]; simp
  have k4 : w2.cell? ⟨w.heap.size, 4, none⟩ = some (.int .u64 0) := by rw [hc2 _ _ (by omega), hc1 _ _ (by simp)]; simp
  have z4 : w2.frozen? ⟨w.heap.size, 4, none⟩ = false := by rw [hf2 _ _ (by omega), hf1 _ _ (by simp)]; simp
  have k5 : w2.cell? ⟨w.heap.size, 5, none⟩ = some (.int .u64 0) := by rw [hc2 _ _ (by omega), hc1 _ _ (by simp)]; simp
  have z5 : w2.frozen? ⟨w.heap.size, 5, none⟩ = false := by rw [hf2 _ _ (by omega), hf1 _ _ (by simp)]; simp
  clear hc1 hc2 hf1 hf2
  go_wp2
  refine bodyPost_ret (v := .agg #[.bool false, .int .u64 (hiOf false n), .int .u64 (loOf n), .bool false, .int .u64 (hiOf false m), .int .u64 (loOf m)]) (by simp [results, Try.results28, go_sem, *]) rfl ⟨rfl, by (repeat' (first | (with_reducible exact Below.refl _ _) | (with_reducible assumption) | (with_reducible refine Below.al ?_ _) | (with_reducible refine Below.dr ?_) | (with_reducible refine Below.step ?_ (by assumption)) | (with_reducible refine Below.set ?_ ?_ _) | omega | (dsimp only; omega) | (simp; done) | (simp; omega)))⟩

theorem IsRow.len_cap {k : IntKind} {w : World} {a : Option Addr} {len cap : Nat} {zs : List Int} (h : IsRow k w a len cap zs) : len ≤ cap := by
  rcases h with ⟨_, rfl, rfl, _⟩ | ⟨_, _, h, _⟩
  · exact Nat.le_refl _
  · exact h
theorem class_at {l : List MatchD} {a b j : Nat} {q : MatchD} (hq : l[j]? = some q) (hf : q.fits a b) (hno : ∀ i, i < j → ∀ r, l[i]? = some r → ¬ r.fits a b) : classI l a b = j ∧ classC l a b = q.cls := by
  rcases class_cases l a b with ⟨_, _, h⟩ | ⟨i, r, hr, h1, h2, h3, h4⟩
  · exact absurd hf (h q (List.mem_of_getElem? hq))
  · have : i = j := by
      rcases Nat.lt_trichotomy i j with h | h | h
      · exact absurd h3 (hno i h r hr)
      · exact h
      · exact absurd hf (h4 j h q hq)
    subst this
    rw [hq] at hr; cases hr
    exact ⟨h1, h2⟩
theorem class_not {l : List MatchD} {a b : Nat} (hno : ∀ i, i < l.length → ∀ r, l[i]? = some r → ¬ r.fits a b) : classI l a b = -1 ∧ classC l a b = 0 := by
  rcases class_cases l a b with ⟨h1, h2, _⟩ | ⟨i, r, hr, _, _, h3, _⟩
  · exact ⟨h1, h2⟩
  · exact absurd h3 (hno i (List.getElem?_eq_some_iff.1 hr).1 r hr)
theorem class_range (l : List MatchD) (a b : Nat) : -1 ≤ classI l a b ∧ classI l a b < l.length ∧ classC l a b ≤ 999 ∨ ¬ ∀ q ∈ l, q.ok := by
  rcases class_cases l a b with ⟨h1, h2, _⟩ | ⟨i, r, hr, h1, h2, h3, _⟩
  · exact .inl (by omega)
  · by_cases h : ∀ q ∈ l, q.ok
    · have := (h r (List.mem_of_getElem? hr)).2.2.2
      have hi := (List.getElem?_eq_some_iff.1 hr).1
      exact .inl (by omega)
    · exact .inr h


set_option maxRecDepth 100000 in
set_option maxHeartbeats 2000000 in
theorem classFirst_walk (a : Option Addr) (len cap : Nat) (zs : List Int) (x y : Int) (w : World) (h : IsRow .i64 w a len cap zs) (hx : -9223372036854775808 ≤ x ∧ x ≤ 9223372036854775807) (hy : -9223372036854775808 ≤ y ∧ y ≤ 9223372036854775807) :
    Calls Try.prog 15 #[.slice a len cap, .int .i64 x, .int .i64 y] w fun e w' => e = .returned (.bool true) ∧ Below w.heap.size w w' := by
  have NF := Lib.hid (fun w => nearFlow_any x y w)
  have hn := near_fits x
  have hm := near_fits y
  generalize nearN x = n at *
  generalize nearN y = m at *
  go_enter Try.func15, Try.ntmps15
  go_wp2_with fail
  refine (matches_any a len cap zs 30 _ (IsRow.rd h) (IsRow.len_cap h) (by omega)).mono ?_
  rintro e w1 ⟨v, ms, rfl, HO, hok, hlen, hb1⟩; (repeat (with_reducible (replace hb1 := Below.undrew hb1))); obtain ⟨hc1, hf1⟩ := bcell hb1; have hz1 := hb1.size; (repeat (first | rw [World.size_alloc] at hz1 | rw [World.size_drew] at hz1 | rw [World.size_setCell] at hz1)); (try have : w.heap.size < w1.heap.size := by omega); (try have : w.heap.size < w1.heap.size + 1 := by omega); (try have : w.heap.size < w1.heap.size + 1 + 1 := by omega); (try have : w.heap.size < w1.heap.size + 1 + 1 + 1 := by omega)
  obtain ⟨a1, cap1, rfl⟩ := HO.shape
  rw [List.length_map] at HO ⊢
  go_wp2_with (first | ((with_reducible refine (NF.out _).mono ?_); rintro e w2 ⟨rfl, hb2⟩; (repeat (with_reducible (replace hb2 := Below.undrew hb2))); obtain ⟨hc2, hf2⟩ := bcell hb2; have hz2 := hb2.size; (repeat (first | rw [World.size_alloc] at hz2 | rw [World.size_drew] at hz2 | rw [World.size_setCell] at hz2)); (try have : w.heap.size < w2.heap.size := by omega); (try have : w.heap.size < w2.heap.size + 1 := by omega); (try have : w.heap.size < w2.heap.size + 1 + 1 := by omega); (try have : w.heap.size < w2.heap.size + 1 + 1 + 1 := by omega); (try have : w1.heap.size < w2.heap.size := by omega); (try have : w1.heap.size < w2.heap.size + 1 := by omega); (try have : w1.heap.size < w2.heap.size + 1 + 1 := by omega); (try have : w1.heap.size < w2.heap.size + 1 + 1 + 1 := by omega); (try have : w1.heap.size + 1 < w2.heap.size := by omega); (try have : w1.heap.size + 1 < w2.heap.size + 1 := by omega); (try have : w1.heap.size + 1 < w2.heap.size + 1 + 1 := by omega); (try have : w1.heap.size + 1 < w2.heap.size + 1 + 1 + 1 := by omega)))
  have HO1 := Lib.hid HO
  have C := Lib.hid (fun w hs => classed_any a1 cap1 ms n m w hs hlen hok hn hm)
  have HI := Lib.hid (fun j q hq hf hno => class_at (l := ms) (a := n) (b := m) (j := j) (q := q) hq hf hno)
  have HN := Lib.hid (class_not (l := ms) (a := n) (b := m))
  have hr := (class_range ms n m).resolve_right (fun h => h hok)
  have HOK := Lib.hid hok
  have HA := Lib.hid (fun (q : MatchD) (hq : q.ok) w => has_ok false q.n q.k n w hq.1 hn)
  have HB := Lib.hid (fun (q : MatchD) (hq : q.ok) w => has_ok false q.m q.l m w hq.2.1 hm)
  rw [show wd false = 32 from rfl] at HA HB
  clear HO hok hn hm h NF
  generalize hci : classI ms n m = ci at *
  generalize hcc : classC ms n m = cc at *
  clear hci hcc
  obtain ⟨r1, r2, r3⟩ := hr
  refine (C.out _ (HO1.out.sl.below (by (repeat' (first | (with_reducible exact Below.refl _ _) | (with_reducible assumption) | (with_reducible refine Below.alloc ?_ ?_ _) | (with_reducible refine Below.drew ?_) | (with_reducible refine Below.stepG ?_ (by assumption) ?_) | (with_reducible refine Below.setCell ?_ ?_ _) | omega | (dsimp only; omega) | (simp; done) | (simp; omega)))))).mono ?_; rintro e w3 ⟨rfl, hb3⟩; (repeat (with_reducible (replace hb3 := Below.undrew hb3))); obtain ⟨hc3, hf3⟩ := bcell hb3; have hz3 := hb3.size; (repeat (first | rw [World.size_alloc] at hz3 | rw [World.size_drew] at hz3 | rw [World.size_setCell] at hz3)); (try have : w.heap.size < w3.heap.size := by omega); (try have : w.heap.size < w3.heap.size + 1 := by omega); (try have : w.heap.size < w3.heap.size + 1 + 1 := by omega); (try have : w.heap.size < w3.heap.size + 1 + 1 + 1 := by omega); (try have : w1.heap.size < w3.heap.size := by omega); (try have : w1.heap.size < w3.heap.size + 1 := by omega); (try have : w1.heap.size < w3.heap.size + 1 + 1 := by omega); (try have : w1.heap.size < w3.heap.size + 1 + 1 + 1 := by omega); (try have : w1.heap.size + 1 < w3.heap.size := by omega); (try have : w1.heap.size + 1 < w3.heap.size + 1 := by omega); (try have : w1.heap.size + 1 < w3.heap.size + 1 + 1 := by omega); (try have : w1.heap.size + 1 < w3.heap.size + 1 + 1 + 1 := by omega); (try have : w2.heap.size < w3.heap.size := by omega); (try have : w2.heap.size < w3.heap.size + 1 := by omega); (try have : w2.heap.size < w3.heap.size + 1 + 1 := by omega); (try have : w2.heap.size < w3.heap.size + 1 + 1 + 1 := by omega)
  have d1 : ¬ ci < -1 := by omega
  have d2 : ¬ (ms.length : Int) ≤ ci := by omega
  have F0 : w3.cell? ⟨w2.heap.size, 0, none⟩ = some (.bool false) := by rw [hc3 _ _ (by simp)]; simp
  have F1 : w3.cell? ⟨w2.heap.size, 1, none⟩ = some (.int .u64 (hiOf false n)) := by rw [hc3 _ _ (by simp)]; simp
  have F2 : w3.cell? ⟨w2.heap.size, 2, none⟩ = some (.int .u64 (loOf n)) := by rw [hc3 _ _ (by simp)]; simp
  have F3 : w3.cell? ⟨w2.heap.size, 3, none⟩ = some (.bool false) := by rw [hc3 _ _ (by simp)]; simp
  have F4 : w3.cell? ⟨w2.heap.size, 4, none⟩ = some (.int .u64 (hiOf false m)) := by rw [hc3 _ _ (by simp)]; simp
  have F5 : w3.cell? ⟨w2.heap.size, 5, none⟩ = some (.int .u64 (loOf m)) := by rw [hc3 _ _ (by simp)]; simp
  have FS : w2.heap.size < w3.heap.size := by omega
  have FO := Lib.hid (HO1.out.sl.below (w' := w3) (by (repeat' (first | (with_reducible exact Below.refl _ _) | (with_reducible assumption) | (with_reducible refine Below.alloc ?_ ?_ _) | (with_reducible refine Below.drew ?_) | (with_reducible refine Below.stepG ?_ (by assumption) ?_) | (with_reducible refine Below.setCell ?_ ?_ _) | omega | (dsimp only; omega) | (simp; done) | (simp; omega)))))
  have FB : Below w.heap.size w w3 := by (repeat' (first | (with_reducible exact Below.refl _ _) | (with_reducible assumption) | (with_reducible refine Below.al ?_ _) | (with_reducible refine Below.dr ?_) | (with_reducible refine Below.step ?_ (by assumption)) | (with_reducible refine Below.set ?_ ?_ _) | omega | (dsimp only; omega) | (simp; done) | (simp; omega)))
  clear hb1 hb2 hb3 hc1 hc2 hc3 hf1 hf2 hf3 hz1 hz2 hz3 HO1 C
  generalize w2.heap.size = B at *
  go_wp2_with fail
  go_loopw [12] (fun i wr => ∃ j : Nat, j ≤ ms.length ∧ i = .int .i64 j ∧ Hid (∀ i, i < j → ∀ r, ms[i]? = some r → ¬ r.fits n m) ∧ Below w3.heap.size w3 wr) (fun i _ => ms.length - (intOf i).toNat)
  case atStart => exact ⟨0, Nat.zero_le _, rfl, fun i hi => absurd hi (Nat.not_lt_zero i), Below.refl _ _⟩
  case round =>
    obtain ⟨j, hj, rfl, hno, hbr⟩ := hrel
    have hzr := hbr.size
    have G0 := (hbr.cell (p := ⟨B, 0, none⟩) FS).trans F0
    have G1 := (hbr.cell (p := ⟨B, 1, none⟩) FS).trans F1
    have G2 := (hbr.cell (p := ⟨B, 2, none⟩) FS).trans F2
    have G3 := (hbr.cell (p := ⟨B, 3, none⟩) FS).trans F3
    have G4 := (hbr.cell (p := ⟨B, 4, none⟩) FS).trans F4
    have G5 := (hbr.cell (p := ⟨B, 5, none⟩) FS).trans F5
    have GS : B < wr.heap.size := by omega
    clear F0 F1 F2 F3 F4 F5
    by_cases hlt : j < ms.length
    · obtain ⟨q, hq⟩ : ∃ q, ms[j]? = some q := ⟨_, List.getElem?_eq_getElem hlt⟩
      have hqok := HOK.out q (List.mem_of_getElem? hq)
      obtain ⟨b, off, rfl, hb, k0, k1, k2, k3, k4, k5, k6, k7, k8⟩ := Sl.mat FO.out hbr hq
      have A := Lib.hid (HA.out q hqok)
      have Bq := Lib.hid (HB.out q hqok)
      have hbz : b < wr.heap.size := by omega
      by_cases h1 : cutN 32 n q.k = q.n
      · by_cases h2 : cutN 32 m q.l = q.m
        · obtain ⟨e1, e2⟩ := HI.out j q hq ⟨h1, h2⟩ hno.out
          subst e1 e2
          rw [decide_eq_true h1] at A
          rw [decide_eq_true h2] at Bq
          clear hno
          clear h1 h2 hq hqok HI HN
          go_wp2_with fail
          refine wp_region_qb (by kernel_rfl) (by kernel_rfl) (fun kq => ?_)
          repeat (quiet_step (first | (with_reducible exact Calls.regrown_of (A.out _))))
          clear kq
          refine wpQuiet_nil ?_; intro w4 hb4; (repeat (with_reducible (replace hb4 := Below.undrew hb4))); obtain ⟨hc4, hf4⟩ := bcell hb4; have hz4 := hb4.size; (repeat (first | rw [World.size_alloc] at hz4 | rw [World.size_drew] at hz4 | rw [World.size_setCell] at hz4)); (try have : w.heap.size < w4.heap.size := by omega); (try have : w.heap.size < w4.heap.size + 1 := by omega); (try have : w.heap.size < w4.heap.size + 1 + 1 := by omega); (try have : w.heap.size < w4.heap.size + 1 + 1 + 1 := by omega); (try have : w1.heap.size < w4.heap.size := by omega); (try have : w1.heap.size < w4.heap.size + 1 := by omega); (try have : w1.heap.size < w4.heap.size + 1 + 1 := by omega); (try have : w1.heap.size < w4.heap.size + 1 + 1 + 1 := by omega); (try have : w1.heap.size + 1 < w4.heap.size := by omega); (try have : w1.heap.size + 1 < w4.heap.size + 1 := by omega); (try have : w1.heap.size + 1 < w4.heap.size + 1 + 1 := by omega); (try have : w1.heap.size + 1 < w4.heap.size + 1 + 1 + 1 := by omega); (try have : w2.heap.size < w4.heap.size := by omega); (try have : w2.heap.size < w4.heap.size + 1 := by omega); (try have : w2.heap.size < w4.heap.size + 1 + 1 := by omega); (try have : w2.heap.size < w4.heap.size + 1 + 1 + 1 := by omega); (try have : w3.heap.size < w4.heap.size := by omega); (try have : w3.heap.size < w4.heap.size + 1 := by omega); (try have : w3.heap.size < w4.heap.size + 1 + 1 := by omega); (try have : w3.heap.size < w4.heap.size + 1 + 1 + 1 := by omega); (try have : wr.heap.size < w4.heap.size := by omega); (try have : wr.heap.size < w4.heap.size + 1 := by omega); (try have : wr.heap.size < w4.heap.size + 1 + 1 := by omega); (try have : wr.heap.size < w4.heap.size + 1 + 1 + 1 := by omega)
          have k4' := (hc4 _ _ hbz).trans k4
          have k5' := (hc4 _ _ hbz).trans k5
          have k6' := (hc4 _ _ hbz).trans k6
          have k7' := (hc4 _ _ hbz).trans k7
          have k8' := (hc4 _ _ hbz).trans k8
          have G3' := (hc4 _ _ GS).trans G3
          have G4' := (hc4 _ _ GS).trans G4
          have G5' := (hc4 _ _ GS).trans G5
          have hbz4 : b < w4.heap.size := by omega
          have GS4 : B < w4.heap.size := by omega
          clear k0 k1 k2 k3 k4 k5 k6 k7 k8 G0 G1 G2 G3 G4 G5 hc4 hf4
          go_wp2_with fail
          refine wp_region_qb (by kernel_rfl) (by kernel_rfl) (fun kq => ?_)
          repeat (quiet_step (first | (with_reducible exact Calls.regrown_of (Bq.out _))))
          clear kq
          refine wpQuiet_nil ?_; intro w5 hb5; (repeat (with_reducible (replace hb5 := Below.undrew hb5))); obtain ⟨hc5, hf5⟩ := bcell hb5; have hz5 := hb5.size; (repeat (first | rw [World.size_alloc] at hz5 | rw [World.size_drew] at hz5 | rw [World.size_setCell] at hz5)); (try have : w.heap.size < w5.heap.size := by omega); (try have : w.heap.size < w5.heap.size + 1 := by omega); (try have : w.heap.size < w5.heap.size + 1 + 1 := by omega); (try have : w.heap.size < w5.heap.size + 1 + 1 + 1 := by omega); (try have : w1.heap.size < w5.heap.size := by omega); (try have : w1.heap.size < w5.heap.size + 1 := by omega); (try have : w1.heap.size < w5.heap.size + 1 + 1 := by omega); (try have : w1.heap.size < w5.heap.size + 1 + 1 + 1 := by omega); (try have : w1.heap.size + 1 < w5.heap.size := by omega); (try have : w1.heap.size + 1 < w5.heap.size + 1 := by omega); (try have : w1.heap.size + 1 < w5.heap.size + 1 + 1 := by omega); (try have : w1.heap.size + 1 < w5.heap.size + 1 + 1 + 1 := by omega); (try have : w2.heap.size < w5.heap.size := by omega); (try have : w2.heap.size < w5.heap.size + 1 := by omega); (try have : w2.heap.size < w5.heap.size + 1 + 1 := by omega); (try have : w2.heap.size < w5.heap.size + 1 + 1 + 1 := by omega); (try have : w3.heap.size < w5.heap.size := by omega); (try have : w3.heap.size < w5.heap.size + 1 := by omega); (try have : w3.heap.size < w5.heap.size + 1 + 1 := by omega); (try have : w3.heap.size < w5.heap.size + 1 + 1 + 1 := by omega); (try have : wr.heap.size < w5.heap.size := by omega); (try have : wr.heap.size < w5.heap.size + 1 := by omega); (try have : wr.heap.size < w5.heap.size + 1 + 1 := by omega); (try have : wr.heap.size < w5.heap.size + 1 + 1 + 1 := by omega); (try have : w4.heap.size < w5.heap.size := by omega); (try have : w4.heap.size < w5.heap.size + 1 := by omega); (try have : w4.heap.size < w5.heap.size + 1 + 1 := by omega); (try have : w4.heap.size < w5.heap.size + 1 + 1 + 1 := by omega)
          have k8'' := (hc5 _ _ (by omega)).trans k8'
          clear hc5 hf5
          go_wp2
          go_returns
          exact ⟨rfl, FB.trans ((by (repeat' (first | (with_reducible exact Below.refl _ _) | (with_reducible assumption) | (with_reducible refine Below.alloc ?_ ?_ _) | (with_reducible refine Below.drew ?_) | (with_reducible refine Below.stepG ?_ (by assumption) ?_) | (with_reducible refine Below.setCell ?_ ?_ _) | omega | (dsimp only; omega) | (simp; done) | (simp; omega))) : Below w3.heap.size w3 w5).mono (by have := FB.size; omega))⟩
        · rw [decide_eq_true h1] at A
          rw [decide_eq_false h2] at Bq
          have HNO : Hid (∀ i, i < j + 1 → ∀ r, ms[i]? = some r → ¬ r.fits n m) := fun i hi r hr => by
            rcases Nat.lt_or_ge i j with h | h
            · exact hno.out i h r hr
            · obtain rfl : i = j := by omega
              rw [hq] at hr; cases hr
              exact fun h => h2 h.2
          clear hno
          clear h1 h2 hq hqok HI HN
          go_wp2_with fail
          refine wp_region_qb (by kernel_rfl) (by kernel_rfl) (fun kq => ?_)
          repeat (quiet_step (first | (with_reducible exact Calls.regrown_of (A.out _))))
          clear kq
          refine wpQuiet_nil ?_; intro w4 hb4; (repeat (with_reducible (replace hb4 := Below.undrew hb4))); obtain ⟨hc4, hf4⟩ := bcell hb4; have hz4 := hb4.size; (repeat (first | rw [World.size_alloc] at hz4 | rw [World.size_drew] at hz4 | rw [World.size_setCell] at hz4)); (try have : w.heap.size < w4.heap.size := by omega); (try have : w.heap.size < w4.heap.size + 1 := by omega); (try have : w.heap.size < w4.heap.size + 1 + 1 := by omega); (try have : w.heap.size < w4.heap.size + 1 + 1 + 1 := by omega); (try have : w1.heap.size < w4.heap.size := by omega); (try have : w1.heap.size < w4.heap.size + 1 := by omega); (try have : w1.heap.size < w4.heap.size + 1 + 1 := by omega); (try have : w1.heap.size < w4.heap.size + 1 + 1 + 1 := by omega); (try have : w1.heap.size + 1 < w4.heap.size := by omega); (try have : w1.heap.size + 1 < w4.heap.size + 1 := by omega); (try have : w1.heap.size + 1 < w4.heap.size + 1 + 1 := by omega); (try have : w1.heap.size + 1 < w4.heap.size + 1 + 1 + 1 := by omega); (try have : w2.heap.size < w4.heap.size := by omega); (try have : w2.heap.size < w4.heap.size + 1 := by omega); (try have : w2.heap.size < w4.heap.size + 1 + 1 := by omega); (try have : w2.heap.size < w4.heap.size + 1 + 1 + 1 := by omega); (try have : w3.heap.size < w4.heap.size := by omega); (try have : w3.heap.size < w4.heap.size + 1 := by omega); (try have : w3.heap.size < w4.heap.size + 1 + 1 := by omega); (try have : w3.heap.size < w4.heap.size + 1 + 1 + 1 := by omega); (try have : wr.heap.size < w4.heap.size := by omega); (try have : wr.heap.size < w4.heap.size + 1 := by omega); (try have : wr.heap.size < w4.heap.size + 1 + 1 := by omega); (try have : wr.heap.size < w4.heap.size + 1 + 1 + 1 := by omega)
          have k4' := (hc4 _ _ hbz).trans k4
          have k5' := (hc4 _ _ hbz).trans k5
          have k6' := (hc4 _ _ hbz).trans k6
          have k7' := (hc4 _ _ hbz).trans k7
          have k8' := (hc4 _ _ hbz).trans k8
          have G3' := (hc4 _ _ GS).trans G3
          have G4' := (hc4 _ _ GS).trans G4
          have G5' := (hc4 _ _ GS).trans G5
          have hbz4 : b < w4.heap.size := by omega
          have GS4 : B < w4.heap.size := by omega
          clear k0 k1 k2 k3 k4 k5 k6 k7 k8 G0 G1 G2 G3 G4 G5 hc4 hf4
          go_wp2_with fail
          refine wp_region_qb (by kernel_rfl) (by kernel_rfl) (fun kq => ?_)
          repeat (quiet_step (first | (with_reducible exact Calls.regrown_of (Bq.out _))))
          clear kq
          refine wpQuiet_nil ?_; intro w5 hb5; (repeat (with_reducible (replace hb5 := Below.undrew hb5))); obtain ⟨hc5, hf5⟩ := bcell hb5; have hz5 := hb5.size; (repeat (first | rw [World.size_alloc] at hz5 | rw [World.size_drew] at hz5 | rw [World.size_setCell] at hz5)); (try have : w.heap.size < w5.heap.size := by omega); (try have : w.heap.size < w5.heap.size + 1 := by omega); (try have : w.heap.size < w5.heap.size + 1 + 1 := by omega); (try have : w.heap.size < w5.heap.size + 1 + 1 + 1 := by omega); (try have : w1.heap.size < w5.heap.size := by omega); (try have : w1.heap.size < w5.heap.size + 1 := by omega); (try have : w1.heap.size < w5.heap.size + 1 + 1 := by omega); (try have : w1.heap.size < w5.heap.size + 1 + 1 + 1 := by omega); (try have : w1.heap.size + 1 < w5.heap.size := by omega); (try have : w1.heap.size + 1 < w5.heap.size + 1 := by omega); (try have : w1.heap.size + 1 < w5.heap.size + 1 + 1 := by omega); (try have : w1.heap.size + 1 < w5.heap.size + 1 + 1 + 1 := by omega); (try have : w2.heap.size < w5.heap.size := by omega); (try have : w2.heap.size < w5.heap.size + 1 := by omega); (try have : w2.heap.size < w5.heap.size + 1 + 1 := by omega); (try have : w2.heap.size < w5.heap.size + 1 + 1 + 1 := by omega); (try have : w3.heap.size < w5.heap.size := by omega); (try have : w3.heap.size < w5.heap.size + 1 := by omega); (try have : w3.heap.size < w5.heap.size + 1 + 1 := by omega); (try have : w3.heap.size < w5.heap.size + 1 + 1 + 1 := by omega); (try have : wr.heap.size < w5.heap.size := by omega); (try have : wr.heap.size < w5.heap.size + 1 := by omega); (try have : wr.heap.size < w5.heap.size + 1 + 1 := by omega); (try have : wr.heap.size < w5.heap.size + 1 + 1 + 1 := by omega); (try have : w4.heap.size < w5.heap.size := by omega); (try have : w4.heap.size < w5.heap.size + 1 := by omega); (try have : w4.heap.size < w5.heap.size + 1 + 1 := by omega); (try have : w4.heap.size < w5.heap.size + 1 + 1 + 1 := by omega)
          have k8'' := (hc5 _ _ (by omega)).trans k8'
          clear hc5 hf5
          go_wp2
          go_roundw
          case rel => exact ⟨j + 1, by omega, by go_num, HNO, by (repeat' (first | (with_reducible exact Below.refl _ _) | (with_reducible assumption) | (with_reducible refine Below.alloc ?_ ?_ _) | (with_reducible refine Below.drew ?_) | (with_reducible refine Below.stepG ?_ (by assumption) ?_) | (with_reducible refine Below.setCell ?_ ?_ _) | omega | (dsimp only; omega) | (simp; done) | (simp; omega)))⟩
          case measure => simp [intOf]; omega
      · by_cases h2 : cutN 32 m q.l = q.m
        · rw [decide_eq_false h1] at A
          rw [decide_eq_true h2] at Bq
          have HNO : Hid (∀ i, i < j + 1 → ∀ r, ms[i]? = some r → ¬ r.fits n m) := fun i hi r hr => by
            rcases Nat.lt_or_ge i j with h | h
            · exact hno.out i h r hr
            · obtain rfl : i = j := by omega
              rw [hq] at hr; cases hr
              exact fun h => h1 h.1
          clear hno
          clear h1 h2 hq hqok HI HN
          go_wp2_with fail
          refine wp_region_qb (by kernel_rfl) (by kernel_rfl) (fun kq => ?_)
          repeat (quiet_step (first | (with_reducible exact Calls.regrown_of (A.out _))))
          clear kq
          refine wpQuiet_nil ?_; intro w4 hb4; (repeat (with_reducible (replace hb4 := Below.undrew hb4))); obtain ⟨hc4, hf4⟩ := bcell hb4; have hz4 := hb4.size; (repeat (first | rw [World.size_alloc] at hz4 | rw [World.size_drew] at hz4 | rw [World.size_setCell] at hz4)); (try have : w.heap.size < w4.heap.size := by omega); (try have : w.heap.size < w4.heap.size + 1 := by omega); (try have : w.heap.size < w4.heap.size + 1 + 1 := by omega); (try have : w.heap.size < w4.heap.size + 1 + 1 + 1 := by omega); (try have : w1.heap.size < w4.heap.size := by omega); (try have : w1.heap.size < w4.heap.size + 1 := by omega); (try have : w1.heap.size < w4.heap.size + 1 + 1 := by omega); (try have : w1.heap.size < w4.heap.size + 1 + 1 + 1 := by omega); (try have : w1.heap.size + 1 < w4.heap.size := by omega); (try have : w1.heap.size + 1 < w4.heap.size + 1 := by omega); (try have : w1.heap.size + 1 < w4.heap.size + 1 + 1 := by omega); (try have : w1.heap.size + 1 < w4.heap.size + 1 + 1 + 1 := by omega); (try have : w2.heap.size < w4.heap.size := by omega); (try have : w2.heap.size < w4.heap.size + 1 := by omega); (try have : w2.heap.size < w4.heap.size + 1 + 1 := by omega); (try have : w2.heap.size < w4.heap.size + 1 + 1 + 1 := by omega); (try have : w3.heap.size < w4.heap.size := by omega); (try have : w3.heap.size < w4.heap.size + 1 := by omega); (try have : w3.heap.size < w4.heap.size + 1 + 1 := by omega); (try have : w3.heap.size < w4.heap.size + 1 + 1 + 1 := by omega); (try have : wr.heap.size < w4.heap.size := by omega); (try have : wr.heap.size < w4.heap.size + 1 := by omega); (try have : wr.heap.size < w4.heap.size + 1 + 1 := by omega); (try have : wr.heap.size < w4.heap.size + 1 + 1 + 1 := by omega)
          have k4' := (hc4 _ _ hbz).trans k4
          have k5' := (hc4 _ _ hbz).trans k5
          have k6' := (hc4 _ _ hbz).trans k6
          have k7' := (hc4 _ _ hbz).trans k7
          have k8' := (hc4 _ _ hbz).trans k8
          have G3' := (hc4 _ _ GS).trans G3
          have G4' := (hc4 _ _ GS).trans G4
          have G5' := (hc4 _ _ GS).trans G5
          have hbz4 : b < w4.heap.size := by omega
          have GS4 : B < w4.heap.size := by omega
          clear k0 k1 k2 k3 k4 k5 k6 k7 k8 G0 G1 G2 G3 G4 G5 hc4 hf4
          go_wp2_with fail
          refine wp_region_qb (by kernel_rfl) (by kernel_rfl) (fun kq => ?_)
          repeat (quiet_step (first | (with_reducible exact Calls.regrown_of (Bq.out _))))
          clear kq
          refine wpQuiet_nil ?_; intro w5 hb5; (repeat (with_reducible (replace hb5 := Below.undrew hb5))); obtain ⟨hc5, hf5⟩ := bcell hb5; have hz5 := hb5.size; (repeat (first | rw [World.size_alloc] at hz5 | rw [World.size_drew] at hz5 | rw [World.size_setCell] at hz5)); (try have : w.heap.size < w5.heap.size := by omega); (try have : w.heap.size < w5.heap.size + 1 := by omega); (try have : w.heap.size < w5.heap.size + 1 + 1 := by omega); (try have : w.heap.size < w5.heap.size + 1 + 1 + 1 := by omega); (try have : w1.heap.size < w5.heap.size := by omega); (try have : w1.heap.size < w5.heap.size + 1 := by omega); (try have : w1.heap.size < w5.heap.size + 1 + 1 := by omega); (try have : w1.heap.size < w5.heap.size + 1 + 1 + 1 := by omega); (try have : w1.heap.size + 1 < w5.heap.size := by omega); (try have : w1.heap.size + 1 < w5.heap.size + 1 := by omega); (try have : w1.heap.size + 1 < w5.heap.size + 1 + 1 := by omega); (try have : w1.heap.size + 1 < w5.heap.size + 1 + 1 + 1 := by omega); (try have : w2.heap.size < w5.heap.size := by omega); (try have : w2.heap.size < w5.heap.size + 1 := by omega); (try have : w2.heap.size < w5.heap.size + 1 + 1 := by omega); (try have : w2.heap.size < w5.heap.size + 1 + 1 + 1 := by omega); (try have : w3.heap.size < w5.heap.size := by omega); (try have : w3.heap.size < w5.heap.size + 1 := by omega); (try have : w3.heap.size < w5.heap.size + 1 + 1 := by omega); (try have : w3.heap.size < w5.heap.size + 1 + 1 + 1 := by omega); (try have : wr.heap.size < w5.heap.size := by omega); (try have : wr.heap.size < w5.heap.size + 1 := by omega); (try have : wr.heap.size < w5.heap.size + 1 + 1 := by omega); (try have : wr.heap.size < w5.heap.size + 1 + 1 + 1 := by omega); (try have : w4.heap.size < w5.heap.size := by omega); (try have : w4.heap.size < w5.heap.size + 1 := by omega); (try have : w4.heap.size < w5.heap.size + 1 + 1 := by omega); (try have : w4.heap.size < w5.heap.size + 1 + 1 + 1 := by omega)
          have k8'' := (hc5 _ _ (by omega)).trans k8'
          clear hc5 hf5
          go_wp2
          go_roundw
          case rel => exact ⟨j + 1, by omega, by go_num, HNO, by (repeat' (first | (with_reducible exact Below.refl _ _) | (with_reducible assumption) | (with_reducible refine Below.alloc ?_ ?_ _) | (with_reducible refine Below.drew ?_) | (with_reducible refine Below.stepG ?_ (by assumption) ?_) | (with_reducible refine Below.setCell ?_ ?_ _) | omega | (dsimp only; omega) | (simp; done) | (simp; omega)))⟩
          case measure => simp [intOf]; omega
        · rw [decide_eq_false h1] at A
          rw [decide_eq_false h2] at Bq
          have HNO : Hid (∀ i, i < j + 1 → ∀ r, ms[i]? = some r → ¬ r.fits n m) := fun i hi r hr => by
            rcases Nat.lt_or_ge i j with h | h
            · exact hno.out i h r hr
            · obtain rfl : i = j := by omega
              rw [hq] at hr; cases hr
              exact fun h => h1 h.1
          clear hno
          clear h1 h2 hq hqok HI HN
          go_wp2_with fail
          refine wp_region_qb (by kernel_rfl) (by kernel_rfl) (fun kq => ?_)
          repeat (quiet_step (first | (with_reducible exact Calls.regrown_of (A.out _))))
          clear kq
          refine wpQuiet_nil ?_; intro w4 hb4; (repeat (with_reducible (replace hb4 := Below.undrew hb4))); obtain ⟨hc4, hf4⟩ := bcell hb4; have hz4 := hb4.size; (repeat (first | rw [World.size_alloc] at hz4 | rw [World.size_drew] at hz4 | rw [World.size_setCell] at hz4)); (try have : w.heap.size < w4.heap.size := by omega); (try have : w.heap.size < w4.heap.size + 1 := by omega); (try have : w.heap.size < w4.heap.size + 1 + 1 := by omega); (try have : w.heap.size < w4.heap.size + 1 + 1 + 1 := by omega); (try have : w1.heap.size < w4.heap.size := by omega); (try have : w1.heap.size < w4.heap.size + 1 := by omega); (try have : w1.heap.size < w4.heap.size + 1 + 1 := by omega); (try have : w1.heap.size < w4.heap.size + 1 + 1 + 1 := by omega); (try have : w1.heap.size + 1 < w4.heap.size := by omega); (try have : w1.heap.size + 1 < w4.heap.size + 1 := by omega); (try have : w1.heap.size + 1 < w4.heap.size + 1 + 1 := by omega); (try have : w1.heap.size + 1 < w4.heap.size + 1 + 1 + 1 := by omega); (try have : w2.heap.size < w4.heap.size := by omega); (try have : w2.heap.size < w4.heap.size + 1 := by omega); (try have : w2.heap.size < w4.heap.size + 1 + 1 := by omega); (try have : w2.heap.size < w4.heap.size + 1 + 1 + 1 := by omega); (try have : w3.heap.size < w4.heap.size := by omega); (try have : w3.heap.size < w4.heap.size + 1 := by omega); (try have : w3.heap.size < w4.heap.size + 1 + 1 := by omega); (try have : w3.heap.size < w4.heap.size + 1 + 1 + 1 := by omega); (try have : wr.heap.size < w4.heap.size := by omega); (try have : wr.heap.size < w4.heap.size + 1 := by omega); (try have : wr.heap.size < w4.heap.size + 1 + 1 := by omega); (try have : wr.heap.size < w4.heap.size + 1 + 1 + 1 := by omega)
          have k4' := (hc4 _ _ hbz).trans k4
          have k5' := (hc4 _ _ hbz).trans k5
          have k6' := (hc4 _ _ hbz).trans k6
          have k7' := (hc4 _ _ hbz).trans k7
          have k8' := (hc4 _ _ hbz).trans k8
          have G3' := (hc4 _ _ GS).trans G3
          have G4' := (hc4 _ _ GS).trans G4
          have G5' := (hc4 _ _ GS).trans G5
          have hbz4 : b < w4.heap.size := by omega
          have GS4 : B < w4.heap.size := by omega
          clear k0 k1 k2 k3 k4 k5 k6 k7 k8 G0 G1 G2 G3 G4 G5 hc4 hf4
          go_wp2_with fail
          refine wp_region_qb (by kernel_rfl) (by kernel_rfl) (fun kq => ?_)
          repeat (quiet_step (first | (with_reducible exact Calls.regrown_of (Bq.out _))))
          clear kq
          refine wpQuiet_nil ?_; intro w5 hb5; (repeat (with_reducible (replace hb5 := Below.undrew hb5))); obtain ⟨hc5, hf5⟩ := bcell hb5; have hz5 := hb5.size; (repeat (first | rw [World.size_alloc] at hz5 | rw [World.size_drew] at hz5 | rw [World.size_setCell] at hz5)); (try have : w.heap.size < w5.heap.size := by omega); (try have : w.heap.size < w5.heap.size + 1 := by omega); (try have : w.heap.size < w5.heap.size + 1 + 1 := by omega); (try have : w.heap.size < w5.heap.size + 1 + 1 + 1 := by omega); (try have : w1.heap.size < w5.heap.size := by omega); (try have : w1.heap.size < w5.heap.size + 1 := by omega); (try have : w1.heap.size < w5.heap.size + 1 + 1 := by omega); (try have : w1.heap.size < w5.heap.size + 1 + 1 + 1 := by omega); (try have : w1.heap.size + 1 < w5.heap.size := by omega); (try have : w1.heap.size + 1 < w5.heap.size + 1 := by omega); (try have : w1.heap.size + 1 < w5.heap.size + 1 + 1 := by omega); (try have : w1.heap.size + 1 < w5.heap.size + 1 + 1 + 1 := by omega); (try have : w2.heap.size < w5.heap.size := by omega); (try have : w2.heap.size < w5.heap.size + 1 := by omega); (try have : w2.heap.size < w5.heap.size + 1 + 1 := by omega); (try have : w2.heap.size < w5.heap.size + 1 + 1 + 1 := by omega); (try have : w3.heap.size < w5.heap.size := by omega); (try have : w3.heap.size < w5.heap.size + 1 := by omega); (try have : w3.heap.size < w5.heap.size + 1 + 1 := by omega); (try have : w3.heap.size < w5.heap.size + 1 + 1 + 1 := by omega); (try have : wr.heap.size < w5.heap.size := by omega); (try have : wr.heap.size < w5.heap.size + 1 := by omega); (try have : wr.heap.size < w5.heap.size + 1 + 1 := by omega); (try have : wr.heap.size < w5.heap.size + 1 + 1 + 1 := by omega); (try have : w4.heap.size < w5.heap.size := by omega); (try have : w4.heap.size < w5.heap.size + 1 := by omega); (try have : w4.heap.size < w5.heap.size + 1 + 1 := by omega); (try have : w4.heap.size < w5.heap.size + 1 + 1 + 1 := by omega)
          have k8'' := (hc5 _ _ (by omega)).trans k8'
          clear hc5 hf5
          go_wp2
          go_roundw
          case rel => exact ⟨j + 1, by omega, by go_num, HNO, by (repeat' (first | (with_reducible exact Below.refl _ _) | (with_reducible assumption) | (with_reducible refine Below.alloc ?_ ?_ _) | (with_reducible refine Below.drew ?_) | (with_reducible refine Below.stepG ?_ (by assumption) ?_) | (with_reducible refine Below.setCell ?_ ?_ _) | omega | (dsimp only; omega) | (simp; done) | (simp; omega)))⟩
          case measure => simp [intOf]; omega
    · obtain rfl : j = ms.length := by omega
      obtain ⟨e1, e2⟩ := HN.out hno.out
      subst e1 e2
      clear HI HN hno
      go_wp2
      go_returns
      exact ⟨rfl, FB.trans (hbr.mono (by have := FB.size; omega))⟩
end Go.Proofs.Ytlcacocecdnpnaa
