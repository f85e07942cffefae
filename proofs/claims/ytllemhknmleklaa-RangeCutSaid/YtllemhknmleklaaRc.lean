
/- RangeCut: the walk. -/
import Derived.Test.YtllemhknmleklaaMg4
import Derived.Test.YtllemhknmleklaaTk
set_option linter.unusedVariables false
set_option linter.unusedSimpArgs false
namespace Go.Proofs.Ytllemhknmleklaa
open Go.RowKit Go.Sort Wc Wk


set_option maxRecDepth 100000 in
set_option maxHeartbeats 1000000 in
theorem rangeCut_bad (six : Bool) (hi lo by' cu : Int) (w : World) (n : Nat) (d : Int) (hd : 0 ≤ d ∧ d < 65536)
    (P1 : Hid (∀ w, Calls Try.prog 35 #[.agg #[.bool six, .int .u64 hi, .int .u64 lo]] w fun e w' => e = .returned (Value.agg #[.bool six, .int .u64 (hiOf six n), .int .u64 (loOf n)]) ∧ Below w.heap.size w w'))
    (P : Hid (∀ w, Calls Try.prog 30 #[.int .i64 by', .int .i64 65536] w fun e w' => e = .returned (.int .i64 d) ∧ w = w'))
    (N : Hid (∀ w, Calls Try.prog 36 #[Value.agg #[.bool six, .int .u64 (hiOf six n), .int .u64 (loOf n)], .int .i64 (1 + d)] w fun e w' => e = .returned (.tuple #[.agg #[.bool false, .int .u64 0, .int .u64 0], .int .i64 2]) ∧ Below w.heap.size w w')) :
    Calls Try.prog 12 #[.agg #[.bool six, .int .u64 hi, .int .u64 lo], .int .i64 by', .int .i64 cu] w fun e w' => e = .returned (.bool true) ∧ Below w.heap.size w w' := by
  have S := Lib.hid cidrSure_any
  have ew : IntKind.i64.wrap (1 + d) = 1 + d := IntWalk.i64_in _ (by omega)
  go_enter Try.func12, Try.ntmps12
  go_wp2_with (first | ((with_reducible refine (P1.out _).mono ?_); rintro e w1 ⟨rfl, hb1⟩; (repeat (with_reducible (replace hb1 := Below.undrew hb1))); obtain ⟨hc1, hf1⟩ := bcell hb1; have hz1 := hb1.size; (repeat (first | rw [World.size_alloc] at hz1 | rw [World.size_drew] at hz1 | rw [World.size_setCell] at hz1)); (try have : g < w1.heap.size := by omega); (try have : g < w1.heap.size + 1 := by omega); (try have : g < w1.heap.size + 1 + 1 := by omega); (try have : g < w1.heap.size + 1 + 1 + 1 := by omega)) | ((with_reducible refine (P.out _).mono ?_); rintro e w' ⟨rfl, rfl⟩) | ((with_reducible refine (N.out _).mono ?_); rintro e w2 ⟨rfl, hb2⟩; (repeat (with_reducible (replace hb2 := Below.undrew hb2))); obtain ⟨hc2, hf2⟩ := bcell hb2; have hz2 := hb2.size; (repeat (first | rw [World.size_alloc] at hz2 | rw [World.size_drew] at hz2 | rw [World.size_setCell] at hz2)); (try have : g < w2.heap.size := by omega); (try have : g < w2.heap.size + 1 := by omega); (try have : g < w2.heap.size + 1 + 1 := by omega); (try have : g < w2.heap.size + 1 + 1 + 1 := by omega); (try have : w1.heap.size < w2.heap.size := by omega); (try have : w1.heap.size < w2.heap.size + 1 := by omega); (try have : w1.heap.size < w2.heap.size + 1 + 1 := by omega); (try have : w1.heap.size < w2.heap.size + 1 + 1 + 1 := by omega)) | ((with_reducible refine (S.out _).mono ?_); rintro e w3 ⟨rfl, hb3⟩; (repeat (with_reducible (replace hb3 := Below.undrew hb3))); obtain ⟨hc3, hf3⟩ := bcell hb3; have hz3 := hb3.size; (repeat (first | rw [World.size_alloc] at hz3 | rw [World.size_drew] at hz3 | rw [World.size_setCell] at hz3)); (try have : g < w3.heap.size := by omega); (try have : g < w3.heap.size + 1 := by omega); (try have : g < w3.heap.size + 1 + 1 := by omega); (try have : g < w3.heap.size + 1 + 1 + 1 := by omega); (try have : w1.heap.size < w3.heap.size := by omega); (try have : w1.heap.size < w3.heap.size + 1 := by omega); (try have : w1.heap.size < w3.heap.size + 1 + 1 := by omega); (try have : w1.heap.size < w3.heap.size + 1 + 1 + 1 := by omega)))
  go_returns
  exact ⟨rfl, by (repeat' (first | (with_reducible exact Below.refl _ _) | (with_reducible assumption) | (with_reducible refine Below.al ?_ _) | (with_reducible refine Below.dr ?_) | (with_reducible refine Below.step ?_ (by assumption)) | (with_reducible refine Below.set ?_ ?_ _) | omega | (dsimp only; omega) | (simp; done) | (simp; omega)))⟩

def MadeAd (six : Bool) (X : World) (n : Nat) (v : Value) (wx : World) : Prop := ∃ A, v = .pointer (some ⟨A, 0, none⟩) ∧ RX wx A (adCells six n) ∧ Below X.heap.size X wx ∧ X.heap.size ≤ A
theorem MadeAd.new3 {six : Bool} {X w : World} {A : Nat} (n : Nat) (E : TypeId) (hA : A = w.heap.size) (hb : Below X.heap.size X w) :
    MadeAd six X n (.pointer (some ⟨A, 0, none⟩)) (w.alloc (.cells #[.bool six, .int .u64 (hiOf six n), .int .u64 (loOf n)] E)) := by
  subst hA
  exact ⟨_, rfl, rx_new (adCells six n) E, hb.alloc (by have := hb.size; omega) _, hb.size⟩
theorem MadeAd.put3 {six : Bool} {X w : World} {A : Nat} {c : List Value} (n : Nat) (hr : RX w A c) (hc : c.length = 3) (hb : Below X.heap.size X w) (hA : X.heap.size ≤ A) :
    MadeAd six X n (.pointer (some ⟨A, 0, none⟩)) (((w.setCell ⟨A, 0, none⟩ (.bool six)).setCell ⟨A, 1, none⟩ (.int .u64 (hiOf six n))).setCell ⟨A, 2, none⟩ (.int .u64 (loOf n))) := by
  obtain ⟨h1, h2⟩ := rx_set (c' := adCells six n) hr (by rw [hc]; rfl)
  exact ⟨_, rfl, h1, hb.trans (h2.below hb.size (fun b x hb' e => by omega)), hA⟩


set_option maxRecDepth 100000 in
set_option maxHeartbeats 8000000 in
theorem rangeCut_good (six : Bool) (hi lo by' cu : Int) (w : World) (n m : Nat) (d c : Int) (hd : 0 ≤ d ∧ d < 65536) (hn : Fits six n) (hm : Fits six m) (hnm : (m : Int) = n + (1 + d)) (hc : 0 ≤ c ∧ c < 1 + d)
    (P1 : Hid (∀ w, Calls Try.prog 35 #[.agg #[.bool six, .int .u64 hi, .int .u64 lo]] w fun e w' => e = .returned (Value.agg #[.bool six, .int .u64 (hiOf six n), .int .u64 (loOf n)]) ∧ Below w.heap.size w w'))
    (P : Hid (∀ w, Calls Try.prog 30 #[.int .i64 by', .int .i64 65536] w fun e w' => e = .returned (.int .i64 d) ∧ w = w'))
    (P2 : Hid (∀ w, Calls Try.prog 30 #[.int .i64 cu, .int .i64 (1 + d)] w fun e w' => e = .returned (.int .i64 c) ∧ w = w')) :
    Calls Try.prog 12 #[.agg #[.bool six, .int .u64 hi, .int .u64 lo], .int .i64 by', .int .i64 cu] w fun e w' => e = .returned (.bool true) ∧ Below w.heap.size w w' := by
  obtain ⟨q, hq⟩ : ∃ q : Nat, (q : Int) = n + c := ⟨(n + c).toNat, by omega⟩
  have hqm : q + 1 ≤ m := by omega
  have hf1 : Fits six q := Nat.lt_of_lt_of_le (show q < m by omega) (Nat.le_of_lt hm)
  have hf2 : Fits six (q + 1) := Nat.lt_of_le_of_lt hqm hm
  have S := Lib.hid cidrSure_any
  have N := Lib.hid (fun w => next_ok six n (1 + d) w hn (by omega) (by omega) m hnm hm)
  have N2 := Lib.hid (fun w => next_ok six n c w hn (by omega) (by omega) q hq hf1)
  have N3 := Lib.hid (fun w => next_ok six q 1 w hf1 (by decide) (by decide) (q + 1) (by omega) hf2)
  have R1 := Lib.hid (fun w => range_ok six n q w hn hf1 (by omega) (by omega))
  have R2 := Lib.hid (fun w => range_ok six (q + 1) m w hf2 hm hqm (by omega))
  have R3 := Lib.hid (fun w => range_ok six n m w hn hm (by omega) (by omega))
  have HN := Lib.hid hn
  have HM := Lib.hid hm
  have ew : IntKind.i64.wrap (1 + d) = 1 + d := IntWalk.i64_in _ (by omega)
  clear hn hm hf1 hf2
  go_enter Try.func12, Try.ntmps12
  go_upto_region 6 with (first | ((with_reducible refine (P1.out _).mono ?_); rintro e w1 ⟨rfl, hb1⟩; (repeat (with_reducible (replace hb1 := Below.undrew hb1))); obtain ⟨hc1, hf1⟩ := bcell hb1; have hz1 := hb1.size; (repeat (first | rw [World.size_alloc] at hz1 | rw [World.size_drew] at hz1 | rw [World.size_setCell] at hz1)); (try have : g < w1.heap.size := by omega); (try have : g < w1.heap.size + 1 := by omega); (try have : g < w1.heap.size + 1 + 1 := by omega); (try have : g < w1.heap.size + 1 + 1 + 1 := by omega); (try have : w1.heap.size < w1.heap.size := by omega); (try have : w1.heap.size < w1.heap.size + 1 := by omega); (try have : w1.heap.size < w1.heap.size + 1 + 1 := by omega); (try have : w1.heap.size < w1.heap.size + 1 + 1 + 1 := by omega)) | ((with_reducible refine (P.out _).mono ?_); rintro e w' ⟨rfl, rfl⟩) | ((with_reducible refine (N.out _).mono ?_); rintro e w2 ⟨rfl, hb2⟩; (repeat (with_reducible (replace hb2 := Below.undrew hb2))); obtain ⟨hc2, hf2⟩ := bcell hb2; have hz2 := hb2.size; (repeat (first | rw [World.size_alloc] at hz2 | rw [World.size_drew] at hz2 | rw [World.size_setCell] at hz2)); (try have : g < w2.heap.size := by omega); (try have : g < w2.heap.size + 1 := by omega); (try have : g < w2.heap.size + 1 + 1 := by omega); (try have : g < w2.heap.size + 1 + 1 + 1 := by omega); (try have : w1.heap.size < w2.heap.size := by omega); (try have : w1.heap.size < w2.heap.size + 1 := by omega); (try have : w1.heap.size < w2.heap.size + 1 + 1 := by omega); (try have : w1.heap.size < w2.heap.size + 1 + 1 + 1 := by omega); (try have : w1.heap.size < w2.heap.size := by omega); (try have : w1.heap.size < w2.heap.size + 1 := by omega); (try have : w1.heap.size < w2.heap.size + 1 + 1 := by omega); (try have : w1.heap.size < w2.heap.size + 1 + 1 + 1 := by omega)))
  obtain ⟨Z, hZ⟩ : ∃ Z, Z = w2.alloc (.cells #[.bool six, .int .u64 (hiOf six m), .int .u64 (loOf m)] 27) := ⟨_, rfl⟩
  have hb12 : Below w1.heap.size w1 w2 := ((Below.refl w1.heap.size w1).alloc (Nat.le_refl _) _).trans (hb2.mono (by simp))
  have a0 : Z.cell? ⟨w1.heap.size, 0, none⟩ = some (.bool six) := by rw [hZ]; go_simp
  have a1 : Z.cell? ⟨w1.heap.size, 1, none⟩ = some (.int .u64 (hiOf six n)) := by rw [hZ]; go_simp
  have a2 : Z.cell? ⟨w1.heap.size, 2, none⟩ = some (.int .u64 (loOf n)) := by rw [hZ]; go_simp
  have b0 : Z.cell? ⟨w2.heap.size, 0, none⟩ = some (.bool six) := by rw [hZ]; simp
  have b1 : Z.cell? ⟨w2.heap.size, 1, none⟩ = some (.int .u64 (hiOf six m)) := by rw [hZ]; simp
  have b2 : Z.cell? ⟨w2.heap.size, 2, none⟩ = some (.int .u64 (loOf m)) := by rw [hZ]; simp
  have hZ2 : w2.heap.size < Z.heap.size := by rw [hZ]; simp
  have hZ1 : w1.heap.size < Z.heap.size := by omega
  have HZB : Hid (Below w.heap.size w Z) := by
    show Below _ _ _
    rw [hZ]
    exact ((((Below.refl w.heap.size w).alloc (Nat.le_refl _) _).trans (hb1.mono (by simp))).trans (hb12.mono (by omega))).alloc (by omega) _
  rw [← hZ]
  clear hZ hb12 hb1 hb2 hc1 hc2 hf1 hf2 P1 P N hz1 hz2
  generalize w1.heap.size = ab at *
  generalize w2.heap.size = bb at *
  have hwz := HZB.out.size
  go_cut [11, 12] (fun v e wx => e = .int .i64 0 ∧ Hid (MadeAd six Z q v wx))
  case first =>
    have hzw : Z.heap.size ≤ Z.heap.size := Nat.le_refl _
    refine wp_region_held_drew (S := (fun w' => Below Z.heap.size Z w')) (by kernel_rfl) ?_ (fun hHeld => ?_)
    · ((try dsimp only); (repeat' (first | (with_reducible exact Below.refl _ _) | (with_reducible assumption) | (with_reducible refine Below.alloc ?_ ?_ _) | (with_reducible refine Below.drew ?_) | (with_reducible refine Below.stepG ?_ (by assumption) ?_) | (with_reducible refine Below.setCell ?_ ?_ _) | omega | (dsimp only; omega) | (simp; done) | (simp; omega))))
    (refine wpAnyH_take (i := 0) (oi := _) (v := ?_) (by simp only [List.getElem?_toArray, List.getElem?_cons_zero, List.getElem?_cons_succ]; rfl) (by kernel_rfl) (by decide +kernel) (by decide +kernel) (by exact fun _ _ _ h => h) (Or.inl ⟨by rfl, ?_⟩) (by assumption) ?_; rotate_left; (· ((intro w hSw); (have hSc := Below.cellAt hSw); clear hSw; go_simp; (try with_reducible rfl))); (try simp only [Act.put, List.setIfInBounds_toArray, List.set_cons_zero, List.set_cons_succ]))
    (refine wpAnyH_take (i := 1) (oi := _) (v := ?_) (by simp only [List.getElem?_toArray, List.getElem?_cons_zero, List.getElem?_cons_succ]; rfl) (by kernel_rfl) (by decide +kernel) (by decide +kernel) (by exact fun _ _ _ h => h) (Or.inl ⟨by rfl, ?_⟩) (by assumption) ?_; rotate_left; (· ((intro w hSw); (have hSc := Below.cellAt hSw); clear hSw; go_simp; (try with_reducible rfl))); (try simp only [Act.put, List.setIfInBounds_toArray, List.set_cons_zero, List.set_cons_succ]))
    (refine wpAnyH_take (i := 2) (oi := _) (v := ?_) (by simp only [List.getElem?_toArray, List.getElem?_cons_zero, List.getElem?_cons_succ]; rfl) (by kernel_rfl) (by decide +kernel) (by decide +kernel) (by exact fun _ _ _ h => h) (Or.inl ⟨by rfl, ?_⟩) (by assumption) ?_; rotate_left; (· ((intro w hSw); (have hSc := Below.cellAt hSw); clear hSw; go_simp; (try with_reducible rfl))); (try simp only [Act.put, List.setIfInBounds_toArray, List.set_cons_zero, List.set_cons_succ]))
    (refine' wpAnyH_takeC (i := 3) (oi := _) (v := _) (by simp only [List.getElem?_toArray, List.getElem?_cons_zero, List.getElem?_cons_succ]; rfl) (by kernel_rfl) (by decide +kernel) (by decide +kernel) (by exact fun _ _ _ h => h) (takes_call (f := _) (args := _) (by rfl) ?_ ?_) (by assumption) ?_; rotate_left 4; (· ((intro w hSw); (with_reducible exact P2.out _))); rotate_right 1; (· ((intro w); go_simp)); (try simp only [Act.put, List.setIfInBounds_toArray, List.set_cons_zero, List.set_cons_succ]))
    repeat' (first
      | (refine wpAnyH_take (i := 5) (oi := _) (v := ?_) (by simp only [List.getElem?_toArray, List.getElem?_cons_zero, List.getElem?_cons_succ]; rfl) (by kernel_rfl) (by decide +kernel) (by decide +kernel) (by exact fun _ _ _ h => h) (Or.inl ⟨by rfl, ?_⟩) (by assumption) ?_; rotate_left; (· ((intro w hSw); (have hSc := Below.cellAt hSw); clear hSw; go_simp; (try with_reducible rfl))); (try simp only [Act.put, List.setIfInBounds_toArray, List.set_cons_zero, List.set_cons_succ]))
      | (refine wpAnyH_take (i := 6) (oi := _) (v := ?_) (by simp only [List.getElem?_toArray, List.getElem?_cons_zero, List.getElem?_cons_succ]; rfl) (by kernel_rfl) (by decide +kernel) (by decide +kernel) (by exact fun _ _ _ h => h) (Or.inl ⟨by rfl, ?_⟩) (by assumption) ?_; rotate_left; (· ((intro w hSw); (have hSc := Below.cellAt hSw); clear hSw; go_simp; (try with_reducible rfl))); (try simp only [Act.put, List.setIfInBounds_toArray, List.set_cons_zero, List.set_cons_succ]))
      | (refine wpAnyH_take (i := 7) (oi := _) (v := ?_) (by simp only [List.getElem?_toArray, List.getElem?_cons_zero, List.getElem?_cons_succ]; rfl) (by kernel_rfl) (by decide +kernel) (by decide +kernel) (by exact fun _ _ _ h => h) (Or.inl ⟨by rfl, ?_⟩) (by assumption) ?_; rotate_left; (· ((intro w hSw); (have hSc := Below.cellAt hSw); clear hSw; go_simp; (try with_reducible rfl))); (try simp only [Act.put, List.setIfInBounds_toArray, List.set_cons_zero, List.set_cons_succ]))
      | (refine wpAnyH_take (i := 10) (oi := _) (v := ?_) (by simp only [List.getElem?_toArray, List.getElem?_cons_zero, List.getElem?_cons_succ]; rfl) (by kernel_rfl) (by decide +kernel) (by decide +kernel) (by exact fun _ _ _ h => h) (Or.inl ⟨by rfl, ?_⟩) (by assumption) ?_; rotate_left; (· ((intro w hSw); (have hSc := Below.cellAt hSw); clear hSw; go_simp; (try with_reducible rfl))); (try simp only [Act.put, List.setIfInBounds_toArray, List.set_cons_zero, List.set_cons_succ]))
      | (refine wpAnyH_ready (rs := [4, 8]) (by decide +kernel) (by simp) (AllReadyH.cons (by simp only [List.getElem?_toArray, List.getElem?_cons_zero, List.getElem?_cons_succ]; rfl) (fun K hK => ?_) (AllReadyH.cons (by simp only [List.getElem?_toArray, List.getElem?_cons_zero, List.getElem?_cons_succ]; rfl) (fun K hK => ?_) AllReadyH.nil)); all_goals ((first | fail | (go_simp; (first | ((with_reducible refine (N2.out _).mono ?_); rintro e w3 ⟨rfl, hb3⟩; (repeat (with_reducible (replace hb3 := Below.undrew hb3))); obtain ⟨hc3, hf3⟩ := bcell hb3; have hz3 := hb3.size; (repeat (first | rw [World.size_alloc] at hz3 | rw [World.size_drew] at hz3 | rw [World.size_setCell] at hz3)); (try have : g < w3.heap.size := by omega); (try have : g < w3.heap.size + 1 := by omega); (try have : g < w3.heap.size + 1 + 1 := by omega); (try have : g < w3.heap.size + 1 + 1 + 1 := by omega); (try have : w1.heap.size < w3.heap.size := by omega); (try have : w1.heap.size < w3.heap.size + 1 := by omega); (try have : w1.heap.size < w3.heap.size + 1 + 1 := by omega); (try have : w1.heap.size < w3.heap.size + 1 + 1 + 1 := by omega); (try have : w1.heap.size < w3.heap.size := by omega); (try have : w1.heap.size < w3.heap.size + 1 := by omega); (try have : w1.heap.size < w3.heap.size + 1 + 1 := by omega); (try have : w1.heap.size < w3.heap.size + 1 + 1 + 1 := by omega)) | skip))); (refine hK.out _ _ ?_ (fun hHeld => ?_)); (· ((try dsimp only); (repeat' (first | (with_reducible exact Below.refl _ _) | (with_reducible assumption) | (with_reducible refine Below.alloc ?_ ?_ _) | (with_reducible refine Below.drew ?_) | (with_reducible refine Below.stepG ?_ (by assumption) ?_) | (with_reducible refine Below.setCell ?_ ?_ _) | omega | (dsimp only; omega) | (simp; done) | (simp; omega))))); (clear hK K; (try simp only [Act.put, List.setIfInBounds_toArray, List.set_cons_zero, List.set_cons_succ]))))
      | (refine wpAnyH_ready (rs := [4]) (by decide +kernel) (by simp) (AllReadyH.cons (by simp only [List.getElem?_toArray, List.getElem?_cons_zero, List.getElem?_cons_succ]; rfl) (fun K hK => ?_) AllReadyH.nil); all_goals ((first | fail | (go_simp; (first | ((with_reducible refine (N2.out _).mono ?_); rintro e w3 ⟨rfl, hb3⟩; (repeat (with_reducible (replace hb3 := Below.undrew hb3))); obtain ⟨hc3, hf3⟩ := bcell hb3; have hz3 := hb3.size; (repeat (first | rw [World.size_alloc] at hz3 | rw [World.size_drew] at hz3 | rw [World.size_setCell] at hz3)); (try have : g < w3.heap.size := by omega); (try have : g < w3.heap.size + 1 := by omega); (try have : g < w3.heap.size + 1 + 1 := by omega); (try have : g < w3.heap.size + 1 + 1 + 1 := by omega); (try have : w1.heap.size < w3.heap.size := by omega); (try have : w1.heap.size < w3.heap.size + 1 := by omega); (try have : w1.heap.size < w3.heap.size + 1 + 1 := by omega); (try have : w1.heap.size < w3.heap.size + 1 + 1 + 1 := by omega); (try have : w1.heap.size < w3.heap.size := by omega); (try have : w1.heap.size < w3.heap.size + 1 := by omega); (try have : w1.heap.size < w3.heap.size + 1 + 1 := by omega); (try have : w1.heap.size < w3.heap.size + 1 + 1 + 1 := by omega)) | skip))); (refine hK.out _ _ ?_ (fun hHeld => ?_)); (· ((try dsimp only); (repeat' (first | (with_reducible exact Below.refl _ _) | (with_reducible assumption) | (with_reducible refine Below.alloc ?_ ?_ _) | (with_reducible refine Below.drew ?_) | (with_reducible refine Below.stepG ?_ (by assumption) ?_) | (with_reducible refine Below.setCell ?_ ?_ _) | omega | (dsimp only; omega) | (simp; done) | (simp; omega))))); (clear hK K; (try simp only [Act.put, List.setIfInBounds_toArray, List.set_cons_zero, List.set_cons_succ]))))
      | (refine wpAnyH_ready (rs := [8]) (by decide +kernel) (by simp) (AllReadyH.cons (by simp only [List.getElem?_toArray, List.getElem?_cons_zero, List.getElem?_cons_succ]; rfl) (fun K hK => ?_) AllReadyH.nil); all_goals ((first | fail | (go_simp; (first | ((with_reducible refine (N2.out _).mono ?_); rintro e w3 ⟨rfl, hb3⟩; (repeat (with_reducible (replace hb3 := Below.undrew hb3))); obtain ⟨hc3, hf3⟩ := bcell hb3; have hz3 := hb3.size; (repeat (first | rw [World.size_alloc] at hz3 | rw [World.size_drew] at hz3 | rw [World.size_setCell] at hz3)); (try have : g < w3.heap.size := by omega); (try have : g < w3.heap.size + 1 := by omega); (try have : g < w3.heap.size + 1 + 1 := by omega); (try have : g < w3.heap.size + 1 + 1 + 1 := by omega); (try have : w1.heap.size < w3.heap.size := by omega); (try have : w1.heap.size < w3.heap.size + 1 := by omega); (try have : w1.heap.size < w3.heap.size + 1 + 1 := by omega); (try have : w1.heap.size < w3.heap.size + 1 + 1 + 1 := by omega); (try have : w1.heap.size < w3.heap.size := by omega); (try have : w1.heap.size < w3.heap.size + 1 := by omega); (try have : w1.heap.size < w3.heap.size + 1 + 1 := by omega); (try have : w1.heap.size < w3.heap.size + 1 + 1 + 1 := by omega)) | skip))); (refine hK.out _ _ ?_ (fun hHeld => ?_)); (· ((try dsimp only); (repeat' (first | (with_reducible exact Below.refl _ _) | (with_reducible assumption) | (with_reducible refine Below.alloc ?_ ?_ _) | (with_reducible refine Below.drew ?_) | (with_reducible refine Below.stepG ?_ (by assumption) ?_) | (with_reducible refine Below.setCell ?_ ?_ _) | omega | (dsimp only; omega) | (simp; done) | (simp; omega))))); (clear hK K; (try simp only [Act.put, List.setIfInBounds_toArray, List.set_cons_zero, List.set_cons_succ]))))
      | (refine wpAnyH_ready (rs := [9]) (by decide +kernel) (by simp) (AllReadyH.cons (by simp only [List.getElem?_toArray, List.getElem?_cons_zero, List.getElem?_cons_succ]; rfl) (fun K hK => ?_) AllReadyH.nil); all_goals ((first | fail | (go_simp; (first | ((with_reducible refine (N2.out _).mono ?_); rintro e w3 ⟨rfl, hb3⟩; (repeat (with_reducible (replace hb3 := Below.undrew hb3))); obtain ⟨hc3, hf3⟩ := bcell hb3; have hz3 := hb3.size; (repeat (first | rw [World.size_alloc] at hz3 | rw [World.size_drew] at hz3 | rw [World.size_setCell] at hz3)); (try have : g < w3.heap.size := by omega); (try have : g < w3.heap.size + 1 := by omega); (try have : g < w3.heap.size + 1 + 1 := by omega); (try have : g < w3.heap.size + 1 + 1 + 1 := by omega); (try have : w1.heap.size < w3.heap.size := by omega); (try have : w1.heap.size < w3.heap.size + 1 := by omega); (try have : w1.heap.size < w3.heap.size + 1 + 1 := by omega); (try have : w1.heap.size < w3.heap.size + 1 + 1 + 1 := by omega); (try have : w1.heap.size < w3.heap.size := by omega); (try have : w1.heap.size < w3.heap.size + 1 := by omega); (try have : w1.heap.size < w3.heap.size + 1 + 1 := by omega); (try have : w1.heap.size < w3.heap.size + 1 + 1 + 1 := by omega)) | skip))); (refine hK.out _ _ ?_ (fun hHeld => ?_)); (· ((try dsimp only); (repeat' (first | (with_reducible exact Below.refl _ _) | (with_reducible assumption) | (with_reducible refine Below.alloc ?_ ?_ _) | (with_reducible refine Below.drew ?_) | (with_reducible refine Below.stepG ?_ (by assumption) ?_) | (with_reducible refine Below.setCell ?_ ?_ _) | omega | (dsimp only; omega) | (simp; done) | (simp; omega))))); (clear hK K; (try simp only [Act.put, List.setIfInBounds_toArray, List.set_cons_zero, List.set_cons_succ]))))
      | (refine wpAnyH_done (by decide +kernel) ?_ _)
      | fail)
    go_goals
    all_goals go_wp2_with fail
    all_goals go_meet
    all_goals refine ⟨rfl, Lib.hid ?_⟩
    all_goals first
      | ((with_reducible refine MadeAd.new3 q _ ?_ ?_); (· simp); (· (repeat' (first | (with_reducible exact Below.refl _ _) | (with_reducible assumption) | (with_reducible refine Below.alloc ?_ ?_ _) | (with_reducible refine Below.drew ?_) | (with_reducible refine Below.stepG ?_ (by assumption) ?_) | (with_reducible refine Below.setCell ?_ ?_ _) | omega | (dsimp only; omega) | (simp; done) | (simp; omega)))))
      | ((with_reducible refine MadeAd.put3 q (rx_mk ?_ hb3) ?_ ?_ ?_); (· simp); (· rfl); (· (repeat' (first | (with_reducible exact Below.refl _ _) | (with_reducible assumption) | (with_reducible refine Below.alloc ?_ ?_ _) | (with_reducible refine Below.drew ?_) | (with_reducible refine Below.stepG ?_ (by assumption) ?_) | (with_reducible refine Below.setCell ?_ ?_ _) | omega | (dsimp only; omega) | (simp; done) | (simp; omega)))); (· (first | omega | (simp; done) | (simp; omega))))
  case rest =>
    obtain ⟨rfl, M, rfl, HM0, hbM, hZM⟩ := hcut
    have hlM := HM0.lt
    have m0 : wc.cell? ⟨M, 0, none⟩ = some (.bool six) := HM0.cell 0 _ rfl
    have m1 : wc.cell? ⟨M, 1, none⟩ = some (.int .u64 (hiOf six q)) := HM0.cell 1 _ rfl
    have m2 : wc.cell? ⟨M, 2, none⟩ = some (.int .u64 (loOf q)) := HM0.cell 2 _ rfl
    have a0' := (hbM.cell (p := ⟨ab, 0, none⟩) hZ1).trans a0
    have a1' := (hbM.cell (p := ⟨ab, 1, none⟩) hZ1).trans a1
    have a2' := (hbM.cell (p := ⟨ab, 2, none⟩) hZ1).trans a2
    have b0' := (hbM.cell (p := ⟨bb, 0, none⟩) hZ2).trans b0
    have b1' := (hbM.cell (p := ⟨bb, 1, none⟩) hZ2).trans b1
    have b2' := (hbM.cell (p := ⟨bb, 2, none⟩) hZ2).trans b2
    have hla : ab < wc.heap.size := Nat.lt_of_lt_of_le hZ1 hbM.size
    have hlb : bb < wc.heap.size := Nat.lt_of_lt_of_le hZ2 hbM.size
    have HB := Lib.hid (HZB.out.trans (hbM.mono hwz))
    have hzc := HB.out.size
    clear HM0 hbM hZM a0 a1 a2 b0 b1 b2 hZ1 hZ2 hwz N2 P2 HZB
    
    go_wp2_with (first | ((with_reducible refine (N3.out _).mono ?_); rintro e w4 ⟨rfl, hb4⟩; (repeat (with_reducible (replace hb4 := Below.undrew hb4))); obtain ⟨hc4, hf4⟩ := bcell hb4; have hz4 := hb4.size; (repeat (first | rw [World.size_alloc] at hz4 | rw [World.size_drew] at hz4 | rw [World.size_setCell] at hz4)); (try have : ab < w4.heap.size := by omega); (try have : ab < w4.heap.size + 1 := by omega); (try have : ab < w4.heap.size + 1 + 1 := by omega); (try have : ab < w4.heap.size + 1 + 1 + 1 := by omega); (try have : bb < w4.heap.size := by omega); (try have : bb < w4.heap.size + 1 := by omega); (try have : bb < w4.heap.size + 1 + 1 := by omega); (try have : bb < w4.heap.size + 1 + 1 + 1 := by omega); (try have : M < w4.heap.size := by omega); (try have : M < w4.heap.size + 1 := by omega); (try have : M < w4.heap.size + 1 + 1 := by omega); (try have : M < w4.heap.size + 1 + 1 + 1 := by omega)))
    refine (R1.out _).mono ?_
    rintro e w5 ⟨xa, xc, xs, rfl, ho5, hr5, hb5⟩
    (repeat (with_reducible (replace hb5 := Below.undrew hb5))); obtain ⟨hc5, hf5⟩ := bcell hb5; have hz5 := hb5.size; (repeat (first | rw [World.size_alloc] at hz5 | rw [World.size_drew] at hz5 | rw [World.size_setCell] at hz5)); (try have : ab < w5.heap.size := by omega); (try have : ab < w5.heap.size + 1 := by omega); (try have : ab < w5.heap.size + 1 + 1 := by omega); (try have : ab < w5.heap.size + 1 + 1 + 1 := by omega); (try have : bb < w5.heap.size := by omega); (try have : bb < w5.heap.size + 1 := by omega); (try have : bb < w5.heap.size + 1 + 1 := by omega); (try have : bb < w5.heap.size + 1 + 1 + 1 := by omega); (try have : M < w5.heap.size := by omega); (try have : M < w5.heap.size + 1 := by omega); (try have : M < w5.heap.size + 1 + 1 := by omega); (try have : M < w5.heap.size + 1 + 1 + 1 := by omega)
    have HX5 := Lib.hid ho5
    have HRX := Lib.hid hr5
    have hlx : xs.length ≤ 34 := RunP.up (i := 0) (j := 17) hr5 (Nat.mod_one _) (by decide) (by omega) (by cases six <;> decide)
    clear ho5 hr5
    go_wp2_with fail
    refine (R2.out _).mono ?_
    rintro e w6 ⟨ya, yc, ys, rfl, ho6, hr6, hb6⟩
    (repeat (with_reducible (replace hb6 := Below.undrew hb6))); obtain ⟨hc6, hf6⟩ := bcell hb6; have hz6 := hb6.size; (repeat (first | rw [World.size_alloc] at hz6 | rw [World.size_drew] at hz6 | rw [World.size_setCell] at hz6)); (try have : ab < w6.heap.size := by omega); (try have : ab < w6.heap.size + 1 := by omega); (try have : ab < w6.heap.size + 1 + 1 := by omega); (try have : ab < w6.heap.size + 1 + 1 + 1 := by omega); (try have : bb < w6.heap.size := by omega); (try have : bb < w6.heap.size + 1 := by omega); (try have : bb < w6.heap.size + 1 + 1 := by omega); (try have : bb < w6.heap.size + 1 + 1 + 1 := by omega); (try have : M < w6.heap.size := by omega); (try have : M < w6.heap.size + 1 := by omega); (try have : M < w6.heap.size + 1 + 1 := by omega); (try have : M < w6.heap.size + 1 + 1 + 1 := by omega)
    have HY6 := Lib.hid ho6
    have HRY := Lib.hid hr6
    have hly : ys.length ≤ 34 := RunP.up (i := 0) (j := 17) hr6 (Nat.mod_one _) (by decide) (by omega) (by cases six <;> decide)
    have h56 : Below w5.heap.size w5 w6 := by (repeat' (first | (with_reducible exact Below.refl _ _) | (with_reducible assumption) | (with_reducible refine Below.alloc ?_ ?_ _) | (with_reducible refine Below.drew ?_) | (with_reducible refine Below.stepG ?_ (by assumption) ?_) | (with_reducible refine Below.setCell ?_ ?_ _) | omega | (dsimp only; omega) | (simp; done) | (simp; omega)))
    have HX6 := Lib.hid (HX5.out.below h56)
    clear ho6 hr6 HX5 h56
    go_wp2_with fail
    refine (R3.out _).mono ?_
    rintro e w7 ⟨za, zc, zs, rfl, ho7, hr7, hb7⟩
    (repeat (with_reducible (replace hb7 := Below.undrew hb7))); obtain ⟨hc7, hf7⟩ := bcell hb7; have hz7 := hb7.size; (repeat (first | rw [World.size_alloc] at hz7 | rw [World.size_drew] at hz7 | rw [World.size_setCell] at hz7)); (try have : ab < w7.heap.size := by omega); (try have : ab < w7.heap.size + 1 := by omega); (try have : ab < w7.heap.size + 1 + 1 := by omega); (try have : ab < w7.heap.size + 1 + 1 + 1 := by omega); (try have : bb < w7.heap.size := by omega); (try have : bb < w7.heap.size + 1 := by omega); (try have : bb < w7.heap.size + 1 + 1 := by omega); (try have : bb < w7.heap.size + 1 + 1 + 1 := by omega); (try have : M < w7.heap.size := by omega); (try have : M < w7.heap.size + 1 := by omega); (try have : M < w7.heap.size + 1 + 1 := by omega); (try have : M < w7.heap.size + 1 + 1 + 1 := by omega)
    have HZ7 := Lib.hid ho7
    have HRZ := Lib.hid hr7
    have h67 : Below w6.heap.size w6 w7 := by (repeat' (first | (with_reducible exact Below.refl _ _) | (with_reducible assumption) | (with_reducible refine Below.alloc ?_ ?_ _) | (with_reducible refine Below.drew ?_) | (with_reducible refine Below.stepG ?_ (by assumption) ?_) | (with_reducible refine Below.setCell ?_ ?_ _) | omega | (dsimp only; omega) | (simp; done) | (simp; omega)))
    have HX7 := Lib.hid (HX6.out.below h67)
    have HY7 := Lib.hid (HY6.out.below h67)
    have HB7 : Hid (Below w.heap.size w w7) := by
      show Below _ _ _
      have := HB.out
      have h47 : Below wc.heap.size wc w7 := by (repeat' (first | (with_reducible exact Below.refl _ _) | (with_reducible assumption) | (with_reducible refine Below.alloc ?_ ?_ _) | (with_reducible refine Below.drew ?_) | (with_reducible refine Below.stepG ?_ (by assumption) ?_) | (with_reducible refine Below.setCell ?_ ?_ _) | omega | (dsimp only; omega) | (simp; done) | (simp; omega)))
      exact this.trans (h47.mono hzc)
    clear ho7 hr7 HX6 HY6 h67 R1 R2 R3 N3 hb4 hb5 hb6 hb7 hc4 hc5 hc6 hc7 hf4 hf5 hf6 hf7 m0 m1 m2 a0' a1' a2' b0' b1' b2' HB hlM hla hlb
    have ew2 : IntKind.i64.wrap ((xs.length : Int) + ys.length) = (xs.length : Int) + ys.length := IntWalk.i64_in _ (by omega)
    have q1 : ¬ (80 < (xs.length : Int) + ys.length) := by omega
    have hz7 := HB7.out.size
    
    go_wp2_with (first | ((with_reducible refine (S.out _).mono ?_); rintro e w8 ⟨rfl, hb8⟩; (repeat (with_reducible (replace hb8 := Below.undrew hb8))); obtain ⟨hc8, hf8⟩ := bcell hb8; have hz8 := hb8.size; (repeat (first | rw [World.size_alloc] at hz8 | rw [World.size_drew] at hz8 | rw [World.size_setCell] at hz8)); (try have : w7.heap.size < w8.heap.size := by omega); (try have : w7.heap.size < w8.heap.size + 1 := by omega); (try have : w7.heap.size < w8.heap.size + 1 + 1 := by omega); (try have : w7.heap.size < w8.heap.size + 1 + 1 + 1 := by omega)))
    have HX8 := Lib.hid (HX7.out.below hb8)
    have HY8 := Lib.hid (HY7.out.below hb8)
    have HZ8 := Lib.hid (HZ7.out.below hb8)
    have HB8 := Lib.hid (HB7.out.trans (hb8.mono hz7))
    clear hb8 hc8 hf8 HX7 HY7 HZ7 HB7 ew2 q1 S
    refine (copiedPres_any six ya yc ys w8 HY8.out.sl (by omega)).mono ?_
    rintro e w9 ⟨ca, cc, rfl, ho9, hb9⟩
    (repeat (with_reducible (replace hb9 := Below.undrew hb9))); obtain ⟨hc9, hf9⟩ := bcell hb9; have hz9 := hb9.size; (repeat (first | rw [World.size_alloc] at hz9 | rw [World.size_drew] at hz9 | rw [World.size_setCell] at hz9)); (try have : w7.heap.size < w9.heap.size := by omega); (try have : w7.heap.size < w9.heap.size + 1 := by omega); (try have : w7.heap.size < w9.heap.size + 1 + 1 := by omega); (try have : w7.heap.size < w9.heap.size + 1 + 1 + 1 := by omega)
    have HC9 := Lib.hid ho9
    have HX9 := Lib.hid (HX8.out.below hb9)
    have HB89 := Lib.hid hb9
    have HB9 := Lib.hid (HB8.out.trans (hb9.mono HB8.out.size))
    clear hb9 hc9 hf9 HX8 HY8 HB8 ho9
    go_wp2_with (at_builtin; refine stop_at ?_; intro G hG)
    rw [← hG.out]; clear hG G
    refine wpList_append_any rfl _ _ 62 29 4 32 _ rfl eiPre w8.heap.size _ ((ys).map (pfC six)) rfl (HC9.out) _ ((xs).map (pfC six)) rfl (HX9.out.sl) (by intro c hc; obtain ⟨r, _, rfl⟩ := List.mem_map.1 hc; exact pfC_one six r) (by simp only [List.length_map]; first | omega | (simp; omega)) (by decide) (by first | omega | (simp; done) | (simp; omega)) ?_
    intro v10 w10 hown10 hb10
    rw [← List.map_append] at hown10
    obtain ⟨xs10, hxs10⟩ : ∃ x : List (Nat × Nat), x = (ys) ++ (xs) := ⟨_, rfl⟩
    rw [← hxs10] at hown10
    have hl10 : xs10.length = (ys).length + (xs).length := by rw [hxs10, List.length_append]
    have HX10 := Lib.hid hxs10
    clear hxs10
    have HL10 := Lib.hid hl10
    clear hl10
    obtain ⟨a10, cap10, rfl⟩ := hown10.shape
    rw [List.length_map] at hown10 ⊢
    have HO10 := Lib.hid hown10
    clear hown10
    obtain ⟨hc10, hf10⟩ := bcellB hb10; have hz10 := hb10.size; (repeat (first | rw [World.size_alloc] at hz10 | rw [World.size_drew] at hz10 | rw [World.size_setCell] at hz10)); (try have : w7.heap.size < w10.heap.size := by omega); (try have : w7.heap.size < w10.heap.size + 1 := by omega); (try have : w7.heap.size < w10.heap.size + 1 + 1 := by omega); (try have : w7.heap.size < w10.heap.size + 1 + 1 + 1 := by omega)
    have HV : Hid (∀ x ∈ xs10, VP six x.1 x.2) := by
      show ∀ x ∈ xs10, VP six x.1 x.2
      rw [HX10.out]
      intro x hx
      rcases List.mem_append.1 hx with hx | hx
      · exact HRY.out.each x hx
      · exact HRX.out.each x hx
    have HP : Hid (∀ l, SortR xs10 l → spansL six l = [(n, m)]) := fun l hl => spans_is HV.out hl (List.pairwise_singleton _ _) (fun s hs => by simp at hs; subst hs; dsimp only; omega) (fun a => by
      rw [HX10.out, InP.append, HRX.out.inP, HRY.out.inP]
      simp only [InS, List.mem_singleton, exists_eq_left]
      omega)
    have HB8t := Lib.hid (HB89.out.trans hb10)
    have HZ10 := Lib.hid (HZ8.out.sl.below' HB8t.out (fun x hx => (HZ8.out.lt x.block (by rw [hx]; rfl)).2))
    have hza := Lib.hid (fun x (hx : za = some x) => (HZ8.out.lt x.block (by rw [hx]; rfl)).2)
    have hz8t := HB8t.out.size
    have HB10 := Lib.hid (HB9.out.trans (hb10.mono (by have := HB9.out.size; omega)))
    have HMG := Lib.hid (merge_any six a10 cap10 xs10 w10 HO10.out.sl (by have := HL10.out; omega) HV.out (fun x hx => (HO10.out.lt x.block (by rw [hx]; rfl)).2) (fun l hl => by rw [HP.out l hl]; simp [sumS]; omega))
    clear hb10 hc10 hf10 HC9 HX9 HB9 HB89 HB8t HZ8
    go_wp2_with fail
    with_reducible refine HMG.out.mono ?_
    rintro e w11 ⟨ra, rc, ls, rs, rfl, hsr, hcr, ho11, hb11⟩
    (repeat (with_reducible (replace hb11 := Below.undrew hb11))); obtain ⟨hc11, hf11⟩ := bcell hb11; have hz11 := hb11.size; (repeat (first | rw [World.size_alloc] at hz11 | rw [World.size_drew] at hz11 | rw [World.size_setCell] at hz11)); (try have : w7.heap.size < w11.heap.size := by omega); (try have : w7.heap.size < w11.heap.size + 1 := by omega); (try have : w7.heap.size < w11.heap.size + 1 + 1 := by omega); (try have : w7.heap.size < w11.heap.size + 1 + 1 + 1 := by omega)
    rw [HP.out ls hsr] at hcr
    have hrz : rs = zs := by
      obtain ⟨p, q', rfl, hp, hq'⟩ := hcr
      have : q' = [] := hq'
      subst this
      rw [List.append_nil]
      exact hp.one HRZ.out
    subst hrz
    have HO11 := Lib.hid ho11
    have HZ11 := Lib.hid (HZ10.out.below hb11)
    have HB11 := Lib.hid (HB10.out.trans (hb11.mono (by have := HB10.out.size; omega)))
    clear hb11 hc11 hf11 ho11 HMG HZ10 HB10 hsr hcr
    go_wp2_with fail
    refine (samePres_same six ra za rc zc rs w11 HO11.out.sl HZ11.out (by have := HRZ.out.le; omega) (fun x hx => (HO11.out.lt x.block (by rw [hx]; rfl)).2) (fun x hx => by have := hza.out x hx; omega)).mono ?_
    rintro e w12 ⟨rfl, hb12⟩
    have HB12 := Lib.hid (HB11.out.trans (hb12.mono HB11.out.size))
    clear hb12
    go_wp2_with fail
    go_returns
    exact ⟨rfl, HB12.out⟩

theorem rangeCut_walk (six : Bool) (hi lo n cu : Int) (w : World) (h1 : 0 ≤ hi ∧ hi < 18446744073709551616) (h2 : 0 ≤ lo ∧ lo < 18446744073709551616) (_hn : -9223372036854775808 ≤ n ∧ n ≤ 9223372036854775807) (_hc : -9223372036854775808 ≤ cu ∧ cu ≤ 9223372036854775807) :
    Calls Try.prog 12 #[.agg #[.bool six, .int .u64 hi, .int .u64 lo], .int .i64 n, .int .i64 cu] w fun e w' => e = .returned (.bool true) ∧ Below w.heap.size w w' := by
  have hR := rawN_fits six hi lo h1 h2
  have d0 := Int.emod_nonneg n (show (65536 : Int) ≠ 0 by decide)
  have d1 := Int.emod_lt_of_pos n (show (0 : Int) < 65536 by decide)
  have P1 := Lib.hid (fun w => addrOf_any six hi lo w h1 h2)
  have P := Lib.hid (fun w => picked_any n 65536 w (by decide) (by decide))
  generalize rawN six hi lo = a at *
  generalize n % 65536 = d at *
  have c0 := Int.emod_nonneg cu (show (1 + d : Int) ≠ 0 by omega)
  have c1 := Int.emod_lt_of_pos cu (show (0 : Int) < 1 + d by omega)
  have P2 := Lib.hid (fun w => picked_any cu (1 + d) w (by omega) (by omega))
  generalize cu % (1 + d) = c at *
  by_cases hf : Fits six (a + (1 + d)).toNat
  · exact rangeCut_good six hi lo n cu w a (a + (1 + d)).toNat d c ⟨d0, d1⟩ hR hf (by omega) ⟨c0, c1⟩ P1 P P2
  · have hb : (2 : Int) ^ wd six ≤ a + (1 + d) := by
      unfold Fits at hf
      have e : ((2 ^ wd six : Nat) : Int) = (2 : Int) ^ wd six := by simp
      rw [← e]; omega
    exact rangeCut_bad six hi lo n cu w a d ⟨d0, d1⟩ P1 P (fun w => next_bad six a (1 + d) w hR (by omega) (by omega) (Or.inr hb))
end Go.Proofs.Ytllemhknmleklaa
