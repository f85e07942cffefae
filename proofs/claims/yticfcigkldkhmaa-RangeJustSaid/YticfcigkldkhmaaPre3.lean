
/- Contracts of package pre: covering, spans. -/
import Derived.Test.YticfcigkldkhmaaPre2
set_option linter.unusedVariables false
namespace Go.Proofs.Yticfcigkldkhmaa
open Go.RowKit Go.Sort Wc Wk


theorem over_any (six : Bool) (n k m k' : Nat) (w : World) (hp : VP six n k) (hq : VP six m k') :
    Calls Try.prog 106 #[Value.agg #[.bool six, .int .u64 (hiOf six n), .int .u64 (loOf n), .int .i64 k], Value.agg #[.bool six, .int .u64 (hiOf six m), .int .u64 (loOf m), .int .i64 k']] w fun e w' => e = .returned (.bool (decide (cov six n k m k'))) ∧ Below w.heap.size w w' := by
  have I := Lib.hid (fun w => in_any six n k m w hp.1 hp.2.1 hq.1)
  have b1 := hp.2.1
  have b2 := hq.2.1
  obtain ⟨r0, r1, r2⟩ := pwide_range six
  unfold cov
  by_cases hk : k ≤ k'
  · have e : decide (k ≤ k' ∧ cutN (wd six) m k = n) = decide (cutN (wd six) m k = n) := by simp [hk]
    rw [e]
    clear hp hq e
    generalize decide (cutN (wd six) m k = n) = b at *
    go_enter Try.func106, Try.ntmps106
    go_wp2_with (first | ((with_reducible refine (I.out _).mono ?_); rintro e w1 ⟨rfl, hb1⟩; (repeat (with_reducible (replace hb1 := Below.undrew hb1))); obtain ⟨hc1, hf1⟩ := bcell hb1; have hz1 := hb1.size; (repeat (first | rw [World.size_alloc] at hz1 | rw [World.size_drew] at hz1 | rw [World.size_setCell] at hz1)); (try have : w.heap.size < w1.heap.size := by omega); (try have : w.heap.size + 1 < w1.heap.size := by omega); (try have : w.heap.size + 2 < w1.heap.size := by omega)))
    go_returns
    exact ⟨rfl, by (repeat' (first | (with_reducible exact Below.refl _ _) | (with_reducible assumption) | (with_reducible refine Below.al ?_ _) | (with_reducible refine Below.dr ?_) | (with_reducible refine Below.step ?_ (by assumption)) | (with_reducible refine Below.set ?_ ?_ _) | omega | (dsimp only; omega) | (simp; done) | (simp; omega)))⟩
  · have e : decide (k ≤ k' ∧ cutN (wd six) m k = n) = false := by simp [hk]
    rw [e]
    have hk2 : decide ((k : Int) ≤ k') = false := by simp; omega
    clear hp hq e
    go_enter Try.func106, Try.ntmps106
    go_wp2
    go_returns
    exact ⟨hk2 ▸ rfl, by (repeat' (first | (with_reducible exact Below.refl _ _) | (with_reducible assumption) | (with_reducible refine Below.al ?_ _) | (with_reducible refine Below.dr ?_) | (with_reducible refine Below.step ?_ (by assumption)) | (with_reducible refine Below.set ?_ ?_ _) | omega | (dsimp only; omega) | (simp; done) | (simp; omega)))⟩

theorem both_ok (six : Bool) (n k m k' : Nat) (w : World) (hp : VP six n k) (hq : VP six m k') :
    Calls Try.prog 72 #[Value.agg #[.bool six, .int .u64 (hiOf six n), .int .u64 (loOf n), .int .i64 k], Value.agg #[.bool six, .int .u64 (hiOf six m), .int .u64 (loOf m), .int .i64 k']] w fun e w' => e = .returned (.int .i64 0) ∧ Below w.heap.size w w' := by
  have C1 := Lib.hid (fun w => check_ok six n k w hp)
  have C2 := Lib.hid (fun w => check_ok six m k' w hq)
  clear hp hq
  go_enter Try.func72, Try.ntmps72
  go_wp2_with (first | ((with_reducible refine (C1.out _).mono ?_); rintro e w1 ⟨rfl, hb1⟩; (repeat (with_reducible (replace hb1 := Below.undrew hb1))); obtain ⟨hc1, hf1⟩ := bcell hb1; have hz1 := hb1.size; (repeat (first | rw [World.size_alloc] at hz1 | rw [World.size_drew] at hz1 | rw [World.size_setCell] at hz1)); (try have : w.heap.size < w1.heap.size := by omega); (try have : w.heap.size + 1 < w1.heap.size := by omega); (try have : w.heap.size + 2 < w1.heap.size := by omega)) | ((with_reducible refine (C2.out _).mono ?_); rintro e w2 ⟨rfl, hb2⟩; (repeat (with_reducible (replace hb2 := Below.undrew hb2))); obtain ⟨hc2, hf2⟩ := bcell hb2; have hz2 := hb2.size; (repeat (first | rw [World.size_alloc] at hz2 | rw [World.size_drew] at hz2 | rw [World.size_setCell] at hz2)); (try have : w.heap.size < w2.heap.size := by omega); (try have : w.heap.size + 1 < w2.heap.size := by omega); (try have : w.heap.size + 2 < w2.heap.size := by omega); (try have : w1.heap.size < w2.heap.size := by omega); (try have : w1.heap.size + 1 < w2.heap.size := by omega)))
  go_returns
  exact ⟨rfl, by (repeat' (first | (with_reducible exact Below.refl _ _) | (with_reducible assumption) | (with_reducible refine Below.al ?_ _) | (with_reducible refine Below.dr ?_) | (with_reducible refine Below.step ?_ (by assumption)) | (with_reducible refine Below.set ?_ ?_ _) | omega | (dsimp only; omega) | (simp; done) | (simp; omega)))⟩

theorem has_ok (six : Bool) (n k a : Nat) (w : World) (hp : VP six n k) (ha : Fits six a) :
    Calls Try.prog 43 #[Value.agg #[.bool six, .int .u64 (hiOf six n), .int .u64 (loOf n), .int .i64 k], Value.agg #[.bool six, .int .u64 (hiOf six a), .int .u64 (loOf a)]] w fun e w' => e = .returned (.tuple #[.bool (decide (cutN (wd six) a k = n)), .int .i64 0]) ∧ Below w.heap.size w w' := by
  have C := Lib.hid (fun w => check_ok six n k w hp)
  have M := Lib.hid (fun w => may_any six a w ha)
  have I := Lib.hid (fun w => in_any six n k a w hp.1 hp.2.1 ha)
  clear hp ha
  generalize decide (cutN (wd six) a k = n) = b at *
  go_enter Try.func43, Try.ntmps43
  go_wp2_with (first | ((with_reducible refine (C.out _).mono ?_); rintro e w1 ⟨rfl, hb1⟩; (repeat (with_reducible (replace hb1 := Below.undrew hb1))); obtain ⟨hc1, hf1⟩ := bcell hb1; have hz1 := hb1.size; (repeat (first | rw [World.size_alloc] at hz1 | rw [World.size_drew] at hz1 | rw [World.size_setCell] at hz1)); (try have : w.heap.size < w1.heap.size := by omega); (try have : w.heap.size + 1 < w1.heap.size := by omega); (try have : w.heap.size + 2 < w1.heap.size := by omega)) | ((with_reducible refine (M.out _).mono ?_); rintro e w2 ⟨rfl, hb2⟩; (repeat (with_reducible (replace hb2 := Below.undrew hb2))); obtain ⟨hc2, hf2⟩ := bcell hb2; have hz2 := hb2.size; (repeat (first | rw [World.size_alloc] at hz2 | rw [World.size_drew] at hz2 | rw [World.size_setCell] at hz2)); (try have : w.heap.size < w2.heap.size := by omega); (try have : w.heap.size + 1 < w2.heap.size := by omega); (try have : w.heap.size + 2 < w2.heap.size := by omega); (try have : w1.heap.size < w2.heap.size := by omega); (try have : w1.heap.size + 1 < w2.heap.size := by omega)) | ((with_reducible refine (I.out _).mono ?_); rintro e w3 ⟨rfl, hb3⟩; (repeat (with_reducible (replace hb3 := Below.undrew hb3))); obtain ⟨hc3, hf3⟩ := bcell hb3; have hz3 := hb3.size; (repeat (first | rw [World.size_alloc] at hz3 | rw [World.size_drew] at hz3 | rw [World.size_setCell] at hz3)); (try have : w.heap.size < w3.heap.size := by omega); (try have : w.heap.size + 1 < w3.heap.size := by omega); (try have : w.heap.size + 2 < w3.heap.size := by omega); (try have : w1.heap.size < w3.heap.size := by omega); (try have : w1.heap.size + 1 < w3.heap.size := by omega); (try have : w2.heap.size < w3.heap.size := by omega); (try have : w2.heap.size + 1 < w3.heap.size := by omega)))
  go_returns
  exact ⟨rfl, by (repeat' (first | (with_reducible exact Below.refl _ _) | (with_reducible assumption) | (with_reducible refine Below.al ?_ _) | (with_reducible refine Below.dr ?_) | (with_reducible refine Below.step ?_ (by assumption)) | (with_reducible refine Below.set ?_ ?_ _) | omega | (dsimp only; omega) | (simp; done) | (simp; omega)))⟩

theorem last_any (six : Bool) (n k : Nat) (w : World) (hp : VP six n k) :
    Calls Try.prog 55 #[Value.agg #[.bool six, .int .u64 (hiOf six n), .int .u64 (loOf n), .int .i64 k]] w fun e w' => e = .returned (Value.agg #[.bool six, .int .u64 (hiOf six (lastN (wd six) n k)), .int .u64 (loOf (lastN (wd six) n k))]) ∧ Below w.heap.size w w' := by
  have M := Lib.hid (fun w => mask_any six k w hp.2.1)
  have a1 := maskHi_range six k
  have a2 := maskLo_range six k
  cases six
  · have L := last_four hp
    rw [← not_u64 _ a2.1 a2.2] at L
    have R : Value.agg #[.bool false, .int .u64 (hiOf false (lastN (wd false) n k)), .int .u64 (loOf (lastN (wd false) n k))] = Value.agg #[.bool false, .int .u64 0, .int .u64 (bits .and .u64 (bits .or .u64 (loOf n) (bits .xor .u64 IntKind.u64.max (maskLo false k))) 4294967295)] := by rw [L]; rfl
    rw [R]
    clear L R hp a1 a2
    go_enter Try.func55, Try.ntmps55
    go_wp2_with (first | ((with_reducible refine (M.out _).mono ?_); rintro e w' ⟨rfl, rfl⟩))
    refine bodyPost_ret (v := .agg #[.bool false, .int .u64 0, .int .u64 (bits .and .u64 (bits .or .u64 (loOf n) (bits .xor .u64 IntKind.u64.max (maskLo false k))) 4294967295)]) (by simp [results, Try.results55, go_sem, *]) rfl ⟨rfl, by (repeat' (first | (with_reducible exact Below.refl _ _) | (with_reducible assumption) | (with_reducible refine Below.al ?_ _) | (with_reducible refine Below.dr ?_) | (with_reducible refine Below.step ?_ (by assumption)) | (with_reducible refine Below.set ?_ ?_ _) | omega | (dsimp only; omega) | (simp; done) | (simp; omega)))⟩
  · have L := last_six hp
    rw [← not_u64 _ a2.1 a2.2, ← not_u64 _ a1.1 a1.2] at L
    have R : Value.agg #[.bool true, .int .u64 (hiOf true (lastN (wd true) n k)), .int .u64 (loOf (lastN (wd true) n k))] = Value.agg #[.bool true, .int .u64 (bits .or .u64 (hiOf true n) (bits .xor .u64 IntKind.u64.max (maskHi true k))), .int .u64 (bits .or .u64 (loOf n) (bits .xor .u64 IntKind.u64.max (maskLo true k)))] := by rw [L.1, L.2]; rfl
    rw [R]
    clear L R hp a1 a2
    go_enter Try.func55, Try.ntmps55
    go_wp2_with (first | ((with_reducible refine (M.out _).mono ?_); rintro e w' ⟨rfl, rfl⟩))
    refine bodyPost_ret (v := .agg #[.bool true, .int .u64 (bits .or .u64 (hiOf true n) (bits .xor .u64 IntKind.u64.max (maskHi true k))), .int .u64 (bits .or .u64 (loOf n) (bits .xor .u64 IntKind.u64.max (maskLo true k)))]) (by simp [results, Try.results55, go_sem, *]) rfl ⟨rfl, by (repeat' (first | (with_reducible exact Below.refl _ _) | (with_reducible assumption) | (with_reducible refine Below.al ?_ _) | (with_reducible refine Below.dr ?_) | (with_reducible refine Below.step ?_ (by assumption)) | (with_reducible refine Below.set ?_ ?_ _) | omega | (dsimp only; omega) | (simp; done) | (simp; omega)))⟩

end Go.Proofs.Yticfcigkldkhmaa
