
/- Contracts of package rules: which rule says it. -/
import Derived.Test.YteadfobfenopkaaRules
set_option linter.unusedVariables false
namespace Go.Proofs.Yteadfobfenopkaa
open Go.RowKit Go.Sort Wc Wk

def RuleD.fits (r : RuleD) (n k : Nat) : Prop := r.least ≤ k ∧ k ≤ r.most ∧ cov false r.n r.k n k
instance (r : RuleD) (n k : Nat) : Decidable (r.fits n k) := by unfold RuleD.fits; infer_instance


theorem fits_any (r : RuleD) (n k : Nat) (w : World) (hr : r.ok) (hp : VP false n k) :
    Calls Try.prog 75 #[.agg #[.bool r.yes, .bool false, .int .u64 (hiOf false r.n), .int .u64 (loOf r.n), .int .i64 r.k, .int .i64 r.least, .int .i64 r.most], Value.agg #[.bool false, .int .u64 (hiOf false n), .int .u64 (loOf n), .int .i64 k]] w fun e w' => e = .returned (.bool (decide (r.fits n k))) ∧ Below w.heap.size w w' := by
  have O := Lib.hid (fun w => over_any false r.n r.k n k w hr.1 hp)
  unfold RuleD.fits
  by_cases h1 : r.least ≤ k
  · by_cases h2 : k ≤ r.most
    · have e : decide (r.least ≤ k ∧ k ≤ r.most ∧ cov false r.n r.k n k) = decide (cov false r.n r.k n k) := by simp [h1, h2]
      rw [e]
      clear e hr hp
      generalize decide (cov false r.n r.k n k) = b at *
      go_enter Try.func75, Try.ntmps75
      go_wp2_with (first | ((with_reducible refine (O.out _).mono ?_); rintro e w1 ⟨rfl, hb1⟩; (repeat (with_reducible (replace hb1 := Below.undrew hb1))); obtain ⟨hc1, hf1⟩ := bcell hb1; have hz1 := hb1.size; (repeat (first | rw [World.size_alloc] at hz1 | rw [World.size_drew] at hz1 | rw [World.size_setCell] at hz1)); (try have : w.heap.size < w1.heap.size := by omega); (try have : w.heap.size < w1.heap.size + 1 := by omega); (try have : w.heap.size < w1.heap.size + 1 + 1 := by omega); (try have : w.heap.size < w1.heap.size + 1 + 1 + 1 := by omega); (try have : w.heap.size + 1 < w1.heap.size := by omega); (try have : w.heap.size + 1 < w1.heap.size + 1 := by omega); (try have : w.heap.size + 1 < w1.heap.size + 1 + 1 := by omega); (try have : w.heap.size + 1 < w1.heap.size + 1 + 1 + 1 := by omega); (try have : w.heap.size + 2 < w1.heap.size := by omega); (try have : w.heap.size + 2 < w1.heap.size + 1 := by omega); (try have : w.heap.size + 2 < w1.heap.size + 1 + 1 := by omega); (try have : w.heap.size + 2 < w1.heap.size + 1 + 1 + 1 := by omega)))
      go_returns
      exact ⟨rfl, by (repeat' (first | (with_reducible exact Below.refl _ _) | (with_reducible assumption) | (with_reducible refine Below.al ?_ _) | (with_reducible refine Below.dr ?_) | (with_reducible refine Below.step ?_ (by assumption)) | (with_reducible refine Below.set ?_ ?_ _) | omega | (dsimp only; omega) | (simp; done) | (simp; omega)))⟩
    · have e : decide (r.least ≤ k ∧ k ≤ r.most ∧ cov false r.n r.k n k) = false := by simp [h2]
      rw [e]
      have h2' : decide ((k : Int) ≤ r.most) = false := by simp; omega
      clear e hr hp
      go_enter Try.func75, Try.ntmps75
      go_wp2_with (first | ((with_reducible refine (O.out _).mono ?_); rintro e w1 ⟨rfl, hb1⟩; (repeat (with_reducible (replace hb1 := Below.undrew hb1))); obtain ⟨hc1, hf1⟩ := bcell hb1; have hz1 := hb1.size; (repeat (first | rw [World.size_alloc] at hz1 | rw [World.size_drew] at hz1 | rw [World.size_setCell] at hz1)); (try have : w.heap.size < w1.heap.size := by omega); (try have : w.heap.size < w1.heap.size + 1 := by omega); (try have : w.heap.size < w1.heap.size + 1 + 1 := by omega); (try have : w.heap.size < w1.heap.size + 1 + 1 + 1 := by omega); (try have : w.heap.size + 1 < w1.heap.size := by omega); (try have : w.heap.size + 1 < w1.heap.size + 1 := by omega); (try have : w.heap.size + 1 < w1.heap.size + 1 + 1 := by omega); (try have : w.heap.size + 1 < w1.heap.size + 1 + 1 + 1 := by omega); (try have : w.heap.size + 2 < w1.heap.size := by omega); (try have : w.heap.size + 2 < w1.heap.size + 1 := by omega); (try have : w.heap.size + 2 < w1.heap.size + 1 + 1 := by omega); (try have : w.heap.size + 2 < w1.heap.size + 1 + 1 + 1 := by omega)))
      go_returns
      exact ⟨ret_bool (by first | rfl | exact h2' | simp [h2']), by (repeat' (first | (with_reducible exact Below.refl _ _) | (with_reducible assumption) | (with_reducible refine Below.al ?_ _) | (with_reducible refine Below.dr ?_) | (with_reducible refine Below.step ?_ (by assumption)) | (with_reducible refine Below.set ?_ ?_ _) | omega | (dsimp only; omega) | (simp; done) | (simp; omega)))⟩
  · have e : decide (r.least ≤ k ∧ k ≤ r.most ∧ cov false r.n r.k n k) = false := by simp [h1]
    rw [e]
    have h1' : decide ((r.least : Int) ≤ k) = false := by simp; omega
    clear e hr hp
    go_enter Try.func75, Try.ntmps75
    go_wp2_with (first | ((with_reducible refine (O.out _).mono ?_); rintro e w1 ⟨rfl, hb1⟩; (repeat (with_reducible (replace hb1 := Below.undrew hb1))); obtain ⟨hc1, hf1⟩ := bcell hb1; have hz1 := hb1.size; (repeat (first | rw [World.size_alloc] at hz1 | rw [World.size_drew] at hz1 | rw [World.size_setCell] at hz1)); (try have : w.heap.size < w1.heap.size := by omega); (try have : w.heap.size < w1.heap.size + 1 := by omega); (try have : w.heap.size < w1.heap.size + 1 + 1 := by omega); (try have : w.heap.size < w1.heap.size + 1 + 1 + 1 := by omega); (try have : w.heap.size + 1 < w1.heap.size := by omega); (try have : w.heap.size + 1 < w1.heap.size + 1 := by omega); (try have : w.heap.size + 1 < w1.heap.size + 1 + 1 := by omega); (try have : w.heap.size + 1 < w1.heap.size + 1 + 1 + 1 := by omega); (try have : w.heap.size + 2 < w1.heap.size := by omega); (try have : w.heap.size + 2 < w1.heap.size + 1 := by omega); (try have : w.heap.size + 2 < w1.heap.size + 1 + 1 := by omega); (try have : w.heap.size + 2 < w1.heap.size + 1 + 1 + 1 := by omega)))
    go_returns
    exact ⟨ret_bool (by first | rfl | exact h1' | simp [h1']), by (repeat' (first | (with_reducible exact Below.refl _ _) | (with_reducible assumption) | (with_reducible refine Below.al ?_ _) | (with_reducible refine Below.dr ?_) | (with_reducible refine Below.step ?_ (by assumption)) | (with_reducible refine Below.set ?_ ?_ _) | omega | (dsimp only; omega) | (simp; done) | (simp; omega)))⟩

theorem pass1_any (r : RuleD) (n k b : Nat) (w : World) (hr : r.ok) (hp : VP false n k)
    (c0 : w.cell? ⟨b, 0, none⟩ = some (.bool false)) (c1 : w.cell? ⟨b, 1, none⟩ = some (.int .u64 (hiOf false n))) (c2 : w.cell? ⟨b, 2, none⟩ = some (.int .u64 (loOf n))) (c3 : w.cell? ⟨b, 3, none⟩ = some (.int .i64 k)) (hb : b < w.heap.size) :
    Calls Try.prog 74 #[.agg #[.bool r.yes, .bool false, .int .u64 (hiOf false r.n), .int .u64 (loOf r.n), .int .i64 r.k, .int .i64 r.least, .int .i64 r.most], .pointer (some ⟨b, 0, none⟩)] w fun e w' => e = .returned (.bool (decide (r.fits n k))) ∧ Below w.heap.size w w' := by
  have F := Lib.hid (fun w => fits_any r n k w hr hp)
  generalize decide (r.fits n k) = x at *
  clear hr hp
  go_enter Try.func74, Try.ntmps74
  go_wp2_with (first | ((with_reducible refine (F.out _).mono ?_); rintro e w1 ⟨rfl, hb1⟩; (repeat (with_reducible (replace hb1 := Below.undrew hb1))); obtain ⟨hc1, hf1⟩ := bcell hb1; have hz1 := hb1.size; (repeat (first | rw [World.size_alloc] at hz1 | rw [World.size_drew] at hz1 | rw [World.size_setCell] at hz1)); (try have : w.heap.size < w1.heap.size := by omega); (try have : w.heap.size < w1.heap.size + 1 := by omega); (try have : w.heap.size < w1.heap.size + 1 + 1 := by omega); (try have : w.heap.size < w1.heap.size + 1 + 1 + 1 := by omega); (try have : w.heap.size + 1 < w1.heap.size := by omega); (try have : w.heap.size + 1 < w1.heap.size + 1 := by omega); (try have : w.heap.size + 1 < w1.heap.size + 1 + 1 := by omega); (try have : w.heap.size + 1 < w1.heap.size + 1 + 1 + 1 := by omega); (try have : w.heap.size + 2 < w1.heap.size := by omega); (try have : w.heap.size + 2 < w1.heap.size + 1 := by omega); (try have : w.heap.size + 2 < w1.heap.size + 1 + 1 := by omega); (try have : w.heap.size + 2 < w1.heap.size + 1 + 1 + 1 := by omega)))
  go_returns
  exact ⟨rfl, by (repeat' (first | (with_reducible exact Below.refl _ _) | (with_reducible assumption) | (with_reducible refine Below.al ?_ _) | (with_reducible refine Below.dr ?_) | (with_reducible refine Below.step ?_ (by assumption)) | (with_reducible refine Below.set ?_ ?_ _) | omega | (dsimp only; omega) | (simp; done) | (simp; omega)))⟩
end Go.Proofs.Yteadfobfenopkaa
