
/- Contracts of package queue: at, Fault. -/
import Derived.Test.YteadfobfenopkaaQPl
import Derived.Outline
import Derived.Deep.QuietTactic
import Derived.BigQuiet
set_option linter.unusedVariables false
namespace Go.Proofs.Yteadfobfenopkaa
open Go Go.RowKit Go.Sort Wc Wk

set_option maxHeartbeats 1000000 in
theorem qat_any (qb f i : Nat) (w : World) (h : w.cell? ⟨qb, 72, none⟩ = some (.int .i64 f)) (hf : f < 8) (hi : i < 100) :
    Calls Try.prog 93 #[.pointer (some ⟨qb, 0, none⟩), .int .i64 i] w fun e w' => e = .returned (.pointer (some ⟨qb, (f + i) % 8 * 9, none⟩)) ∧ ∃ n, w' = w.drewN n := by
  have e1 : wrap64 ((f : Int) + i) = ((f + i : Nat) : Int) := by rw [wrap64_in (by omega) (by omega)]; omega
  have e2 : (((f + i : Nat) : Int)).tmod 8 = (((f + i) % 8 : Nat) : Int) := by
    rw [Int.tmod_eq_emod_of_nonneg (by omega)]; omega
  have e3 : (0 : Int) ≤ (((f + i) % 8 : Nat) : Int) := by omega
  have e4 : ((((f + i) % 8 : Nat) : Int)) < 8 := by omega
  go_enter Try.func93, Try.ntmps93
  go_wp2_with fail
  go_quiet (fail)
  go_wp2
  go_returns
  exact ⟨rfl, _, rfl⟩

theorem qat_b (qb f i p : Nat) (w : World) (h : w.cell? ⟨qb, 72, none⟩ = some (.int .i64 f)) (hf : f < 8) (hi : i < 100) (hp : (f + i) % 8 = p) :
    Calls Try.prog 93 #[.pointer (some ⟨qb, 0, none⟩), .int .i64 i] w fun e w' => e = .returned (.pointer (some ⟨qb, p * 9, none⟩)) ∧ Below w.heap.size w w' := by
  subst hp
  exact (qat_any qb f i w h hf hi).mono fun e w' ⟨h1, n, h2⟩ => ⟨h1, by subst h2; exact ⟨rfl, rfl, rfl, Nat.le_refl _, fun _ _ => rfl⟩⟩
theorem qat_0 (qb f : Nat) (w : World) (h : w.cell? ⟨qb, 72, none⟩ = some (.int .i64 f)) (hf : f < 8) :
    Calls Try.prog 93 #[.pointer (some ⟨qb, 0, none⟩), .int .i64 0] w fun e w' => e = .returned (.pointer (some ⟨qb, f * 9, none⟩)) ∧ Below w.heap.size w w' :=
  qat_b qb f 0 f w h hf (by decide) (by omega)

/-- An act that may wait has no fault. -/
theorem qfault_any (x : ActD) (w : World) (hx : x.ok) :
    Calls Try.prog 90 #[Value.agg #[.int .i64 x.kind, .bool false, .int .u64 (hiOf false x.n), .int .u64 (loOf x.n), .int .i64 x.k, .int .i64 x.hop, .bool false, .int .u64 (hiOf false x.a), .int .u64 (loOf x.a)]] w fun e w' => e = .returned (.int .i64 0) ∧ Below w.heap.size w w' := by
  obtain ⟨hv, hh, ha, hk⟩ := hx
  have C := Lib.hid (fun w => check_ok false x.n x.k w hv)
  rcases hk with ⟨h1, h2⟩ | h1
  · have k1 : ((x.kind : Int) == 1) = true := by rw [h1]; rfl
    have k2 : ((x.kind : Int) != 1) = false := by rw [h1]; rfl
    have k3 : decide ((x.hop : Int) < 1) = false := by simp; omega
    have k4 : decide ((999 : Int) < x.hop) = false := by simp; omega
    clear hv ha h1
    go_enter Try.func90, Try.ntmps90
    go_wp2_with (first | ((with_reducible refine (C.out _).mono ?_); rintro e w1 ⟨rfl, hb1⟩; (repeat (with_reducible (replace hb1 := Below.undrew hb1))); obtain ⟨hc1, hf1⟩ := bcell hb1; have hz1 := hb1.size; (repeat (first | rw [World.size_alloc] at hz1 | rw [World.size_drew] at hz1 | rw [World.size_setCell] at hz1))))
    go_returns
    exact ⟨rfl, by (repeat' (first | (with_reducible exact Below.refl _ _) | (with_reducible assumption) | (with_reducible refine Below.al ?_ _) | (with_reducible refine Below.dr ?_) | (with_reducible refine Below.step ?_ (by assumption)) | (with_reducible refine Below.set ?_ ?_ _) | omega | (dsimp only; omega) | (simp; done) | (simp; omega)))⟩
  · have k1 : ((x.kind : Int) == 1) = false := by rw [h1]; rfl
    have k2 : ((x.kind : Int) != 1) = true := by rw [h1]; rfl
    have k3 : ((x.kind : Int) != 2) = false := by rw [h1]; rfl
    clear hv ha h1
    go_enter Try.func90, Try.ntmps90
    go_wp2_with (first | ((with_reducible refine (C.out _).mono ?_); rintro e w1 ⟨rfl, hb1⟩; (repeat (with_reducible (replace hb1 := Below.undrew hb1))); obtain ⟨hc1, hf1⟩ := bcell hb1; have hz1 := hb1.size; (repeat (first | rw [World.size_alloc] at hz1 | rw [World.size_drew] at hz1 | rw [World.size_setCell] at hz1))))
    go_returns
    exact ⟨rfl, by (repeat' (first | (with_reducible exact Below.refl _ _) | (with_reducible assumption) | (with_reducible refine Below.al ?_ _) | (with_reducible refine Below.dr ?_) | (with_reducible refine Below.step ?_ (by assumption)) | (with_reducible refine Below.set ?_ ?_ _) | omega | (dsimp only; omega) | (simp; done) | (simp; omega)))⟩
end Go.Proofs.Yteadfobfenopkaa
