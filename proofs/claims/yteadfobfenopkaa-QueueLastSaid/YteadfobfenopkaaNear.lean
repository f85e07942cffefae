
/- The laws' makers of acts: plain data; Near. -/
import Derived.Test.YteadfobfenopkaaTblY
import Derived.Test.YteadfobfenopkaaQ6
set_option linter.unusedVariables false
namespace Go.Proofs.Yteadfobfenopkaa
open Go Go.RowKit Go.Sort Wc Wk

def nearA (x : Int) : Nat := 167772152 + (x % 540).toNat
theorem nearA_fits (x : Int) : Fits false (nearA x) := by
  have h2 := Int.emod_lt_of_pos x (show (0 : Int) < 540 by decide)
  unfold Fits wd nearA
  simp
  omega
theorem nearA_any (x : Int) (w : World) : Calls Try.prog 38 #[.int .i64 x] w fun e w' => e = .returned (Value.agg #[.bool false, .int .u64 (hiOf false (nearA x)), .int .u64 (loOf (nearA x))]) ∧ Below w.heap.size w w' := by
  have P := Lib.hid (fun w => picked_any x 540 w (by decide) (by decide))
  have h1 := Int.emod_nonneg x (show (540 : Int) ≠ 0 by decide)
  have h2 := Int.emod_lt_of_pos x (show (0 : Int) < 540 by decide)
  have hn := nearA_fits x
  have hN := Lib.hid (loOf_false hn)
  have hd : ((nearA x : Nat) : Int) = 167772152 + x % 540 := by unfold nearA; omega
  rw [hN.out, hd]
  clear hN hd hn
  generalize x % 540 = r at *
  have e1 : wrap64 (167772152 + r) = 167772152 + r := wrap64_in (by omega) (by omega)
  have e2 : IntKind.i64.wrap (167772152 + r) = 167772152 + r := IntWalk.i64_in _ (by omega)
  have e3 : IntKind.u64.wrap (167772152 + r) = 167772152 + r := by
    rw [show IntKind.u64.wrap (167772152 + r) = (167772152 + r) % 18446744073709551616 from rfl]; omega
  go_enter Try.func38, Try.ntmps38
  go_wp2_with (first | ((with_reducible refine (P.out _).mono ?_); rintro e w' ⟨rfl, rfl⟩))
  go_returns
  exact ⟨rfl, by (repeat' (first | (with_reducible exact Below.refl _ _) | (with_reducible assumption) | (with_reducible refine Below.al ?_ _) | (with_reducible refine Below.dr ?_) | (with_reducible refine Below.step ?_ (by assumption)) | (with_reducible refine Below.set ?_ ?_ _) | omega | (dsimp only; omega) | (simp; done) | (simp; omega)))⟩

/-- The act of a job. -/
def actOf (r : RawJ) : ActD :=
  if 5 < (r.kind % 8).toNat then ⟨3, 0, 0, 0, nearA r.pre⟩ else if (r.kind % 8).toNat = 5 then ⟨4, presN r.pre, presK r.pre, 0, 0⟩
  else if 2 < (r.kind % 8).toNat then ⟨2, presN r.pre, presK r.pre, 0, 0⟩ else ⟨1, presN r.pre, presK r.pre, 1 + (r.hop % 5).toNat, 0⟩
theorem fits0 : Fits false 0 := by unfold Fits wd; simp
theorem vp00 : VP false 0 0 := ⟨fits0, Nat.zero_le _, by decide⟩
theorem actOf_fit (r : RawJ) : (actOf r).fit := by
  have h2 := Int.emod_lt_of_pos r.hop (show (0 : Int) < 5 by decide)
  have d4 : (1 : Nat) ≤ 4 ∧ (4 : Nat) ≤ 4 := by decide
  have d3 : (1 : Nat) ≤ 3 ∧ (3 : Nat) ≤ 4 := by decide
  have d2 : (1 : Nat) ≤ 2 ∧ (2 : Nat) ≤ 4 := by decide
  have d1 : (1 : Nat) ≤ 1 ∧ (1 : Nat) ≤ 4 := by decide
  unfold actOf
  split
  · exact ⟨vp00, nearA_fits _, d3, (fun h => by cases h), Nat.zero_le _⟩
  · split
    · exact ⟨pres_vp _, fits0, d4, (fun h => by cases h), Nat.zero_le _⟩
    · split
      · exact ⟨pres_vp _, fits0, d2, (fun h => by cases h), Nat.zero_le _⟩
      · exact ⟨pres_vp _, fits0, d1, fun _ => by show 1 ≤ 1 + _; omega, by show 1 + (r.hop % 5).toNat ≤ 999; omega⟩
/-- What Acts hands back. -/
def actsOf (js : List RawJ) (n : Nat) : List ActD := (js.take n).map actOf
theorem actsOf_fit {js : List RawJ} {n : Nat} : ∀ x ∈ actsOf js n, x.fit := fun x hx => by
  obtain ⟨r, _, rfl⟩ := List.mem_map.1 hx
  exact actOf_fit r
theorem actsOf_len (js : List RawJ) (n : Nat) : (actsOf js n).length ≤ n := by simp [actsOf]; omega
theorem actsOf_snoc {js : List RawJ} {k : Nat} {r : RawJ} (h : js[k]? = some r) : actsOf js (k + 1) = actsOf js k ++ [actOf r] := by
  unfold actsOf
  rw [List.take_add_one, h, List.map_append]; rfl
theorem takeMin {js : List RawJ} {n k : Nat} (hk : k ≤ js.length) (hkn : k ≤ n) (h : k = js.length ∨ k = n) : actsOf js k = actsOf js n := by
  unfold actsOf
  rcases h with rfl | rfl
  · rw [List.take_of_length_le (Nat.le_refl _), List.take_of_length_le hkn]
  · rfl
end Go.Proofs.Yteadfobfenopkaa
