
/- math/bits at words of sixteen bits: OnesCount64, TrailingZeros64. -/
import Derived.Test.YtoecmoicaklbaaaDoorStU
import Derived.Test.YtoecmoicaklbaaaDoorSt1
import Derived.Test.YtoecmoicaklbaaaDoorTzL
import Derived.Shelf.Spec.TrailingZeros
set_option linter.unusedVariables false
set_option linter.unusedSimpArgs false
namespace Go.Proofs.YtoecmoicaklbaaaDoor
open Go Go.RowKit Go.Sort Wc Wk

theorem bits_and_i64_nat (a b : Nat) (ha : a < 9223372036854775808) (hb : b < 9223372036854775808) : bits .and .i64 (a : Int) (b : Int) = ((a &&& b : Nat) : Int) := by
  have hx : a &&& b < 2 ^ 63 := Nat.and_lt_two_pow _ (by omega)
  have h1 : (BitVec.ofInt 64 (a : Int)).toNat = a := by
    rw [BitVec.ofInt_natCast, BitVec.toNat_ofNat]; exact Nat.mod_eq_of_lt (by omega)
  have h2 : (BitVec.ofInt 64 (b : Int)).toNat = b := by
    rw [BitVec.ofInt_natCast, BitVec.toNat_ofNat]; exact Nat.mod_eq_of_lt (by omega)
  show IntKind.i64.wrap ((BitVec.ofInt 64 (a : Int) &&& BitVec.ofInt 64 (b : Int)).toNat : Int) = _
  rw [BitVec.toNat_and, h1, h2, IntKind.wrap_i64]
  omega
set_option maxHeartbeats 1000000 in
theorem pop_any (x : Nat) (w : World) (hx : x < 65536) :
    Calls Tryd.prog 40 #[.int .u64 x] w fun e w' => e = .returned (.int .i64 (popF x : Nat)) ∧ w = w' := by
  obtain ⟨a, ha⟩ : ∃ a, a = (x / 2 &&& 6148914691236517205) + (x &&& 6148914691236517205) := ⟨_, rfl⟩
  obtain ⟨b, hb⟩ : ∃ b, b = (a / 4 &&& 3689348814741910323) + (a &&& 3689348814741910323) := ⟨_, rfl⟩
  obtain ⟨c, hc⟩ : ∃ c, c = (b / 16 + b) &&& 1085102592571150095 := ⟨_, rfl⟩
  obtain ⟨d, hd⟩ : ∃ d, d = c + c / 256 := ⟨_, rfl⟩
  obtain ⟨f, hf⟩ : ∃ f, f = d + d / 65536 := ⟨_, rfl⟩
  obtain ⟨g, hg⟩ : ∃ g, g = f + f / 4294967296 := ⟨_, rfl⟩
  have hpop : popF x = g &&& 127 := by
    rw [hg, hf, hd, hc, hb, ha]
    rfl
  have a1 : x / 2 &&& 6148914691236517205 ≤ x / 2 := Nat.and_le_left
  have a2 : x &&& 6148914691236517205 ≤ x := Nat.and_le_left
  have la : a < 131072 := by omega
  have b1 : a / 4 &&& 3689348814741910323 ≤ a / 4 := Nat.and_le_left
  have b2 : a &&& 3689348814741910323 ≤ a := Nat.and_le_left
  have lb : b < 262144 := by omega
  have c1 : (b / 16 + b) &&& 1085102592571150095 ≤ b / 16 + b := Nat.and_le_left
  have lc : c < 524288 := by omega
  have ld : d < 1048576 := by omega
  have lf : f < 2097152 := by omega
  have lg : g < 4194304 := by omega
  have A : IntKind.u64.wrap (bits .and .u64 ((x : Int) / 2) 6148914691236517205 + bits .and .u64 (x : Int) 6148914691236517205) = (a : Int) := by
    have e1 := bits_and_u64_nat (x / 2) 6148914691236517205 (by omega) (by decide)
    have e2 := bits_and_u64_nat x 6148914691236517205 (by omega) (by decide)
    rw [show ((x : Int) / 2) = ((x / 2 : Nat) : Int) by omega]
    rw [show (6148914691236517205 : Int) = ((6148914691236517205 : Nat) : Int) from rfl, e1, e2, IntKind.wrap_u64, ha]
    omega
  have B : IntKind.u64.wrap (bits .and .u64 ((a : Int) / 4) 3689348814741910323 + bits .and .u64 (a : Int) 3689348814741910323) = (b : Int) := by
    have e1 := bits_and_u64_nat (a / 4) 3689348814741910323 (by omega) (by decide)
    have e2 := bits_and_u64_nat a 3689348814741910323 (by omega) (by decide)
    rw [show ((a : Int) / 4) = ((a / 4 : Nat) : Int) by omega]
    rw [show (3689348814741910323 : Int) = ((3689348814741910323 : Nat) : Int) from rfl, e1, e2, IntKind.wrap_u64, hb]
    omega
  have C : bits .and .u64 (IntKind.u64.wrap ((b : Int) / 16 + b)) 1085102592571150095 = (c : Int) := by
    have e0 : IntKind.u64.wrap ((b : Int) / 16 + b) = ((b / 16 + b : Nat) : Int) := by rw [IntKind.wrap_u64]; omega
    have e1 := bits_and_u64_nat (b / 16 + b) 1085102592571150095 (by omega) (by decide)
    rw [e0, show (1085102592571150095 : Int) = ((1085102592571150095 : Nat) : Int) from rfl, e1, hc]
  have C' : bits .and .u64 ((b : Int) / 16 + b) 1085102592571150095 = (c : Int) := by
    have e0 : IntKind.u64.wrap ((b : Int) / 16 + b) = (b : Int) / 16 + b := by rw [IntKind.wrap_u64]; omega
    rw [← e0]; exact C
  have D : IntKind.u64.wrap ((c : Int) + (c : Int) / 256) = (d : Int) := by rw [IntKind.wrap_u64]; omega
  have F : IntKind.u64.wrap ((d : Int) + (d : Int) / 65536) = (f : Int) := by rw [IntKind.wrap_u64]; omega
  have G : IntKind.u64.wrap ((f : Int) + (f : Int) / 4294967296) = (g : Int) := by rw [IntKind.wrap_u64]; omega
  have K0 : IntKind.i64.wrap (g : Int) = (g : Int) := by rw [IntKind.wrap_i64]; omega
  have K : bits .and .i64 (g : Int) 127 = ((popF x : Nat) : Int) := by
    rw [hpop]
    exact bits_and_i64_nat g 127 (by omega) (by decide)
  generalize popF x = p at *
  clear ha hb hc hd hf hg hpop a1 a2 b1 b2 c1
  go_enter Tryd.func40, Tryd.ntmps40
  go_wp2_with fail
  go_returns
  exact ⟨rfl, rfl⟩
theorem tz_any (x : Nat) (w : World) (hx : x < 18446744073709551616) (hT : x ≠ 0 → TabAt 0 Lib.deBruijn64tab w) :
    Calls Tryd.prog 50 #[.int .u64 x] w fun e w' => e = .returned (.int .i64 (Lib.ctz 64 x : Nat)) ∧ w' = w := Any7.bits_TrailingZeros64 Tryd.tz64 x hx w hT
end Go.Proofs.YtoecmoicaklbaaaDoor
