
/- Plain: how many bits a number of sixteen bits has: each tried. -/
import Derived.Test.YtoecmoicaklbaaaDoorPlain
set_option linter.unusedVariables false
namespace Go.Proofs.YtoecmoicaklbaaaDoor

/-- How many bits a number of sixteen bits has, as math/bits counts them. -/
def popF (x : Nat) : Nat :=
  let a := (x / 2 &&& 6148914691236517205) + (x &&& 6148914691236517205)
  let b := (a / 4 &&& 3689348814741910323) + (a &&& 3689348814741910323)
  let c := (b / 16 + b) &&& 1085102592571150095
  let d := c + c / 256
  let e := d + d / 65536
  let f := e + e / 4294967296
  f &&& 127
def popS (x : Nat) : Nat := x % 2 + x / 2 % 2 + x / 4 % 2 + x / 8 % 2 + x / 16 % 2 + x / 32 % 2 + x / 64 % 2 + x / 128 % 2 + x / 256 % 2 + x / 512 % 2 + x / 1024 % 2 + x / 2048 % 2 + x / 4096 % 2 + x / 8192 % 2 + x / 16384 % 2 + x / 32768 % 2
def popChk : Nat → Nat → Bool
  | 0, x => Nat.beq (popF x) (popS x)
  | d + 1, x => popChk d x && popChk d (x + 2 ^ d)
theorem popChk_at : ∀ (d x y : Nat), popChk d x = true → x ≤ y → y < x + 2 ^ d → popF y = popS y
  | 0, x, y, h, h1, h2 => by
    have : y = x := by simp at h2; omega
    subst this
    exact Nat.eq_of_beq_eq_true h
  | d + 1, x, y, h, h1, h2 => by
    unfold popChk at h
    rw [Bool.and_eq_true] at h
    rw [Nat.pow_succ] at h2
    by_cases c : y < x + 2 ^ d
    · exact popChk_at d x y h.1 h1 c
    · exact popChk_at d (x + 2 ^ d) y h.2 (by omega) (by omega)
set_option maxRecDepth 100000 in
theorem pop_all : popChk 16 0 = true := by decide +kernel
theorem pop_same {x : Nat} (h : x < 65536) : popF x = popS x := popChk_at 16 0 x pop_all (Nat.zero_le _) (by simpa using h)
end Go.Proofs.YtoecmoicaklbaaaDoor
