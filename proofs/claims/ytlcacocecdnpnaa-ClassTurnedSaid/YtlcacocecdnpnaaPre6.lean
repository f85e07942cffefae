
/- Contracts of package pre: what is common. -/
import Derived.Test.YtlcacocecdnpnaaPre5
import Derived.Test.YtlcacocecdnpnaaPlain5
set_option linter.unusedVariables false
namespace Go.Proofs.Ytlcacocecdnpnaa
open Go.RowKit Go.Sort Wc Wk

theorem xor_words (x y : Nat) (hx : x < 18446744073709551616) (hy : y < 18446744073709551616) : bits .xor .u64 (x : Int) (y : Int) = ((x ^^^ y : Nat) : Int) ∧ x ^^^ y < 18446744073709551616 :=
  ⟨u64_xor_nat _ _ hx hy, Nat.xor_lt_two_pow (n := 64) hx hy⟩

end Go.Proofs.Ytlcacocecdnpnaa
