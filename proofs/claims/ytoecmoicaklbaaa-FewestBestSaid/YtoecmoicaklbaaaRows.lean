/-
  No cell of these rows narrows 'for every input' (looked for: loops, veiled, ifaces, maps, wideKeys, modest, calm, conditions, laid).
  DERIVED. THE GIVEN ROWS OF THIS SEAT. 10 by the template 'for every input the law returns true; each argument reads behind the call as it read before'; 0 by the template 'total and deterministic' (their statements: YtoecmoicaklbaaaTotals.lean).
  GIVEN WITH THE SEED: the statements are not yours to turn. If you find one false, say at which input.
  Laid BY PROGRAM, IN A SANDBOX (cutbox-rows.mjs): the forced cells as the released guide's own fill.sh prints them over the translation 0a8f290afba38c30… (all of the seat's roots in one cut). By AI agents, Wed Nov 11 2026. No macro, syntax, notation, axiom, sorry.
-/
import Derived.Test.YtoecmoicaklbaaaChecked
import GoSem.Claim
import GoSem.ClaimJoined
import GoSem.ClaimMapViews
import Derived.JoinedTies
import Derived.KernelRfl
namespace Go.Proofs.Ytoecmoicaklbaaa
/- THE CELL 'sum', in the pinned program and in every row, IS THE sha256 OF THE DUMP (.gsa) THAT YtoecmoicaklbaaaProg.lean LOADS. Nothing in Lean hashes anything: it is a label: what it is worth is what the hold of that sum in a sandbox is worth. -/
noncomputable def Try.pinned : Pinned := { name := "ytoecmoicaklbaaa", sum := "0a8f290afba38c3014691ef34d0d4925582522241b8ee98879024584e8c2007a", checked := Try.checked }
namespace Rows
def none {H : Type} : Left H := { results := [], args := [] }

/-- 'whipcordkeep.QueueOnce': WHATEVER THE INPUT: true; the input reads as it did. -/
def queueOnceSpec : ChangeSpec := { name := "queueOnce", fn := fun _ => fun
  | [d] => { results := [.lit (.bool true)], args := [d] }
  | _ => none }
def queueOnceRow : OpenClaim := { program := "ytoecmoicaklbaaa", sum := "0a8f290afba38c3014691ef34d0d4925582522241b8ee98879024584e8c2007a", func := "whipcord/whipcordkeep.QueueOnce", spec := "queueOnce", unfollowed := true, recurses := true, apart := false }
def QueueOnceSaid : Prop := queueOnceRow.holds Try.pinned (OpenSpec.ofChange queueOnceSpec)

/-- ITS FALSE NEIGHBOUR: 'it returns false'. Refute it at one input. -/
def queueOnceWrong : ChangeSpec := { name := "queueOnce", fn := fun _ => fun
  | [d] => { results := [.lit (.bool false)], args := [d] }
  | _ => none }
def QueueOnceWrongFalsely : Prop := queueOnceRow.holds Try.pinned (OpenSpec.ofChange queueOnceWrong)

/-- 'whipcordtop.TopHas': WHATEVER THE INPUT: true; the input reads as it did. -/
def topHasSpec : ChangeSpec := { name := "topHas", fn := fun _ => fun
  | [d1, d2] => { results := [.lit (.bool true)], args := [d1, d2] }
  | _ => none }
def topHasRow : OpenClaim := { program := "ytoecmoicaklbaaa", sum := "0a8f290afba38c3014691ef34d0d4925582522241b8ee98879024584e8c2007a", func := "whipcord/whipcordtop.TopHas", spec := "topHas", inPlace := ["math/bits.Add64", "math/bits.Sub64"], unfollowed := true, recurses := true, apart := false }
def TopHasSaid : Prop := topHasRow.holds Try.pinned (OpenSpec.ofChange topHasSpec)

/-- ITS FALSE NEIGHBOUR: 'it returns false'. Refute it at one input. -/
def topHasWrong : ChangeSpec := { name := "topHas", fn := fun _ => fun
  | [d1, d2] => { results := [.lit (.bool false)], args := [d1, d2] }
  | _ => none }
def TopHasWrongFalsely : Prop := topHasRow.holds Try.pinned (OpenSpec.ofChange topHasWrong)

/-- 'whipcordtop.TopDelta': WHATEVER THE INPUT: true; the input reads as it did. -/
def topDeltaSpec : ChangeSpec := { name := "topDelta", fn := fun _ => fun
  | [d1, d2, d3] => { results := [.lit (.bool true)], args := [d1, d2, d3] }
  | _ => none }
def topDeltaRow : OpenClaim := { program := "ytoecmoicaklbaaa", sum := "0a8f290afba38c3014691ef34d0d4925582522241b8ee98879024584e8c2007a", func := "whipcord/whipcordtop.TopDelta", spec := "topDelta", inPlace := ["math/bits.Add64", "math/bits.Sub64"], unfollowed := true, recurses := true, apart := false }
def TopDeltaSaid : Prop := topDeltaRow.holds Try.pinned (OpenSpec.ofChange topDeltaSpec)

/-- ITS FALSE NEIGHBOUR: 'it returns false'. Refute it at one input. -/
def topDeltaWrong : ChangeSpec := { name := "topDelta", fn := fun _ => fun
  | [d1, d2, d3] => { results := [.lit (.bool false)], args := [d1, d2, d3] }
  | _ => none }
def TopDeltaWrongFalsely : Prop := topDeltaRow.holds Try.pinned (OpenSpec.ofChange topDeltaWrong)

/-- 'whipcordkeep.MinusMinus': WHATEVER THE INPUT: true; the input reads as it did. -/
def minusMinusSpec : ChangeSpec := { name := "minusMinus", fn := fun _ => fun
  | [d1, d2, d3] => { results := [.lit (.bool true)], args := [d1, d2, d3] }
  | _ => none }
def minusMinusRow : OpenClaim := { program := "ytoecmoicaklbaaa", sum := "0a8f290afba38c3014691ef34d0d4925582522241b8ee98879024584e8c2007a", func := "whipcord/whipcordkeep.MinusMinus", spec := "minusMinus", inPlace := ["math/bits.Add64", "math/bits.Sub64"], unfollowed := true, recurses := true, apart := false }
def MinusMinusSaid : Prop := minusMinusRow.holds Try.pinned (OpenSpec.ofChange minusMinusSpec)

/-- ITS FALSE NEIGHBOUR: 'it returns false'. Refute it at one input. -/
def minusMinusWrong : ChangeSpec := { name := "minusMinus", fn := fun _ => fun
  | [d1, d2, d3] => { results := [.lit (.bool false)], args := [d1, d2, d3] }
  | _ => none }
def MinusMinusWrongFalsely : Prop := minusMinusRow.holds Try.pinned (OpenSpec.ofChange minusMinusWrong)

/-- 'whipcordkeep.SetAlgebra': WHATEVER THE INPUT: true; the input reads as it did. -/
def setAlgebraSpec : ChangeSpec := { name := "setAlgebra", fn := fun _ => fun
  | [d1, d2, d3] => { results := [.lit (.bool true)], args := [d1, d2, d3] }
  | _ => none }
def setAlgebraRow : OpenClaim := { program := "ytoecmoicaklbaaa", sum := "0a8f290afba38c3014691ef34d0d4925582522241b8ee98879024584e8c2007a", func := "whipcord/whipcordkeep.SetAlgebra", spec := "setAlgebra", inPlace := ["math/bits.Add64", "math/bits.Sub64"], unfollowed := true, recurses := true, apart := false }
def SetAlgebraSaid : Prop := setAlgebraRow.holds Try.pinned (OpenSpec.ofChange setAlgebraSpec)

/-- ITS FALSE NEIGHBOUR: 'it returns false'. Refute it at one input. -/
def setAlgebraWrong : ChangeSpec := { name := "setAlgebra", fn := fun _ => fun
  | [d1, d2, d3] => { results := [.lit (.bool false)], args := [d1, d2, d3] }
  | _ => none }
def SetAlgebraWrongFalsely : Prop := setAlgebraRow.holds Try.pinned (OpenSpec.ofChange setAlgebraWrong)

/-- 'whipcordkeep.FewestHalves': WHATEVER THE INPUT: true; the input reads as it did. -/
def fewestHalvesSpec : ChangeSpec := { name := "fewestHalves", fn := fun _ => fun
  | [d1, d2, d3] => { results := [.lit (.bool true)], args := [d1, d2, d3] }
  | _ => none }
def fewestHalvesRow : OpenClaim := { program := "ytoecmoicaklbaaa", sum := "0a8f290afba38c3014691ef34d0d4925582522241b8ee98879024584e8c2007a", func := "whipcord/whipcordkeep.FewestHalves", spec := "fewestHalves", unfollowed := true, recurses := true, apart := false }
def FewestHalvesSaid : Prop := fewestHalvesRow.holds Try.pinned (OpenSpec.ofChange fewestHalvesSpec)

/-- ITS FALSE NEIGHBOUR: 'it returns false'. Refute it at one input. -/
def fewestHalvesWrong : ChangeSpec := { name := "fewestHalves", fn := fun _ => fun
  | [d1, d2, d3] => { results := [.lit (.bool false)], args := [d1, d2, d3] }
  | _ => none }
def FewestHalvesWrongFalsely : Prop := fewestHalvesRow.holds Try.pinned (OpenSpec.ofChange fewestHalvesWrong)

/-- 'whipcordkeep.FewestOrder': WHATEVER THE INPUT: true; the input reads as it did. -/
def fewestOrderSpec : ChangeSpec := { name := "fewestOrder", fn := fun _ => fun
  | [d1, d2, d3, d4] => { results := [.lit (.bool true)], args := [d1, d2, d3, d4] }
  | _ => none }
def fewestOrderRow : OpenClaim := { program := "ytoecmoicaklbaaa", sum := "0a8f290afba38c3014691ef34d0d4925582522241b8ee98879024584e8c2007a", func := "whipcord/whipcordkeep.FewestOrder", spec := "fewestOrder", unfollowed := true, recurses := true, apart := false }
def FewestOrderSaid : Prop := fewestOrderRow.holds Try.pinned (OpenSpec.ofChange fewestOrderSpec)

/-- ITS FALSE NEIGHBOUR: 'it returns false'. Refute it at one input. -/
def fewestOrderWrong : ChangeSpec := { name := "fewestOrder", fn := fun _ => fun
  | [d1, d2, d3, d4] => { results := [.lit (.bool false)], args := [d1, d2, d3, d4] }
  | _ => none }
def FewestOrderWrongFalsely : Prop := fewestOrderRow.holds Try.pinned (OpenSpec.ofChange fewestOrderWrong)

/-- 'whipcordkeep.FewestGoes': WHATEVER THE INPUT: true; the input reads as it did. -/
def fewestGoesSpec : ChangeSpec := { name := "fewestGoes", fn := fun _ => fun
  | [d1, d2, d3] => { results := [.lit (.bool true)], args := [d1, d2, d3] }
  | _ => none }
def fewestGoesRow : OpenClaim := { program := "ytoecmoicaklbaaa", sum := "0a8f290afba38c3014691ef34d0d4925582522241b8ee98879024584e8c2007a", func := "whipcord/whipcordkeep.FewestGoes", spec := "fewestGoes", unfollowed := true, recurses := true, apart := false }
def FewestGoesSaid : Prop := fewestGoesRow.holds Try.pinned (OpenSpec.ofChange fewestGoesSpec)

/-- ITS FALSE NEIGHBOUR: 'it returns false'. Refute it at one input. -/
def fewestGoesWrong : ChangeSpec := { name := "fewestGoes", fn := fun _ => fun
  | [d1, d2, d3] => { results := [.lit (.bool false)], args := [d1, d2, d3] }
  | _ => none }
def FewestGoesWrongFalsely : Prop := fewestGoesRow.holds Try.pinned (OpenSpec.ofChange fewestGoesWrong)

/-- 'whipcordkeep.FewestBest': WHATEVER THE INPUT: true; the input reads as it did. -/
def fewestBestSpec : ChangeSpec := { name := "fewestBest", fn := fun _ => fun
  | [d1, d2] => { results := [.lit (.bool true)], args := [d1, d2] }
  | _ => none }
def fewestBestRow : OpenClaim := { program := "ytoecmoicaklbaaa", sum := "0a8f290afba38c3014691ef34d0d4925582522241b8ee98879024584e8c2007a", func := "whipcord/whipcordkeep.FewestBest", spec := "fewestBest", inPlace := ["math/bits.Add64", "math/bits.Sub64"], unfollowed := true, recurses := true, apart := false }
def FewestBestSaid : Prop := fewestBestRow.holds Try.pinned (OpenSpec.ofChange fewestBestSpec)

/-- ITS FALSE NEIGHBOUR: 'it returns false'. Refute it at one input. -/
def fewestBestWrong : ChangeSpec := { name := "fewestBest", fn := fun _ => fun
  | [d1, d2] => { results := [.lit (.bool false)], args := [d1, d2] }
  | _ => none }
def FewestBestWrongFalsely : Prop := fewestBestRow.holds Try.pinned (OpenSpec.ofChange fewestBestWrong)

/-- 'whipcordkeep.FewestLikeness': WHATEVER THE INPUT: true; the input reads as it did. -/
def fewestLikenessSpec : ChangeSpec := { name := "fewestLikeness", fn := fun _ => fun
  | [d1, d2, d3] => { results := [.lit (.bool true)], args := [d1, d2, d3] }
  | _ => none }
def fewestLikenessRow : OpenClaim := { program := "ytoecmoicaklbaaa", sum := "0a8f290afba38c3014691ef34d0d4925582522241b8ee98879024584e8c2007a", func := "whipcord/whipcordkeep.FewestLikeness", spec := "fewestLikeness", inPlace := ["math/bits.Add64", "math/bits.Sub64"], unfollowed := true, recurses := true, apart := false }
def FewestLikenessSaid : Prop := fewestLikenessRow.holds Try.pinned (OpenSpec.ofChange fewestLikenessSpec)

/-- ITS FALSE NEIGHBOUR: 'it returns false'. Refute it at one input. -/
def fewestLikenessWrong : ChangeSpec := { name := "fewestLikeness", fn := fun _ => fun
  | [d1, d2, d3] => { results := [.lit (.bool false)], args := [d1, d2, d3] }
  | _ => none }
def FewestLikenessWrongFalsely : Prop := fewestLikenessRow.holds Try.pinned (OpenSpec.ofChange fewestLikenessWrong)

/- THE SECOND FORM. 'bulk': how many values and letters a reading holds, each counted each time it is reached (what is shared counts as often as it is met; a slice's spare places count too). A statement '..UptoSaid' is the law's where the arguments, and the package variables that the reading takes, are together of bulk at most 1048576: NARROWER than '..Said'. Prove '..Said' where nothing that the law and all that it calls make is longer than what came in: it says more and counts as full. Else prove '..UptoSaid'. A law counts once. -/
mutual
def uptoBulk {H : Type} : DataW H → Nat
  | .lit (.string bytes) => bytes.length + 1
  | .lit _ => 1
  | .nil => 1
  | .ptr d => uptoBulk d + 1
  | .slice elems spare => uptoBulkAll elems + uptoBulkAll spare + 1
  | .agg parts => uptoBulkAll parts + 1
  | .iface _ d => uptoBulk d + 1
  | .map entries => uptoBulkEntries entries + 1
  | .held _ => 1
def uptoBulkAll {H : Type} : List (DataW H) → Nat
  | [] => 0
  | d :: r => uptoBulk d + uptoBulkAll r
def uptoBulkEntries {H : Type} : List (Lit × DataW H) → Nat
  | [] => 0
  | x :: r => uptoBulkEntry x + uptoBulkEntries r
def uptoBulkEntry {H : Type} : Lit × DataW H → Nat
  | (.string bytes, d) => bytes.length + uptoBulk d + 1
  | (_, d) => uptoBulk d + 1
 end
def uptoSmall : (H : Type) → List (DataW H) → Bool := fun _ ds => decide (uptoBulkAll ds ≤ 1048576)
def OpenSpec.upto (s : _root_.Go.ChangeSpec) : _root_.Go.OpenSpec := { _root_.Go.OpenSpec.ofChange s with cond := some uptoSmall }

/-- 'whipcordkeep.QueueOnce', WHERE WHAT IT READS IS OF BULK AT MOST 1048576: true; the input reads as it did. -/
def queueOnceUptoRow : OpenClaim := { program := "ytoecmoicaklbaaa", sum := "0a8f290afba38c3014691ef34d0d4925582522241b8ee98879024584e8c2007a", func := "whipcord/whipcordkeep.QueueOnce", spec := "queueOnce", unfollowed := true, recurses := true, apart := false, narrowed := true }
def QueueOnceUptoSaid : Prop := queueOnceUptoRow.holds Try.pinned (OpenSpec.upto queueOnceSpec)

/-- 'whipcordtop.TopHas', WHERE WHAT IT READS IS OF BULK AT MOST 1048576: true; the input reads as it did. -/
def topHasUptoRow : OpenClaim := { program := "ytoecmoicaklbaaa", sum := "0a8f290afba38c3014691ef34d0d4925582522241b8ee98879024584e8c2007a", func := "whipcord/whipcordtop.TopHas", spec := "topHas", inPlace := ["math/bits.Add64", "math/bits.Sub64"], unfollowed := true, recurses := true, apart := false, narrowed := true }
def TopHasUptoSaid : Prop := topHasUptoRow.holds Try.pinned (OpenSpec.upto topHasSpec)

/-- 'whipcordtop.TopDelta', WHERE WHAT IT READS IS OF BULK AT MOST 1048576: true; the input reads as it did. -/
def topDeltaUptoRow : OpenClaim := { program := "ytoecmoicaklbaaa", sum := "0a8f290afba38c3014691ef34d0d4925582522241b8ee98879024584e8c2007a", func := "whipcord/whipcordtop.TopDelta", spec := "topDelta", inPlace := ["math/bits.Add64", "math/bits.Sub64"], unfollowed := true, recurses := true, apart := false, narrowed := true }
def TopDeltaUptoSaid : Prop := topDeltaUptoRow.holds Try.pinned (OpenSpec.upto topDeltaSpec)

/-- 'whipcordkeep.MinusMinus', WHERE WHAT IT READS IS OF BULK AT MOST 1048576: true; the input reads as it did. -/
def minusMinusUptoRow : OpenClaim := { program := "ytoecmoicaklbaaa", sum := "0a8f290afba38c3014691ef34d0d4925582522241b8ee98879024584e8c2007a", func := "whipcord/whipcordkeep.MinusMinus", spec := "minusMinus", inPlace := ["math/bits.Add64", "math/bits.Sub64"], unfollowed := true, recurses := true, apart := false, narrowed := true }
def MinusMinusUptoSaid : Prop := minusMinusUptoRow.holds Try.pinned (OpenSpec.upto minusMinusSpec)

/-- 'whipcordkeep.SetAlgebra', WHERE WHAT IT READS IS OF BULK AT MOST 1048576: true; the input reads as it did. -/
def setAlgebraUptoRow : OpenClaim := { program := "ytoecmoicaklbaaa", sum := "0a8f290afba38c3014691ef34d0d4925582522241b8ee98879024584e8c2007a", func := "whipcord/whipcordkeep.SetAlgebra", spec := "setAlgebra", inPlace := ["math/bits.Add64", "math/bits.Sub64"], unfollowed := true, recurses := true, apart := false, narrowed := true }
def SetAlgebraUptoSaid : Prop := setAlgebraUptoRow.holds Try.pinned (OpenSpec.upto setAlgebraSpec)

/-- 'whipcordkeep.FewestHalves', WHERE WHAT IT READS IS OF BULK AT MOST 1048576: true; the input reads as it did. -/
def fewestHalvesUptoRow : OpenClaim := { program := "ytoecmoicaklbaaa", sum := "0a8f290afba38c3014691ef34d0d4925582522241b8ee98879024584e8c2007a", func := "whipcord/whipcordkeep.FewestHalves", spec := "fewestHalves", unfollowed := true, recurses := true, apart := false, narrowed := true }
def FewestHalvesUptoSaid : Prop := fewestHalvesUptoRow.holds Try.pinned (OpenSpec.upto fewestHalvesSpec)

/-- 'whipcordkeep.FewestOrder', WHERE WHAT IT READS IS OF BULK AT MOST 1048576: true; the input reads as it did. -/
def fewestOrderUptoRow : OpenClaim := { program := "ytoecmoicaklbaaa", sum := "0a8f290afba38c3014691ef34d0d4925582522241b8ee98879024584e8c2007a", func := "whipcord/whipcordkeep.FewestOrder", spec := "fewestOrder", unfollowed := true, recurses := true, apart := false, narrowed := true }
def FewestOrderUptoSaid : Prop := fewestOrderUptoRow.holds Try.pinned (OpenSpec.upto fewestOrderSpec)

/-- 'whipcordkeep.FewestGoes', WHERE WHAT IT READS IS OF BULK AT MOST 1048576: true; the input reads as it did. -/
def fewestGoesUptoRow : OpenClaim := { program := "ytoecmoicaklbaaa", sum := "0a8f290afba38c3014691ef34d0d4925582522241b8ee98879024584e8c2007a", func := "whipcord/whipcordkeep.FewestGoes", spec := "fewestGoes", unfollowed := true, recurses := true, apart := false, narrowed := true }
def FewestGoesUptoSaid : Prop := fewestGoesUptoRow.holds Try.pinned (OpenSpec.upto fewestGoesSpec)

/-- 'whipcordkeep.FewestBest', WHERE WHAT IT READS IS OF BULK AT MOST 1048576: true; the input reads as it did. -/
def fewestBestUptoRow : OpenClaim := { program := "ytoecmoicaklbaaa", sum := "0a8f290afba38c3014691ef34d0d4925582522241b8ee98879024584e8c2007a", func := "whipcord/whipcordkeep.FewestBest", spec := "fewestBest", inPlace := ["math/bits.Add64", "math/bits.Sub64"], unfollowed := true, recurses := true, apart := false, narrowed := true }
def FewestBestUptoSaid : Prop := fewestBestUptoRow.holds Try.pinned (OpenSpec.upto fewestBestSpec)

/-- 'whipcordkeep.FewestLikeness', WHERE WHAT IT READS IS OF BULK AT MOST 1048576: true; the input reads as it did. -/
def fewestLikenessUptoRow : OpenClaim := { program := "ytoecmoicaklbaaa", sum := "0a8f290afba38c3014691ef34d0d4925582522241b8ee98879024584e8c2007a", func := "whipcord/whipcordkeep.FewestLikeness", spec := "fewestLikeness", inPlace := ["math/bits.Add64", "math/bits.Sub64"], unfollowed := true, recurses := true, apart := false, narrowed := true }
def FewestLikenessUptoSaid : Prop := fewestLikenessUptoRow.holds Try.pinned (OpenSpec.upto fewestLikenessSpec)

end Rows
end Go.Proofs.Ytoecmoicaklbaaa
