/-
  No cell of these rows narrows 'for every input' (looked for: loops, veiled, ifaces, maps, wideKeys, modest, calm, conditions, laid).
  DERIVED. THE GIVEN ROWS OF THIS SEAT. 15 by the template 'for every input the law returns true; each argument reads behind the call as it read before'; 0 by the template 'total and deterministic' (their statements: YteadfobfenopkaaTotals.lean).
  GIVEN WITH THE SEED: the statements are not yours to turn. If you find one false, say at which input.
  Laid BY PROGRAM, IN A SANDBOX (cutbox-rows.mjs): the forced cells as the released guide's own fill.sh prints them over the translation d7705ed8ba93d297… (all of the seat's roots in one cut). By AI agents, Wed Nov 11 2026. No macro, syntax, notation, axiom, sorry.
-/
import Derived.Test.YteadfobfenopkaaChecked
import GoSem.Claim
import GoSem.ClaimJoined
import GoSem.ClaimMapViews
import Derived.JoinedTies
import Derived.KernelRfl
namespace Go.Proofs.Yteadfobfenopkaa
/- THE CELL 'sum', in the pinned program and in every row, IS THE sha256 OF THE DUMP (.gsa) THAT YteadfobfenopkaaProg.lean LOADS. Nothing in Lean hashes anything: it is a label: what it is worth is what the hold of that sum in a sandbox is worth. -/
noncomputable def Try.pinned : Pinned := { name := "yteadfobfenopkaa", sum := "d7705ed8ba93d297a9ff967fcb0e703d34ca287b2ba9cc59127695dde3d51987", checked := Try.checked }
namespace Rows
def none {H : Type} : Left H := { results := [], args := [] }

/-- 'whipcordkeep.QueueLast': WHATEVER THE INPUT: true; the input reads as it did. -/
def queueLastSpec : ChangeSpec := { name := "queueLast", fn := fun _ => fun
  | [d] => { results := [.lit (.bool true)], args := [d] }
  | _ => none }
def queueLastRow : OpenClaim := { program := "yteadfobfenopkaa", sum := "d7705ed8ba93d297a9ff967fcb0e703d34ca287b2ba9cc59127695dde3d51987", func := "whipcord/whipcordkeep.QueueLast", spec := "queueLast", unfollowed := true, recurses := true, apart := false }
def QueueLastSaid : Prop := queueLastRow.holds Try.pinned (OpenSpec.ofChange queueLastSpec)

/-- ITS FALSE NEIGHBOUR: 'it returns false'. Refute it at one input. -/
def queueLastWrong : ChangeSpec := { name := "queueLast", fn := fun _ => fun
  | [d] => { results := [.lit (.bool false)], args := [d] }
  | _ => none }
def QueueLastWrongFalsely : Prop := queueLastRow.holds Try.pinned (OpenSpec.ofChange queueLastWrong)

/-- 'whipcordkeep.DeltaParts': WHATEVER THE INPUT: true; the input reads as it did. -/
def deltaPartsSpec : ChangeSpec := { name := "deltaParts", fn := fun _ => fun
  | [d1, d2, d3] => { results := [.lit (.bool true)], args := [d1, d2, d3] }
  | _ => none }
def deltaPartsRow : OpenClaim := { program := "yteadfobfenopkaa", sum := "d7705ed8ba93d297a9ff967fcb0e703d34ca287b2ba9cc59127695dde3d51987", func := "whipcord/whipcordkeep.DeltaParts", spec := "deltaParts", unfollowed := true, recurses := true, apart := false }
def DeltaPartsSaid : Prop := deltaPartsRow.holds Try.pinned (OpenSpec.ofChange deltaPartsSpec)

/-- ITS FALSE NEIGHBOUR: 'it returns false'. Refute it at one input. -/
def deltaPartsWrong : ChangeSpec := { name := "deltaParts", fn := fun _ => fun
  | [d1, d2, d3] => { results := [.lit (.bool false)], args := [d1, d2, d3] }
  | _ => none }
def DeltaPartsWrongFalsely : Prop := deltaPartsRow.holds Try.pinned (OpenSpec.ofChange deltaPartsWrong)

/-- 'whipcordkeep.DeltaNone': WHATEVER THE INPUT: true; the input reads as it did. -/
def deltaNoneSpec : ChangeSpec := { name := "deltaNone", fn := fun _ => fun
  | [d1, d2, d3] => { results := [.lit (.bool true)], args := [d1, d2, d3] }
  | _ => none }
def deltaNoneRow : OpenClaim := { program := "yteadfobfenopkaa", sum := "d7705ed8ba93d297a9ff967fcb0e703d34ca287b2ba9cc59127695dde3d51987", func := "whipcord/whipcordkeep.DeltaNone", spec := "deltaNone", unfollowed := true, recurses := true, apart := false }
def DeltaNoneSaid : Prop := deltaNoneRow.holds Try.pinned (OpenSpec.ofChange deltaNoneSpec)

/-- ITS FALSE NEIGHBOUR: 'it returns false'. Refute it at one input. -/
def deltaNoneWrong : ChangeSpec := { name := "deltaNone", fn := fun _ => fun
  | [d1, d2, d3] => { results := [.lit (.bool false)], args := [d1, d2, d3] }
  | _ => none }
def DeltaNoneWrongFalsely : Prop := deltaNoneRow.holds Try.pinned (OpenSpec.ofChange deltaNoneWrong)

/-- 'whipcordkeep.DeltaBack': WHATEVER THE INPUT: true; the input reads as it did. -/
def deltaBackSpec : ChangeSpec := { name := "deltaBack", fn := fun _ => fun
  | [d1, d2, d3] => { results := [.lit (.bool true)], args := [d1, d2, d3] }
  | _ => none }
def deltaBackRow : OpenClaim := { program := "yteadfobfenopkaa", sum := "d7705ed8ba93d297a9ff967fcb0e703d34ca287b2ba9cc59127695dde3d51987", func := "whipcord/whipcordkeep.DeltaBack", spec := "deltaBack", unfollowed := true, recurses := true, apart := false }
def DeltaBackSaid : Prop := deltaBackRow.holds Try.pinned (OpenSpec.ofChange deltaBackSpec)

/-- ITS FALSE NEIGHBOUR: 'it returns false'. Refute it at one input. -/
def deltaBackWrong : ChangeSpec := { name := "deltaBack", fn := fun _ => fun
  | [d1, d2, d3] => { results := [.lit (.bool false)], args := [d1, d2, d3] }
  | _ => none }
def DeltaBackWrongFalsely : Prop := deltaBackRow.holds Try.pinned (OpenSpec.ofChange deltaBackWrong)

/-- 'whipcordkeep.DeltaSteps': WHATEVER THE INPUT: true; the input reads as it did. -/
def deltaStepsSpec : ChangeSpec := { name := "deltaSteps", fn := fun _ => fun
  | [d1, d2, d3] => { results := [.lit (.bool true)], args := [d1, d2, d3] }
  | _ => none }
def deltaStepsRow : OpenClaim := { program := "yteadfobfenopkaa", sum := "d7705ed8ba93d297a9ff967fcb0e703d34ca287b2ba9cc59127695dde3d51987", func := "whipcord/whipcordkeep.DeltaSteps", spec := "deltaSteps", unfollowed := true, recurses := true, apart := false }
def DeltaStepsSaid : Prop := deltaStepsRow.holds Try.pinned (OpenSpec.ofChange deltaStepsSpec)

/-- ITS FALSE NEIGHBOUR: 'it returns false'. Refute it at one input. -/
def deltaStepsWrong : ChangeSpec := { name := "deltaSteps", fn := fun _ => fun
  | [d1, d2, d3] => { results := [.lit (.bool false)], args := [d1, d2, d3] }
  | _ => none }
def DeltaStepsWrongFalsely : Prop := deltaStepsRow.holds Try.pinned (OpenSpec.ofChange deltaStepsWrong)

/-- 'whipcordkeep.FilterParts': WHATEVER THE INPUT: true; the input reads as it did. -/
def filterPartsSpec : ChangeSpec := { name := "filterParts", fn := fun _ => fun
  | [d1, d2] => { results := [.lit (.bool true)], args := [d1, d2] }
  | _ => none }
def filterPartsRow : OpenClaim := { program := "yteadfobfenopkaa", sum := "d7705ed8ba93d297a9ff967fcb0e703d34ca287b2ba9cc59127695dde3d51987", func := "whipcord/whipcordkeep.FilterParts", spec := "filterParts", unfollowed := true, recurses := true, apart := false }
def FilterPartsSaid : Prop := filterPartsRow.holds Try.pinned (OpenSpec.ofChange filterPartsSpec)

/-- ITS FALSE NEIGHBOUR: 'it returns false'. Refute it at one input. -/
def filterPartsWrong : ChangeSpec := { name := "filterParts", fn := fun _ => fun
  | [d1, d2] => { results := [.lit (.bool false)], args := [d1, d2] }
  | _ => none }
def FilterPartsWrongFalsely : Prop := filterPartsRow.holds Try.pinned (OpenSpec.ofChange filterPartsWrong)

/-- 'whipcordkeep.ImageFixed': WHATEVER THE INPUT: true; the input reads as it did. -/
def imageFixedSpec : ChangeSpec := { name := "imageFixed", fn := fun _ => fun
  | [d] => { results := [.lit (.bool true)], args := [d] }
  | _ => none }
def imageFixedRow : OpenClaim := { program := "yteadfobfenopkaa", sum := "d7705ed8ba93d297a9ff967fcb0e703d34ca287b2ba9cc59127695dde3d51987", func := "whipcord/whipcordkeep.ImageFixed", spec := "imageFixed", unfollowed := true, recurses := true, apart := false }
def ImageFixedSaid : Prop := imageFixedRow.holds Try.pinned (OpenSpec.ofChange imageFixedSpec)

/-- ITS FALSE NEIGHBOUR: 'it returns false'. Refute it at one input. -/
def imageFixedWrong : ChangeSpec := { name := "imageFixed", fn := fun _ => fun
  | [d] => { results := [.lit (.bool false)], args := [d] }
  | _ => none }
def ImageFixedWrongFalsely : Prop := imageFixedRow.holds Try.pinned (OpenSpec.ofChange imageFixedWrong)

/-- 'whipcordkeep.ImageLong': WHATEVER THE INPUT: true; the input reads as it did. -/
def imageLongSpec : ChangeSpec := { name := "imageLong", fn := fun _ => fun
  | [d] => { results := [.lit (.bool true)], args := [d] }
  | _ => none }
def imageLongRow : OpenClaim := { program := "yteadfobfenopkaa", sum := "d7705ed8ba93d297a9ff967fcb0e703d34ca287b2ba9cc59127695dde3d51987", func := "whipcord/whipcordkeep.ImageLong", spec := "imageLong", unfollowed := true, recurses := true, apart := false }
def ImageLongSaid : Prop := imageLongRow.holds Try.pinned (OpenSpec.ofChange imageLongSpec)

/-- ITS FALSE NEIGHBOUR: 'it returns false'. Refute it at one input. -/
def imageLongWrong : ChangeSpec := { name := "imageLong", fn := fun _ => fun
  | [d] => { results := [.lit (.bool false)], args := [d] }
  | _ => none }
def ImageLongWrongFalsely : Prop := imageLongRow.holds Try.pinned (OpenSpec.ofChange imageLongWrong)

/-- 'whipcordkeep.ImageBack': WHATEVER THE INPUT: true; the input reads as it did. -/
def imageBackSpec : ChangeSpec := { name := "imageBack", fn := fun _ => fun
  | [d1, d2, d3] => { results := [.lit (.bool true)], args := [d1, d2, d3] }
  | _ => none }
def imageBackRow : OpenClaim := { program := "yteadfobfenopkaa", sum := "d7705ed8ba93d297a9ff967fcb0e703d34ca287b2ba9cc59127695dde3d51987", func := "whipcord/whipcordkeep.ImageBack", spec := "imageBack", unfollowed := true, recurses := true, apart := false }
def ImageBackSaid : Prop := imageBackRow.holds Try.pinned (OpenSpec.ofChange imageBackSpec)

/-- ITS FALSE NEIGHBOUR: 'it returns false'. Refute it at one input. -/
def imageBackWrong : ChangeSpec := { name := "imageBack", fn := fun _ => fun
  | [d1, d2, d3] => { results := [.lit (.bool false)], args := [d1, d2, d3] }
  | _ => none }
def ImageBackWrongFalsely : Prop := imageBackRow.holds Try.pinned (OpenSpec.ofChange imageBackWrong)

/-- 'whipcordkeep.PairForward': WHATEVER THE INPUT: true; the input reads as it did. -/
def pairForwardSpec : ChangeSpec := { name := "pairForward", fn := fun _ => fun
  | [d1, d2] => { results := [.lit (.bool true)], args := [d1, d2] }
  | _ => none }
def pairForwardRow : OpenClaim := { program := "yteadfobfenopkaa", sum := "d7705ed8ba93d297a9ff967fcb0e703d34ca287b2ba9cc59127695dde3d51987", func := "whipcord/whipcordkeep.PairForward", spec := "pairForward", unfollowed := true, recurses := true, apart := false }
def PairForwardSaid : Prop := pairForwardRow.holds Try.pinned (OpenSpec.ofChange pairForwardSpec)

/-- ITS FALSE NEIGHBOUR: 'it returns false'. Refute it at one input. -/
def pairForwardWrong : ChangeSpec := { name := "pairForward", fn := fun _ => fun
  | [d1, d2] => { results := [.lit (.bool false)], args := [d1, d2] }
  | _ => none }
def PairForwardWrongFalsely : Prop := pairForwardRow.holds Try.pinned (OpenSpec.ofChange pairForwardWrong)

/-- 'whipcordkeep.PairWait': WHATEVER THE INPUT: true; the input reads as it did. -/
def pairWaitSpec : ChangeSpec := { name := "pairWait", fn := fun _ => fun
  | [d1, d2] => { results := [.lit (.bool true)], args := [d1, d2] }
  | _ => none }
def pairWaitRow : OpenClaim := { program := "yteadfobfenopkaa", sum := "d7705ed8ba93d297a9ff967fcb0e703d34ca287b2ba9cc59127695dde3d51987", func := "whipcord/whipcordkeep.PairWait", spec := "pairWait", unfollowed := true, recurses := true, apart := false }
def PairWaitSaid : Prop := pairWaitRow.holds Try.pinned (OpenSpec.ofChange pairWaitSpec)

/-- ITS FALSE NEIGHBOUR: 'it returns false'. Refute it at one input. -/
def pairWaitWrong : ChangeSpec := { name := "pairWait", fn := fun _ => fun
  | [d1, d2] => { results := [.lit (.bool false)], args := [d1, d2] }
  | _ => none }
def PairWaitWrongFalsely : Prop := pairWaitRow.holds Try.pinned (OpenSpec.ofChange pairWaitWrong)

/-- 'whipcordkeep.PairIdle': WHATEVER THE INPUT: true; the input reads as it did. -/
def pairIdleSpec : ChangeSpec := { name := "pairIdle", fn := fun _ => fun
  | [d1, d2, d3] => { results := [.lit (.bool true)], args := [d1, d2, d3] }
  | _ => none }
def pairIdleRow : OpenClaim := { program := "yteadfobfenopkaa", sum := "d7705ed8ba93d297a9ff967fcb0e703d34ca287b2ba9cc59127695dde3d51987", func := "whipcord/whipcordkeep.PairIdle", spec := "pairIdle", unfollowed := true, recurses := true, apart := false }
def PairIdleSaid : Prop := pairIdleRow.holds Try.pinned (OpenSpec.ofChange pairIdleSpec)

/-- ITS FALSE NEIGHBOUR: 'it returns false'. Refute it at one input. -/
def pairIdleWrong : ChangeSpec := { name := "pairIdle", fn := fun _ => fun
  | [d1, d2, d3] => { results := [.lit (.bool false)], args := [d1, d2, d3] }
  | _ => none }
def PairIdleWrongFalsely : Prop := pairIdleRow.holds Try.pinned (OpenSpec.ofChange pairIdleWrong)

/-- 'whipcordkeep.PairEnds': WHATEVER THE INPUT: true; the input reads as it did. -/
def pairEndsSpec : ChangeSpec := { name := "pairEnds", fn := fun _ => fun
  | [d1, d2] => { results := [.lit (.bool true)], args := [d1, d2] }
  | _ => none }
def pairEndsRow : OpenClaim := { program := "yteadfobfenopkaa", sum := "d7705ed8ba93d297a9ff967fcb0e703d34ca287b2ba9cc59127695dde3d51987", func := "whipcord/whipcordkeep.PairEnds", spec := "pairEnds", unfollowed := true, recurses := true, apart := false }
def PairEndsSaid : Prop := pairEndsRow.holds Try.pinned (OpenSpec.ofChange pairEndsSpec)

/-- ITS FALSE NEIGHBOUR: 'it returns false'. Refute it at one input. -/
def pairEndsWrong : ChangeSpec := { name := "pairEnds", fn := fun _ => fun
  | [d1, d2] => { results := [.lit (.bool false)], args := [d1, d2] }
  | _ => none }
def PairEndsWrongFalsely : Prop := pairEndsRow.holds Try.pinned (OpenSpec.ofChange pairEndsWrong)

/-- 'whipcordkeep.PairTrue': WHATEVER THE INPUT: true; the input reads as it did. -/
def pairTrueSpec : ChangeSpec := { name := "pairTrue", fn := fun _ => fun
  | [d1, d2] => { results := [.lit (.bool true)], args := [d1, d2] }
  | _ => none }
def pairTrueRow : OpenClaim := { program := "yteadfobfenopkaa", sum := "d7705ed8ba93d297a9ff967fcb0e703d34ca287b2ba9cc59127695dde3d51987", func := "whipcord/whipcordkeep.PairTrue", spec := "pairTrue", unfollowed := true, recurses := true, apart := false }
def PairTrueSaid : Prop := pairTrueRow.holds Try.pinned (OpenSpec.ofChange pairTrueSpec)

/-- ITS FALSE NEIGHBOUR: 'it returns false'. Refute it at one input. -/
def pairTrueWrong : ChangeSpec := { name := "pairTrue", fn := fun _ => fun
  | [d1, d2] => { results := [.lit (.bool false)], args := [d1, d2] }
  | _ => none }
def PairTrueWrongFalsely : Prop := pairTrueRow.holds Try.pinned (OpenSpec.ofChange pairTrueWrong)

/-- 'whipcordkeep.PairAlone': WHATEVER THE INPUT: true; the input reads as it did. -/
def pairAloneSpec : ChangeSpec := { name := "pairAlone", fn := fun _ => fun
  | [d1, d2] => { results := [.lit (.bool true)], args := [d1, d2] }
  | _ => none }
def pairAloneRow : OpenClaim := { program := "yteadfobfenopkaa", sum := "d7705ed8ba93d297a9ff967fcb0e703d34ca287b2ba9cc59127695dde3d51987", func := "whipcord/whipcordkeep.PairAlone", spec := "pairAlone", unfollowed := true, recurses := true, apart := false }
def PairAloneSaid : Prop := pairAloneRow.holds Try.pinned (OpenSpec.ofChange pairAloneSpec)

/-- ITS FALSE NEIGHBOUR: 'it returns false'. Refute it at one input. -/
def pairAloneWrong : ChangeSpec := { name := "pairAlone", fn := fun _ => fun
  | [d1, d2] => { results := [.lit (.bool false)], args := [d1, d2] }
  | _ => none }
def PairAloneWrongFalsely : Prop := pairAloneRow.holds Try.pinned (OpenSpec.ofChange pairAloneWrong)

/- THE SECOND FORM. 'bulk': how many values and letters a reading holds, each counted each time it is reached (what is shared counts as often as it is met; a slice's spare places count too). A statement '..UptoSaid' is the law's where the arguments, and the package variables that the reading takes, are together of bulk at most 1048576: NARROWER than '..Said'. Prove '..Said' where nothing that the law and all that it calls make is longer than what came in: it says more and counts as full. Else prove '..UptoSaid'. A law counts once. -/
mutual
def uptoBulk {H : Type} : DataW H → Nat
  | .lit (.string bytes) => bytes.length + 1
  | .lit _ => 1
  | .nil => 1
  | .ptr d => uptoBulk d + 1
  | .slice elems spare => uptoBulkAll elems + uptoBulkAll spare + 1
  | .agg parts => uptoBulkAll parts + 1
  | .iface _ d => uptoBulk d + 1
  | .map entries => uptoBulkEntries entries + 1
  | .held _ => 1
def uptoBulkAll {H : Type} : List (DataW H) → Nat
  | [] => 0
  | d :: r => uptoBulk d + uptoBulkAll r
def uptoBulkEntries {H : Type} : List (Lit × DataW H) → Nat
  | [] => 0
  | x :: r => uptoBulkEntry x + uptoBulkEntries r
def uptoBulkEntry {H : Type} : Lit × DataW H → Nat
  | (.string bytes, d) => bytes.length + uptoBulk d + 1
  | (_, d) => uptoBulk d + 1
 end
def uptoSmall : (H : Type) → List (DataW H) → Bool := fun _ ds => decide (uptoBulkAll ds ≤ 1048576)
def OpenSpec.upto (s : _root_.Go.ChangeSpec) : _root_.Go.OpenSpec := { _root_.Go.OpenSpec.ofChange s with cond := some uptoSmall }

/-- 'whipcordkeep.QueueLast', WHERE WHAT IT READS IS OF BULK AT MOST 1048576: true; the input reads as it did. -/
def queueLastUptoRow : OpenClaim := { program := "yteadfobfenopkaa", sum := "d7705ed8ba93d297a9ff967fcb0e703d34ca287b2ba9cc59127695dde3d51987", func := "whipcord/whipcordkeep.QueueLast", spec := "queueLast", unfollowed := true, recurses := true, apart := false, narrowed := true }
def QueueLastUptoSaid : Prop := queueLastUptoRow.holds Try.pinned (OpenSpec.upto queueLastSpec)

/-- 'whipcordkeep.DeltaParts', WHERE WHAT IT READS IS OF BULK AT MOST 1048576: true; the input reads as it did. -/
def deltaPartsUptoRow : OpenClaim := { program := "yteadfobfenopkaa", sum := "d7705ed8ba93d297a9ff967fcb0e703d34ca287b2ba9cc59127695dde3d51987", func := "whipcord/whipcordkeep.DeltaParts", spec := "deltaParts", unfollowed := true, recurses := true, apart := false, narrowed := true }
def DeltaPartsUptoSaid : Prop := deltaPartsUptoRow.holds Try.pinned (OpenSpec.upto deltaPartsSpec)

/-- 'whipcordkeep.DeltaNone', WHERE WHAT IT READS IS OF BULK AT MOST 1048576: true; the input reads as it did. -/
def deltaNoneUptoRow : OpenClaim := { program := "yteadfobfenopkaa", sum := "d7705ed8ba93d297a9ff967fcb0e703d34ca287b2ba9cc59127695dde3d51987", func := "whipcord/whipcordkeep.DeltaNone", spec := "deltaNone", unfollowed := true, recurses := true, apart := false, narrowed := true }
def DeltaNoneUptoSaid : Prop := deltaNoneUptoRow.holds Try.pinned (OpenSpec.upto deltaNoneSpec)

/-- 'whipcordkeep.DeltaBack', WHERE WHAT IT READS IS OF BULK AT MOST 1048576: true; the input reads as it did. -/
def deltaBackUptoRow : OpenClaim := { program := "yteadfobfenopkaa", sum := "d7705ed8ba93d297a9ff967fcb0e703d34ca287b2ba9cc59127695dde3d51987", func := "whipcord/whipcordkeep.DeltaBack", spec := "deltaBack", unfollowed := true, recurses := true, apart := false, narrowed := true }
def DeltaBackUptoSaid : Prop := deltaBackUptoRow.holds Try.pinned (OpenSpec.upto deltaBackSpec)

/-- 'whipcordkeep.DeltaSteps', WHERE WHAT IT READS IS OF BULK AT MOST 1048576: true; the input reads as it did. -/
def deltaStepsUptoRow : OpenClaim := { program := "yteadfobfenopkaa", sum := "d7705ed8ba93d297a9ff967fcb0e703d34ca287b2ba9cc59127695dde3d51987", func := "whipcord/whipcordkeep.DeltaSteps", spec := "deltaSteps", unfollowed := true, recurses := true, apart := false, narrowed := true }
def DeltaStepsUptoSaid : Prop := deltaStepsUptoRow.holds Try.pinned (OpenSpec.upto deltaStepsSpec)

/-- 'whipcordkeep.FilterParts', WHERE WHAT IT READS IS OF BULK AT MOST 1048576: true; the input reads as it did. -/
def filterPartsUptoRow : OpenClaim := { program := "yteadfobfenopkaa", sum := "d7705ed8ba93d297a9ff967fcb0e703d34ca287b2ba9cc59127695dde3d51987", func := "whipcord/whipcordkeep.FilterParts", spec := "filterParts", unfollowed := true, recurses := true, apart := false, narrowed := true }
def FilterPartsUptoSaid : Prop := filterPartsUptoRow.holds Try.pinned (OpenSpec.upto filterPartsSpec)

/-- 'whipcordkeep.ImageFixed', WHERE WHAT IT READS IS OF BULK AT MOST 1048576: true; the input reads as it did. -/
def imageFixedUptoRow : OpenClaim := { program := "yteadfobfenopkaa", sum := "d7705ed8ba93d297a9ff967fcb0e703d34ca287b2ba9cc59127695dde3d51987", func := "whipcord/whipcordkeep.ImageFixed", spec := "imageFixed", unfollowed := true, recurses := true, apart := false, narrowed := true }
def ImageFixedUptoSaid : Prop := imageFixedUptoRow.holds Try.pinned (OpenSpec.upto imageFixedSpec)

/-- 'whipcordkeep.ImageLong', WHERE WHAT IT READS IS OF BULK AT MOST 1048576: true; the input reads as it did. -/
def imageLongUptoRow : OpenClaim := { program := "yteadfobfenopkaa", sum := "d7705ed8ba93d297a9ff967fcb0e703d34ca287b2ba9cc59127695dde3d51987", func := "whipcord/whipcordkeep.ImageLong", spec := "imageLong", unfollowed := true, recurses := true, apart := false, narrowed := true }
def ImageLongUptoSaid : Prop := imageLongUptoRow.holds Try.pinned (OpenSpec.upto imageLongSpec)

/-- 'whipcordkeep.ImageBack', WHERE WHAT IT READS IS OF BULK AT MOST 1048576: true; the input reads as it did. -/
def imageBackUptoRow : OpenClaim := { program := "yteadfobfenopkaa", sum := "d7705ed8ba93d297a9ff967fcb0e703d34ca287b2ba9cc59127695dde3d51987", func := "whipcord/whipcordkeep.ImageBack", spec := "imageBack", unfollowed := true, recurses := true, apart := false, narrowed := true }
def ImageBackUptoSaid : Prop := imageBackUptoRow.holds Try.pinned (OpenSpec.upto imageBackSpec)

/-- 'whipcordkeep.PairForward', WHERE WHAT IT READS IS OF BULK AT MOST 1048576: true; the input reads as it did. -/
def pairForwardUptoRow : OpenClaim := { program := "yteadfobfenopkaa", sum := "d7705ed8ba93d297a9ff967fcb0e703d34ca287b2ba9cc59127695dde3d51987", func := "whipcord/whipcordkeep.PairForward", spec := "pairForward", unfollowed := true, recurses := true, apart := false, narrowed := true }
def PairForwardUptoSaid : Prop := pairForwardUptoRow.holds Try.pinned (OpenSpec.upto pairForwardSpec)

/-- 'whipcordkeep.PairWait', WHERE WHAT IT READS IS OF BULK AT MOST 1048576: true; the input reads as it did. -/
def pairWaitUptoRow : OpenClaim := { program := "yteadfobfenopkaa", sum := "d7705ed8ba93d297a9ff967fcb0e703d34ca287b2ba9cc59127695dde3d51987", func := "whipcord/whipcordkeep.PairWait", spec := "pairWait", unfollowed := true, recurses := true, apart := false, narrowed := true }
def PairWaitUptoSaid : Prop := pairWaitUptoRow.holds Try.pinned (OpenSpec.upto pairWaitSpec)

/-- 'whipcordkeep.PairIdle', WHERE WHAT IT READS IS OF BULK AT MOST 1048576: true; the input reads as it did. -/
def pairIdleUptoRow : OpenClaim := { program := "yteadfobfenopkaa", sum := "d7705ed8ba93d297a9ff967fcb0e703d34ca287b2ba9cc59127695dde3d51987", func := "whipcord/whipcordkeep.PairIdle", spec := "pairIdle", unfollowed := true, recurses := true, apart := false, narrowed := true }
def PairIdleUptoSaid : Prop := pairIdleUptoRow.holds Try.pinned (OpenSpec.upto pairIdleSpec)

/-- 'whipcordkeep.PairEnds', WHERE WHAT IT READS IS OF BULK AT MOST 1048576: true; the input reads as it did. -/
def pairEndsUptoRow : OpenClaim := { program := "yteadfobfenopkaa", sum := "d7705ed8ba93d297a9ff967fcb0e703d34ca287b2ba9cc59127695dde3d51987", func := "whipcord/whipcordkeep.PairEnds", spec := "pairEnds", unfollowed := true, recurses := true, apart := false, narrowed := true }
def PairEndsUptoSaid : Prop := pairEndsUptoRow.holds Try.pinned (OpenSpec.upto pairEndsSpec)

/-- 'whipcordkeep.PairTrue', WHERE WHAT IT READS IS OF BULK AT MOST 1048576: true; the input reads as it did. -/
def pairTrueUptoRow : OpenClaim := { program := "yteadfobfenopkaa", sum := "d7705ed8ba93d297a9ff967fcb0e703d34ca287b2ba9cc59127695dde3d51987", func := "whipcord/whipcordkeep.PairTrue", spec := "pairTrue", unfollowed := true, recurses := true, apart := false, narrowed := true }
def PairTrueUptoSaid : Prop := pairTrueUptoRow.holds Try.pinned (OpenSpec.upto pairTrueSpec)

/-- 'whipcordkeep.PairAlone', WHERE WHAT IT READS IS OF BULK AT MOST 1048576: true; the input reads as it did. -/
def pairAloneUptoRow : OpenClaim := { program := "yteadfobfenopkaa", sum := "d7705ed8ba93d297a9ff967fcb0e703d34ca287b2ba9cc59127695dde3d51987", func := "whipcord/whipcordkeep.PairAlone", spec := "pairAlone", unfollowed := true, recurses := true, apart := false, narrowed := true }
def PairAloneUptoSaid : Prop := pairAloneUptoRow.holds Try.pinned (OpenSpec.upto pairAloneSpec)

end Rows
end Go.Proofs.Yteadfobfenopkaa
