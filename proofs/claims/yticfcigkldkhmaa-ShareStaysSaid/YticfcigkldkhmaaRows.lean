/-
  No cell of these rows narrows 'for every input' (looked for: loops, veiled, ifaces, maps, wideKeys, modest, calm, conditions, laid).
  DERIVED. THE GIVEN ROWS OF THIS SEAT. 15 by the template 'for every input the law returns true; each argument reads behind the call as it read before'; 0 by the template 'total and deterministic' (their statements: YticfcigkldkhmaaTotals.lean).
  GIVEN WITH THE SEED: the statements are not yours to turn. If you find one false, say at which input.
  Laid BY PROGRAM, IN A SANDBOX (cutbox-rows.mjs): the forced cells as the released guide's own fill.sh prints them over the translation 6e77a59ce2c6fc1f… (all of the seat's roots in one cut). By AI agents, Wed Nov 11 2026. No macro, syntax, notation, axiom, sorry.
-/
import Derived.Test.YticfcigkldkhmaaChecked
import GoSem.Claim
import GoSem.ClaimJoined
import GoSem.ClaimMapViews
import Derived.JoinedTies
import Derived.KernelRfl
namespace Go.Proofs.Yticfcigkldkhmaa
/- THE CELL 'sum', in the pinned program and in every row, IS THE sha256 OF THE DUMP (.gsa) THAT YticfcigkldkhmaaProg.lean LOADS. Nothing in Lean hashes anything: it is a label: what it is worth is what the hold of that sum in a sandbox is worth. -/
noncomputable def Try.pinned : Pinned := { name := "yticfcigkldkhmaa", sum := "6e77a59ce2c6fc1fd37a6d80a1933a52365075caf5f35ba545401ce1967369fc", checked := Try.checked }
namespace Rows
def none {H : Type} : Left H := { results := [], args := [] }

/-- 'whipcordkeep.QueueCount': WHATEVER THE INPUT: true; the input reads as it did. -/
def queueCountSpec : ChangeSpec := { name := "queueCount", fn := fun _ => fun
  | [d] => { results := [.lit (.bool true)], args := [d] }
  | _ => none }
def queueCountRow : OpenClaim := { program := "yticfcigkldkhmaa", sum := "6e77a59ce2c6fc1fd37a6d80a1933a52365075caf5f35ba545401ce1967369fc", func := "whipcord/whipcordkeep.QueueCount", spec := "queueCount", unfollowed := true, recurses := true, apart := false }
def QueueCountSaid : Prop := queueCountRow.holds Try.pinned (OpenSpec.ofChange queueCountSpec)

/-- ITS FALSE NEIGHBOUR: 'it returns false'. Refute it at one input. -/
def queueCountWrong : ChangeSpec := { name := "queueCount", fn := fun _ => fun
  | [d] => { results := [.lit (.bool false)], args := [d] }
  | _ => none }
def QueueCountWrongFalsely : Prop := queueCountRow.holds Try.pinned (OpenSpec.ofChange queueCountWrong)

/-- 'whipcordkeep.QueueParts': WHATEVER THE INPUT: true; the input reads as it did. -/
def queuePartsSpec : ChangeSpec := { name := "queueParts", fn := fun _ => fun
  | [d1, d2] => { results := [.lit (.bool true)], args := [d1, d2] }
  | _ => none }
def queuePartsRow : OpenClaim := { program := "yticfcigkldkhmaa", sum := "6e77a59ce2c6fc1fd37a6d80a1933a52365075caf5f35ba545401ce1967369fc", func := "whipcord/whipcordkeep.QueueParts", spec := "queueParts", unfollowed := true, recurses := true, apart := false }
def QueuePartsSaid : Prop := queuePartsRow.holds Try.pinned (OpenSpec.ofChange queuePartsSpec)

/-- ITS FALSE NEIGHBOUR: 'it returns false'. Refute it at one input. -/
def queuePartsWrong : ChangeSpec := { name := "queueParts", fn := fun _ => fun
  | [d1, d2] => { results := [.lit (.bool false)], args := [d1, d2] }
  | _ => none }
def QueuePartsWrongFalsely : Prop := queuePartsRow.holds Try.pinned (OpenSpec.ofChange queuePartsWrong)

/-- 'whipcordkeep.QueueOnce': WHATEVER THE INPUT: true; the input reads as it did. -/
def queueOnceSpec : ChangeSpec := { name := "queueOnce", fn := fun _ => fun
  | [d] => { results := [.lit (.bool true)], args := [d] }
  | _ => none }
def queueOnceRow : OpenClaim := { program := "yticfcigkldkhmaa", sum := "6e77a59ce2c6fc1fd37a6d80a1933a52365075caf5f35ba545401ce1967369fc", func := "whipcord/whipcordkeep.QueueOnce", spec := "queueOnce", unfollowed := true, recurses := true, apart := false }
def QueueOnceSaid : Prop := queueOnceRow.holds Try.pinned (OpenSpec.ofChange queueOnceSpec)

/-- ITS FALSE NEIGHBOUR: 'it returns false'. Refute it at one input. -/
def queueOnceWrong : ChangeSpec := { name := "queueOnce", fn := fun _ => fun
  | [d] => { results := [.lit (.bool false)], args := [d] }
  | _ => none }
def QueueOnceWrongFalsely : Prop := queueOnceRow.holds Try.pinned (OpenSpec.ofChange queueOnceWrong)

/-- 'whipcordkeep.RangeJust': WHATEVER THE INPUT: true; the input reads as it did. -/
def rangeJustSpec : ChangeSpec := { name := "rangeJust", fn := fun _ => fun
  | [d1, d2] => { results := [.lit (.bool true)], args := [d1, d2] }
  | _ => none }
def rangeJustRow : OpenClaim := { program := "yticfcigkldkhmaa", sum := "6e77a59ce2c6fc1fd37a6d80a1933a52365075caf5f35ba545401ce1967369fc", func := "whipcord/whipcordkeep.RangeJust", spec := "rangeJust", inPlace := ["math/bits.Add64", "math/bits.Sub64"], unfollowed := true, recurses := true, apart := false }
def RangeJustSaid : Prop := rangeJustRow.holds Try.pinned (OpenSpec.ofChange rangeJustSpec)

/-- ITS FALSE NEIGHBOUR: 'it returns false'. Refute it at one input. -/
def rangeJustWrong : ChangeSpec := { name := "rangeJust", fn := fun _ => fun
  | [d1, d2] => { results := [.lit (.bool false)], args := [d1, d2] }
  | _ => none }
def RangeJustWrongFalsely : Prop := rangeJustRow.holds Try.pinned (OpenSpec.ofChange rangeJustWrong)

/-- 'whipcordkeep.TableTold': WHATEVER THE INPUT: true; the input reads as it did. -/
def tableToldSpec : ChangeSpec := { name := "tableTold", fn := fun _ => fun
  | [d1, d2, d3] => { results := [.lit (.bool true)], args := [d1, d2, d3] }
  | _ => none }
def tableToldRow : OpenClaim := { program := "yticfcigkldkhmaa", sum := "6e77a59ce2c6fc1fd37a6d80a1933a52365075caf5f35ba545401ce1967369fc", func := "whipcord/whipcordkeep.TableTold", spec := "tableTold", unfollowed := true, recurses := true, apart := false }
def TableToldSaid : Prop := tableToldRow.holds Try.pinned (OpenSpec.ofChange tableToldSpec)

/-- ITS FALSE NEIGHBOUR: 'it returns false'. Refute it at one input. -/
def tableToldWrong : ChangeSpec := { name := "tableTold", fn := fun _ => fun
  | [d1, d2, d3] => { results := [.lit (.bool false)], args := [d1, d2, d3] }
  | _ => none }
def TableToldWrongFalsely : Prop := tableToldRow.holds Try.pinned (OpenSpec.ofChange tableToldWrong)

/-- 'whipcordkeep.ShareFair': WHATEVER THE INPUT: true; the input reads as it did. -/
def shareFairSpec : ChangeSpec := { name := "shareFair", fn := fun _ => fun
  | [d1, d2] => { results := [.lit (.bool true)], args := [d1, d2] }
  | _ => none }
def shareFairRow : OpenClaim := { program := "yticfcigkldkhmaa", sum := "6e77a59ce2c6fc1fd37a6d80a1933a52365075caf5f35ba545401ce1967369fc", func := "whipcord/whipcordkeep.ShareFair", spec := "shareFair", unfollowed := true, recurses := true, apart := false }
def ShareFairSaid : Prop := shareFairRow.holds Try.pinned (OpenSpec.ofChange shareFairSpec)

/-- ITS FALSE NEIGHBOUR: 'it returns false'. Refute it at one input. -/
def shareFairWrong : ChangeSpec := { name := "shareFair", fn := fun _ => fun
  | [d1, d2] => { results := [.lit (.bool false)], args := [d1, d2] }
  | _ => none }
def ShareFairWrongFalsely : Prop := shareFairRow.holds Try.pinned (OpenSpec.ofChange shareFairWrong)

/-- 'whipcordkeep.ShareExact': WHATEVER THE INPUT: true; the input reads as it did. -/
def shareExactSpec : ChangeSpec := { name := "shareExact", fn := fun _ => fun
  | [d1, d2] => { results := [.lit (.bool true)], args := [d1, d2] }
  | _ => none }
def shareExactRow : OpenClaim := { program := "yticfcigkldkhmaa", sum := "6e77a59ce2c6fc1fd37a6d80a1933a52365075caf5f35ba545401ce1967369fc", func := "whipcord/whipcordkeep.ShareExact", spec := "shareExact", unfollowed := true, recurses := true, apart := false }
def ShareExactSaid : Prop := shareExactRow.holds Try.pinned (OpenSpec.ofChange shareExactSpec)

/-- ITS FALSE NEIGHBOUR: 'it returns false'. Refute it at one input. -/
def shareExactWrong : ChangeSpec := { name := "shareExact", fn := fun _ => fun
  | [d1, d2] => { results := [.lit (.bool false)], args := [d1, d2] }
  | _ => none }
def ShareExactWrongFalsely : Prop := shareExactRow.holds Try.pinned (OpenSpec.ofChange shareExactWrong)

/-- 'whipcordkeep.TableUndone': WHATEVER THE INPUT: true; the input reads as it did. -/
def tableUndoneSpec : ChangeSpec := { name := "tableUndone", fn := fun _ => fun
  | [d1, d2, d3] => { results := [.lit (.bool true)], args := [d1, d2, d3] }
  | _ => none }
def tableUndoneRow : OpenClaim := { program := "yticfcigkldkhmaa", sum := "6e77a59ce2c6fc1fd37a6d80a1933a52365075caf5f35ba545401ce1967369fc", func := "whipcord/whipcordkeep.TableUndone", spec := "tableUndone", unfollowed := true, recurses := true, apart := false }
def TableUndoneSaid : Prop := tableUndoneRow.holds Try.pinned (OpenSpec.ofChange tableUndoneSpec)

/-- ITS FALSE NEIGHBOUR: 'it returns false'. Refute it at one input. -/
def tableUndoneWrong : ChangeSpec := { name := "tableUndone", fn := fun _ => fun
  | [d1, d2, d3] => { results := [.lit (.bool false)], args := [d1, d2, d3] }
  | _ => none }
def TableUndoneWrongFalsely : Prop := tableUndoneRow.holds Try.pinned (OpenSpec.ofChange tableUndoneWrong)

/-- 'whipcordkeep.TableOrder': WHATEVER THE INPUT: true; the input reads as it did. -/
def tableOrderSpec : ChangeSpec := { name := "tableOrder", fn := fun _ => fun
  | [d1, d2] => { results := [.lit (.bool true)], args := [d1, d2] }
  | _ => none }
def tableOrderRow : OpenClaim := { program := "yticfcigkldkhmaa", sum := "6e77a59ce2c6fc1fd37a6d80a1933a52365075caf5f35ba545401ce1967369fc", func := "whipcord/whipcordkeep.TableOrder", spec := "tableOrder", unfollowed := true, recurses := true, apart := false }
def TableOrderSaid : Prop := tableOrderRow.holds Try.pinned (OpenSpec.ofChange tableOrderSpec)

/-- ITS FALSE NEIGHBOUR: 'it returns false'. Refute it at one input. -/
def tableOrderWrong : ChangeSpec := { name := "tableOrder", fn := fun _ => fun
  | [d1, d2] => { results := [.lit (.bool false)], args := [d1, d2] }
  | _ => none }
def TableOrderWrongFalsely : Prop := tableOrderRow.holds Try.pinned (OpenSpec.ofChange tableOrderWrong)

/-- 'whipcordkeep.ShareSpread': WHATEVER THE INPUT: true; the input reads as it did. -/
def shareSpreadSpec : ChangeSpec := { name := "shareSpread", fn := fun _ => fun
  | [d1, d2, d3, d4] => { results := [.lit (.bool true)], args := [d1, d2, d3, d4] }
  | _ => none }
def shareSpreadRow : OpenClaim := { program := "yticfcigkldkhmaa", sum := "6e77a59ce2c6fc1fd37a6d80a1933a52365075caf5f35ba545401ce1967369fc", func := "whipcord/whipcordkeep.ShareSpread", spec := "shareSpread", unfollowed := true, recurses := true, apart := false }
def ShareSpreadSaid : Prop := shareSpreadRow.holds Try.pinned (OpenSpec.ofChange shareSpreadSpec)

/-- ITS FALSE NEIGHBOUR: 'it returns false'. Refute it at one input. -/
def shareSpreadWrong : ChangeSpec := { name := "shareSpread", fn := fun _ => fun
  | [d1, d2, d3, d4] => { results := [.lit (.bool false)], args := [d1, d2, d3, d4] }
  | _ => none }
def ShareSpreadWrongFalsely : Prop := shareSpreadRow.holds Try.pinned (OpenSpec.ofChange shareSpreadWrong)

/-- 'whipcordkeep.ShareMoves': WHATEVER THE INPUT: true; the input reads as it did. -/
def shareMovesSpec : ChangeSpec := { name := "shareMoves", fn := fun _ => fun
  | [d1, d2, d3] => { results := [.lit (.bool true)], args := [d1, d2, d3] }
  | _ => none }
def shareMovesRow : OpenClaim := { program := "yticfcigkldkhmaa", sum := "6e77a59ce2c6fc1fd37a6d80a1933a52365075caf5f35ba545401ce1967369fc", func := "whipcord/whipcordkeep.ShareMoves", spec := "shareMoves", unfollowed := true, recurses := true, apart := false }
def ShareMovesSaid : Prop := shareMovesRow.holds Try.pinned (OpenSpec.ofChange shareMovesSpec)

/-- ITS FALSE NEIGHBOUR: 'it returns false'. Refute it at one input. -/
def shareMovesWrong : ChangeSpec := { name := "shareMoves", fn := fun _ => fun
  | [d1, d2, d3] => { results := [.lit (.bool false)], args := [d1, d2, d3] }
  | _ => none }
def ShareMovesWrongFalsely : Prop := shareMovesRow.holds Try.pinned (OpenSpec.ofChange shareMovesWrong)

/-- 'whipcordkeep.ShareLeaves': WHATEVER THE INPUT: true; the input reads as it did. -/
def shareLeavesSpec : ChangeSpec := { name := "shareLeaves", fn := fun _ => fun
  | [d1, d2, d3] => { results := [.lit (.bool true)], args := [d1, d2, d3] }
  | _ => none }
def shareLeavesRow : OpenClaim := { program := "yticfcigkldkhmaa", sum := "6e77a59ce2c6fc1fd37a6d80a1933a52365075caf5f35ba545401ce1967369fc", func := "whipcord/whipcordkeep.ShareLeaves", spec := "shareLeaves", unfollowed := true, recurses := true, apart := false }
def ShareLeavesSaid : Prop := shareLeavesRow.holds Try.pinned (OpenSpec.ofChange shareLeavesSpec)

/-- ITS FALSE NEIGHBOUR: 'it returns false'. Refute it at one input. -/
def shareLeavesWrong : ChangeSpec := { name := "shareLeaves", fn := fun _ => fun
  | [d1, d2, d3] => { results := [.lit (.bool false)], args := [d1, d2, d3] }
  | _ => none }
def ShareLeavesWrongFalsely : Prop := shareLeavesRow.holds Try.pinned (OpenSpec.ofChange shareLeavesWrong)

/-- 'whipcordkeep.TableElsewhere': WHATEVER THE INPUT: true; the input reads as it did. -/
def tableElsewhereSpec : ChangeSpec := { name := "tableElsewhere", fn := fun _ => fun
  | [d1, d2, d3, d4] => { results := [.lit (.bool true)], args := [d1, d2, d3, d4] }
  | _ => none }
def tableElsewhereRow : OpenClaim := { program := "yticfcigkldkhmaa", sum := "6e77a59ce2c6fc1fd37a6d80a1933a52365075caf5f35ba545401ce1967369fc", func := "whipcord/whipcordkeep.TableElsewhere", spec := "tableElsewhere", unfollowed := true, recurses := true, apart := false }
def TableElsewhereSaid : Prop := tableElsewhereRow.holds Try.pinned (OpenSpec.ofChange tableElsewhereSpec)

/-- ITS FALSE NEIGHBOUR: 'it returns false'. Refute it at one input. -/
def tableElsewhereWrong : ChangeSpec := { name := "tableElsewhere", fn := fun _ => fun
  | [d1, d2, d3, d4] => { results := [.lit (.bool false)], args := [d1, d2, d3, d4] }
  | _ => none }
def TableElsewhereWrongFalsely : Prop := tableElsewhereRow.holds Try.pinned (OpenSpec.ofChange tableElsewhereWrong)

/-- 'whipcordkeep.TableLongest': WHATEVER THE INPUT: true; the input reads as it did. -/
def tableLongestSpec : ChangeSpec := { name := "tableLongest", fn := fun _ => fun
  | [d1, d2] => { results := [.lit (.bool true)], args := [d1, d2] }
  | _ => none }
def tableLongestRow : OpenClaim := { program := "yticfcigkldkhmaa", sum := "6e77a59ce2c6fc1fd37a6d80a1933a52365075caf5f35ba545401ce1967369fc", func := "whipcord/whipcordkeep.TableLongest", spec := "tableLongest", unfollowed := true, recurses := true, apart := false }
def TableLongestSaid : Prop := tableLongestRow.holds Try.pinned (OpenSpec.ofChange tableLongestSpec)

/-- ITS FALSE NEIGHBOUR: 'it returns false'. Refute it at one input. -/
def tableLongestWrong : ChangeSpec := { name := "tableLongest", fn := fun _ => fun
  | [d1, d2] => { results := [.lit (.bool false)], args := [d1, d2] }
  | _ => none }
def TableLongestWrongFalsely : Prop := tableLongestRow.holds Try.pinned (OpenSpec.ofChange tableLongestWrong)

/-- 'whipcordkeep.ShareStays': WHATEVER THE INPUT: true; the input reads as it did. -/
def shareStaysSpec : ChangeSpec := { name := "shareStays", fn := fun _ => fun
  | [d1, d2, d3, d4] => { results := [.lit (.bool true)], args := [d1, d2, d3, d4] }
  | _ => none }
def shareStaysRow : OpenClaim := { program := "yticfcigkldkhmaa", sum := "6e77a59ce2c6fc1fd37a6d80a1933a52365075caf5f35ba545401ce1967369fc", func := "whipcord/whipcordkeep.ShareStays", spec := "shareStays", unfollowed := true, recurses := true, apart := false }
def ShareStaysSaid : Prop := shareStaysRow.holds Try.pinned (OpenSpec.ofChange shareStaysSpec)

/-- ITS FALSE NEIGHBOUR: 'it returns false'. Refute it at one input. -/
def shareStaysWrong : ChangeSpec := { name := "shareStays", fn := fun _ => fun
  | [d1, d2, d3, d4] => { results := [.lit (.bool false)], args := [d1, d2, d3, d4] }
  | _ => none }
def ShareStaysWrongFalsely : Prop := shareStaysRow.holds Try.pinned (OpenSpec.ofChange shareStaysWrong)

/- THE SECOND FORM. 'bulk': how many values and letters a reading holds, each counted each time it is reached (what is shared counts as often as it is met; a slice's spare places count too). A statement '..UptoSaid' is the law's where the arguments, and the package variables that the reading takes, are together of bulk at most 1048576: NARROWER than '..Said'. Prove '..Said' where nothing that the law and all that it calls make is longer than what came in: it says more and counts as full. Else prove '..UptoSaid'. A law counts once. -/
mutual
def uptoBulk {H : Type} : DataW H → Nat
  | .lit (.string bytes) => bytes.length + 1
  | .lit _ => 1
  | .nil => 1
  | .ptr d => uptoBulk d + 1
  | .slice elems spare => uptoBulkAll elems + uptoBulkAll spare + 1
  | .agg parts => uptoBulkAll parts + 1
  | .iface _ d => uptoBulk d + 1
  | .map entries => uptoBulkEntries entries + 1
  | .held _ => 1
def uptoBulkAll {H : Type} : List (DataW H) → Nat
  | [] => 0
  | d :: r => uptoBulk d + uptoBulkAll r
def uptoBulkEntries {H : Type} : List (Lit × DataW H) → Nat
  | [] => 0
  | x :: r => uptoBulkEntry x + uptoBulkEntries r
def uptoBulkEntry {H : Type} : Lit × DataW H → Nat
  | (.string bytes, d) => bytes.length + uptoBulk d + 1
  | (_, d) => uptoBulk d + 1
 end
def uptoSmall : (H : Type) → List (DataW H) → Bool := fun _ ds => decide (uptoBulkAll ds ≤ 1048576)
def OpenSpec.upto (s : _root_.Go.ChangeSpec) : _root_.Go.OpenSpec := { _root_.Go.OpenSpec.ofChange s with cond := some uptoSmall }

/-- 'whipcordkeep.QueueCount', WHERE WHAT IT READS IS OF BULK AT MOST 1048576: true; the input reads as it did. -/
def queueCountUptoRow : OpenClaim := { program := "yticfcigkldkhmaa", sum := "6e77a59ce2c6fc1fd37a6d80a1933a52365075caf5f35ba545401ce1967369fc", func := "whipcord/whipcordkeep.QueueCount", spec := "queueCount", unfollowed := true, recurses := true, apart := false, narrowed := true }
def QueueCountUptoSaid : Prop := queueCountUptoRow.holds Try.pinned (OpenSpec.upto queueCountSpec)

/-- 'whipcordkeep.QueueParts', WHERE WHAT IT READS IS OF BULK AT MOST 1048576: true; the input reads as it did. -/
def queuePartsUptoRow : OpenClaim := { program := "yticfcigkldkhmaa", sum := "6e77a59ce2c6fc1fd37a6d80a1933a52365075caf5f35ba545401ce1967369fc", func := "whipcord/whipcordkeep.QueueParts", spec := "queueParts", unfollowed := true, recurses := true, apart := false, narrowed := true }
def QueuePartsUptoSaid : Prop := queuePartsUptoRow.holds Try.pinned (OpenSpec.upto queuePartsSpec)

/-- 'whipcordkeep.QueueOnce', WHERE WHAT IT READS IS OF BULK AT MOST 1048576: true; the input reads as it did. -/
def queueOnceUptoRow : OpenClaim := { program := "yticfcigkldkhmaa", sum := "6e77a59ce2c6fc1fd37a6d80a1933a52365075caf5f35ba545401ce1967369fc", func := "whipcord/whipcordkeep.QueueOnce", spec := "queueOnce", unfollowed := true, recurses := true, apart := false, narrowed := true }
def QueueOnceUptoSaid : Prop := queueOnceUptoRow.holds Try.pinned (OpenSpec.upto queueOnceSpec)

/-- 'whipcordkeep.RangeJust', WHERE WHAT IT READS IS OF BULK AT MOST 1048576: true; the input reads as it did. -/
def rangeJustUptoRow : OpenClaim := { program := "yticfcigkldkhmaa", sum := "6e77a59ce2c6fc1fd37a6d80a1933a52365075caf5f35ba545401ce1967369fc", func := "whipcord/whipcordkeep.RangeJust", spec := "rangeJust", inPlace := ["math/bits.Add64", "math/bits.Sub64"], unfollowed := true, recurses := true, apart := false, narrowed := true }
def RangeJustUptoSaid : Prop := rangeJustUptoRow.holds Try.pinned (OpenSpec.upto rangeJustSpec)

/-- 'whipcordkeep.TableTold', WHERE WHAT IT READS IS OF BULK AT MOST 1048576: true; the input reads as it did. -/
def tableToldUptoRow : OpenClaim := { program := "yticfcigkldkhmaa", sum := "6e77a59ce2c6fc1fd37a6d80a1933a52365075caf5f35ba545401ce1967369fc", func := "whipcord/whipcordkeep.TableTold", spec := "tableTold", unfollowed := true, recurses := true, apart := false, narrowed := true }
def TableToldUptoSaid : Prop := tableToldUptoRow.holds Try.pinned (OpenSpec.upto tableToldSpec)

/-- 'whipcordkeep.ShareFair', WHERE WHAT IT READS IS OF BULK AT MOST 1048576: true; the input reads as it did. -/
def shareFairUptoRow : OpenClaim := { program := "yticfcigkldkhmaa", sum := "6e77a59ce2c6fc1fd37a6d80a1933a52365075caf5f35ba545401ce1967369fc", func := "whipcord/whipcordkeep.ShareFair", spec := "shareFair", unfollowed := true, recurses := true, apart := false, narrowed := true }
def ShareFairUptoSaid : Prop := shareFairUptoRow.holds Try.pinned (OpenSpec.upto shareFairSpec)

/-- 'whipcordkeep.ShareExact', WHERE WHAT IT READS IS OF BULK AT MOST 1048576: true; the input reads as it did. -/
def shareExactUptoRow : OpenClaim := { program := "yticfcigkldkhmaa", sum := "6e77a59ce2c6fc1fd37a6d80a1933a52365075caf5f35ba545401ce1967369fc", func := "whipcord/whipcordkeep.ShareExact", spec := "shareExact", unfollowed := true, recurses := true, apart := false, narrowed := true }
def ShareExactUptoSaid : Prop := shareExactUptoRow.holds Try.pinned (OpenSpec.upto shareExactSpec)

/-- 'whipcordkeep.TableUndone', WHERE WHAT IT READS IS OF BULK AT MOST 1048576: true; the input reads as it did. -/
def tableUndoneUptoRow : OpenClaim := { program := "yticfcigkldkhmaa", sum := "6e77a59ce2c6fc1fd37a6d80a1933a52365075caf5f35ba545401ce1967369fc", func := "whipcord/whipcordkeep.TableUndone", spec := "tableUndone", unfollowed := true, recurses := true, apart := false, narrowed := true }
def TableUndoneUptoSaid : Prop := tableUndoneUptoRow.holds Try.pinned (OpenSpec.upto tableUndoneSpec)

/-- 'whipcordkeep.TableOrder', WHERE WHAT IT READS IS OF BULK AT MOST 1048576: true; the input reads as it did. -/
def tableOrderUptoRow : OpenClaim := { program := "yticfcigkldkhmaa", sum := "6e77a59ce2c6fc1fd37a6d80a1933a52365075caf5f35ba545401ce1967369fc", func := "whipcord/whipcordkeep.TableOrder", spec := "tableOrder", unfollowed := true, recurses := true, apart := false, narrowed := true }
def TableOrderUptoSaid : Prop := tableOrderUptoRow.holds Try.pinned (OpenSpec.upto tableOrderSpec)

/-- 'whipcordkeep.ShareSpread', WHERE WHAT IT READS IS OF BULK AT MOST 1048576: true; the input reads as it did. -/
def shareSpreadUptoRow : OpenClaim := { program := "yticfcigkldkhmaa", sum := "6e77a59ce2c6fc1fd37a6d80a1933a52365075caf5f35ba545401ce1967369fc", func := "whipcord/whipcordkeep.ShareSpread", spec := "shareSpread", unfollowed := true, recurses := true, apart := false, narrowed := true }
def ShareSpreadUptoSaid : Prop := shareSpreadUptoRow.holds Try.pinned (OpenSpec.upto shareSpreadSpec)

/-- 'whipcordkeep.ShareMoves', WHERE WHAT IT READS IS OF BULK AT MOST 1048576: true; the input reads as it did. -/
def shareMovesUptoRow : OpenClaim := { program := "yticfcigkldkhmaa", sum := "6e77a59ce2c6fc1fd37a6d80a1933a52365075caf5f35ba545401ce1967369fc", func := "whipcord/whipcordkeep.ShareMoves", spec := "shareMoves", unfollowed := true, recurses := true, apart := false, narrowed := true }
def ShareMovesUptoSaid : Prop := shareMovesUptoRow.holds Try.pinned (OpenSpec.upto shareMovesSpec)

/-- 'whipcordkeep.ShareLeaves', WHERE WHAT IT READS IS OF BULK AT MOST 1048576: true; the input reads as it did. -/
def shareLeavesUptoRow : OpenClaim := { program := "yticfcigkldkhmaa", sum := "6e77a59ce2c6fc1fd37a6d80a1933a52365075caf5f35ba545401ce1967369fc", func := "whipcord/whipcordkeep.ShareLeaves", spec := "shareLeaves", unfollowed := true, recurses := true, apart := false, narrowed := true }
def ShareLeavesUptoSaid : Prop := shareLeavesUptoRow.holds Try.pinned (OpenSpec.upto shareLeavesSpec)

/-- 'whipcordkeep.TableElsewhere', WHERE WHAT IT READS IS OF BULK AT MOST 1048576: true; the input reads as it did. -/
def tableElsewhereUptoRow : OpenClaim := { program := "yticfcigkldkhmaa", sum := "6e77a59ce2c6fc1fd37a6d80a1933a52365075caf5f35ba545401ce1967369fc", func := "whipcord/whipcordkeep.TableElsewhere", spec := "tableElsewhere", unfollowed := true, recurses := true, apart := false, narrowed := true }
def TableElsewhereUptoSaid : Prop := tableElsewhereUptoRow.holds Try.pinned (OpenSpec.upto tableElsewhereSpec)

/-- 'whipcordkeep.TableLongest', WHERE WHAT IT READS IS OF BULK AT MOST 1048576: true; the input reads as it did. -/
def tableLongestUptoRow : OpenClaim := { program := "yticfcigkldkhmaa", sum := "6e77a59ce2c6fc1fd37a6d80a1933a52365075caf5f35ba545401ce1967369fc", func := "whipcord/whipcordkeep.TableLongest", spec := "tableLongest", unfollowed := true, recurses := true, apart := false, narrowed := true }
def TableLongestUptoSaid : Prop := tableLongestUptoRow.holds Try.pinned (OpenSpec.upto tableLongestSpec)

/-- 'whipcordkeep.ShareStays', WHERE WHAT IT READS IS OF BULK AT MOST 1048576: true; the input reads as it did. -/
def shareStaysUptoRow : OpenClaim := { program := "yticfcigkldkhmaa", sum := "6e77a59ce2c6fc1fd37a6d80a1933a52365075caf5f35ba545401ce1967369fc", func := "whipcord/whipcordkeep.ShareStays", spec := "shareStays", unfollowed := true, recurses := true, apart := false, narrowed := true }
def ShareStaysUptoSaid : Prop := shareStaysUptoRow.holds Try.pinned (OpenSpec.upto shareStaysSpec)

end Rows
end Go.Proofs.Yticfcigkldkhmaa
