/-
  No cell of these rows narrows 'for every input' (looked for: loops, veiled, ifaces, maps, wideKeys, modest, calm, conditions, laid).
  DERIVED. THE GIVEN ROWS OF THIS SEAT. 15 by the template 'for every input the law returns true; each argument reads behind the call as it read before'; 0 by the template 'total and deterministic' (their statements: YtlcacocecdnpnaaTotals.lean).
  GIVEN WITH THE SEED: the statements are not yours to turn. If you find one false, say at which input.
  Laid BY PROGRAM, IN A SANDBOX (cutbox-rows.mjs): the forced cells as the released guide's own fill.sh prints them over the translation 3c026d64db4df55e… (all of the seat's roots in one cut). By AI agents, Wed Nov 11 2026. No macro, syntax, notation, axiom, sorry.
-/
import Derived.Test.YtlcacocecdnpnaaChecked
import GoSem.Claim
import GoSem.ClaimJoined
import GoSem.ClaimMapViews
import Derived.JoinedTies
import Derived.KernelRfl
namespace Go.Proofs.Ytlcacocecdnpnaa
/- THE CELL 'sum', in the pinned program and in every row, IS THE sha256 OF THE DUMP (.gsa) THAT YtlcacocecdnpnaaProg.lean LOADS. Nothing in Lean hashes anything: it is a label: what it is worth is what the hold of that sum in a sandbox is worth. -/
noncomputable def Try.pinned : Pinned := { name := "ytlcacocecdnpnaa", sum := "3c026d64db4df55e46f4777de5ab54215f9ac70b10d0729446ff04621ae5a5df", checked := Try.checked }
namespace Rows
def none {H : Type} : Left H := { results := [], args := [] }

/-- 'whipcordkeep.ViaStep': WHATEVER THE INPUT: true; the input reads as it did. -/
def viaStepSpec : ChangeSpec := { name := "viaStep", fn := fun _ => fun
  | [d1, d2, d3] => { results := [.lit (.bool true)], args := [d1, d2, d3] }
  | _ => none }
def viaStepRow : OpenClaim := { program := "ytlcacocecdnpnaa", sum := "3c026d64db4df55e46f4777de5ab54215f9ac70b10d0729446ff04621ae5a5df", func := "whipcord/whipcordkeep.ViaStep", spec := "viaStep", apart := false }
def ViaStepSaid : Prop := viaStepRow.holds Try.pinned (OpenSpec.ofChange viaStepSpec)

/-- ITS FALSE NEIGHBOUR: 'it returns false'. Refute it at one input. -/
def viaStepWrong : ChangeSpec := { name := "viaStep", fn := fun _ => fun
  | [d1, d2, d3] => { results := [.lit (.bool false)], args := [d1, d2, d3] }
  | _ => none }
def ViaStepWrongFalsely : Prop := viaStepRow.holds Try.pinned (OpenSpec.ofChange viaStepWrong)

/-- 'whipcordkeep.ViaMore': WHATEVER THE INPUT: true; the input reads as it did. -/
def viaMoreSpec : ChangeSpec := { name := "viaMore", fn := fun _ => fun
  | [d1, d2, d3, d4] => { results := [.lit (.bool true)], args := [d1, d2, d3, d4] }
  | _ => none }
def viaMoreRow : OpenClaim := { program := "ytlcacocecdnpnaa", sum := "3c026d64db4df55e46f4777de5ab54215f9ac70b10d0729446ff04621ae5a5df", func := "whipcord/whipcordkeep.ViaMore", spec := "viaMore", apart := false }
def ViaMoreSaid : Prop := viaMoreRow.holds Try.pinned (OpenSpec.ofChange viaMoreSpec)

/-- ITS FALSE NEIGHBOUR: 'it returns false'. Refute it at one input. -/
def viaMoreWrong : ChangeSpec := { name := "viaMore", fn := fun _ => fun
  | [d1, d2, d3, d4] => { results := [.lit (.bool false)], args := [d1, d2, d3, d4] }
  | _ => none }
def ViaMoreWrongFalsely : Prop := viaMoreRow.holds Try.pinned (OpenSpec.ofChange viaMoreWrong)

/-- 'whipcordkeep.ViaChain': WHATEVER THE INPUT: true; the input reads as it did. -/
def viaChainSpec : ChangeSpec := { name := "viaChain", fn := fun _ => fun
  | [d1, d2, d3] => { results := [.lit (.bool true)], args := [d1, d2, d3] }
  | _ => none }
def viaChainRow : OpenClaim := { program := "ytlcacocecdnpnaa", sum := "3c026d64db4df55e46f4777de5ab54215f9ac70b10d0729446ff04621ae5a5df", func := "whipcord/whipcordkeep.ViaChain", spec := "viaChain", apart := false }
def ViaChainSaid : Prop := viaChainRow.holds Try.pinned (OpenSpec.ofChange viaChainSpec)

/-- ITS FALSE NEIGHBOUR: 'it returns false'. Refute it at one input. -/
def viaChainWrong : ChangeSpec := { name := "viaChain", fn := fun _ => fun
  | [d1, d2, d3] => { results := [.lit (.bool false)], args := [d1, d2, d3] }
  | _ => none }
def ViaChainWrongFalsely : Prop := viaChainRow.holds Try.pinned (OpenSpec.ofChange viaChainWrong)

/-- 'whipcordkeep.RulesSplit': WHATEVER THE INPUT: true; the input reads as it did. -/
def rulesSplitSpec : ChangeSpec := { name := "rulesSplit", fn := fun _ => fun
  | [d1, d2, d3] => { results := [.lit (.bool true)], args := [d1, d2, d3] }
  | _ => none }
def rulesSplitRow : OpenClaim := { program := "ytlcacocecdnpnaa", sum := "3c026d64db4df55e46f4777de5ab54215f9ac70b10d0729446ff04621ae5a5df", func := "whipcord/whipcordkeep.RulesSplit", spec := "rulesSplit", unfollowed := true, recurses := true, apart := false }
def RulesSplitSaid : Prop := rulesSplitRow.holds Try.pinned (OpenSpec.ofChange rulesSplitSpec)

/-- ITS FALSE NEIGHBOUR: 'it returns false'. Refute it at one input. -/
def rulesSplitWrong : ChangeSpec := { name := "rulesSplit", fn := fun _ => fun
  | [d1, d2, d3] => { results := [.lit (.bool false)], args := [d1, d2, d3] }
  | _ => none }
def RulesSplitWrongFalsely : Prop := rulesSplitRow.holds Try.pinned (OpenSpec.ofChange rulesSplitWrong)

/-- 'whipcordkeep.RulesTurned': WHATEVER THE INPUT: true; the input reads as it did. -/
def rulesTurnedSpec : ChangeSpec := { name := "rulesTurned", fn := fun _ => fun
  | [d1, d2] => { results := [.lit (.bool true)], args := [d1, d2] }
  | _ => none }
def rulesTurnedRow : OpenClaim := { program := "ytlcacocecdnpnaa", sum := "3c026d64db4df55e46f4777de5ab54215f9ac70b10d0729446ff04621ae5a5df", func := "whipcord/whipcordkeep.RulesTurned", spec := "rulesTurned", unfollowed := true, recurses := true, apart := false }
def RulesTurnedSaid : Prop := rulesTurnedRow.holds Try.pinned (OpenSpec.ofChange rulesTurnedSpec)

/-- ITS FALSE NEIGHBOUR: 'it returns false'. Refute it at one input. -/
def rulesTurnedWrong : ChangeSpec := { name := "rulesTurned", fn := fun _ => fun
  | [d1, d2] => { results := [.lit (.bool false)], args := [d1, d2] }
  | _ => none }
def RulesTurnedWrongFalsely : Prop := rulesTurnedRow.holds Try.pinned (OpenSpec.ofChange rulesTurnedWrong)

/-- 'whipcordkeep.RulesJust': WHATEVER THE INPUT: true; the input reads as it did. -/
def rulesJustSpec : ChangeSpec := { name := "rulesJust", fn := fun _ => fun
  | [d1, d2] => { results := [.lit (.bool true)], args := [d1, d2] }
  | _ => none }
def rulesJustRow : OpenClaim := { program := "ytlcacocecdnpnaa", sum := "3c026d64db4df55e46f4777de5ab54215f9ac70b10d0729446ff04621ae5a5df", func := "whipcord/whipcordkeep.RulesJust", spec := "rulesJust", unfollowed := true, recurses := true, apart := false }
def RulesJustSaid : Prop := rulesJustRow.holds Try.pinned (OpenSpec.ofChange rulesJustSpec)

/-- ITS FALSE NEIGHBOUR: 'it returns false'. Refute it at one input. -/
def rulesJustWrong : ChangeSpec := { name := "rulesJust", fn := fun _ => fun
  | [d1, d2] => { results := [.lit (.bool false)], args := [d1, d2] }
  | _ => none }
def RulesJustWrongFalsely : Prop := rulesJustRow.holds Try.pinned (OpenSpec.ofChange rulesJustWrong)

/-- 'whipcordkeep.QueueCount': WHATEVER THE INPUT: true; the input reads as it did. -/
def queueCountSpec : ChangeSpec := { name := "queueCount", fn := fun _ => fun
  | [d] => { results := [.lit (.bool true)], args := [d] }
  | _ => none }
def queueCountRow : OpenClaim := { program := "ytlcacocecdnpnaa", sum := "3c026d64db4df55e46f4777de5ab54215f9ac70b10d0729446ff04621ae5a5df", func := "whipcord/whipcordkeep.QueueCount", spec := "queueCount", unfollowed := true, recurses := true, apart := false }
def QueueCountSaid : Prop := queueCountRow.holds Try.pinned (OpenSpec.ofChange queueCountSpec)

/-- ITS FALSE NEIGHBOUR: 'it returns false'. Refute it at one input. -/
def queueCountWrong : ChangeSpec := { name := "queueCount", fn := fun _ => fun
  | [d] => { results := [.lit (.bool false)], args := [d] }
  | _ => none }
def QueueCountWrongFalsely : Prop := queueCountRow.holds Try.pinned (OpenSpec.ofChange queueCountWrong)

/-- 'whipcordkeep.QueueParts': WHATEVER THE INPUT: true; the input reads as it did. -/
def queuePartsSpec : ChangeSpec := { name := "queueParts", fn := fun _ => fun
  | [d1, d2] => { results := [.lit (.bool true)], args := [d1, d2] }
  | _ => none }
def queuePartsRow : OpenClaim := { program := "ytlcacocecdnpnaa", sum := "3c026d64db4df55e46f4777de5ab54215f9ac70b10d0729446ff04621ae5a5df", func := "whipcord/whipcordkeep.QueueParts", spec := "queueParts", unfollowed := true, recurses := true, apart := false }
def QueuePartsSaid : Prop := queuePartsRow.holds Try.pinned (OpenSpec.ofChange queuePartsSpec)

/-- ITS FALSE NEIGHBOUR: 'it returns false'. Refute it at one input. -/
def queuePartsWrong : ChangeSpec := { name := "queueParts", fn := fun _ => fun
  | [d1, d2] => { results := [.lit (.bool false)], args := [d1, d2] }
  | _ => none }
def QueuePartsWrongFalsely : Prop := queuePartsRow.holds Try.pinned (OpenSpec.ofChange queuePartsWrong)

/-- 'whipcordkeep.QueueOnce': WHATEVER THE INPUT: true; the input reads as it did. -/
def queueOnceSpec : ChangeSpec := { name := "queueOnce", fn := fun _ => fun
  | [d] => { results := [.lit (.bool true)], args := [d] }
  | _ => none }
def queueOnceRow : OpenClaim := { program := "ytlcacocecdnpnaa", sum := "3c026d64db4df55e46f4777de5ab54215f9ac70b10d0729446ff04621ae5a5df", func := "whipcord/whipcordkeep.QueueOnce", spec := "queueOnce", unfollowed := true, recurses := true, apart := false }
def QueueOnceSaid : Prop := queueOnceRow.holds Try.pinned (OpenSpec.ofChange queueOnceSpec)

/-- ITS FALSE NEIGHBOUR: 'it returns false'. Refute it at one input. -/
def queueOnceWrong : ChangeSpec := { name := "queueOnce", fn := fun _ => fun
  | [d] => { results := [.lit (.bool false)], args := [d] }
  | _ => none }
def QueueOnceWrongFalsely : Prop := queueOnceRow.holds Try.pinned (OpenSpec.ofChange queueOnceWrong)

/-- 'whipcordkeep.ClassMore': WHATEVER THE INPUT: true; the input reads as it did. -/
def classMoreSpec : ChangeSpec := { name := "classMore", fn := fun _ => fun
  | [d1, d2, d3, d4] => { results := [.lit (.bool true)], args := [d1, d2, d3, d4] }
  | _ => none }
def classMoreRow : OpenClaim := { program := "ytlcacocecdnpnaa", sum := "3c026d64db4df55e46f4777de5ab54215f9ac70b10d0729446ff04621ae5a5df", func := "whipcord/whipcordkeep.ClassMore", spec := "classMore", unfollowed := true, recurses := true, apart := false }
def ClassMoreSaid : Prop := classMoreRow.holds Try.pinned (OpenSpec.ofChange classMoreSpec)

/-- ITS FALSE NEIGHBOUR: 'it returns false'. Refute it at one input. -/
def classMoreWrong : ChangeSpec := { name := "classMore", fn := fun _ => fun
  | [d1, d2, d3, d4] => { results := [.lit (.bool false)], args := [d1, d2, d3, d4] }
  | _ => none }
def ClassMoreWrongFalsely : Prop := classMoreRow.holds Try.pinned (OpenSpec.ofChange classMoreWrong)

/-- 'whipcordkeep.RulesIdle': WHATEVER THE INPUT: true; the input reads as it did. -/
def rulesIdleSpec : ChangeSpec := { name := "rulesIdle", fn := fun _ => fun
  | [d1, d2] => { results := [.lit (.bool true)], args := [d1, d2] }
  | _ => none }
def rulesIdleRow : OpenClaim := { program := "ytlcacocecdnpnaa", sum := "3c026d64db4df55e46f4777de5ab54215f9ac70b10d0729446ff04621ae5a5df", func := "whipcord/whipcordkeep.RulesIdle", spec := "rulesIdle", unfollowed := true, recurses := true, apart := false }
def RulesIdleSaid : Prop := rulesIdleRow.holds Try.pinned (OpenSpec.ofChange rulesIdleSpec)

/-- ITS FALSE NEIGHBOUR: 'it returns false'. Refute it at one input. -/
def rulesIdleWrong : ChangeSpec := { name := "rulesIdle", fn := fun _ => fun
  | [d1, d2] => { results := [.lit (.bool false)], args := [d1, d2] }
  | _ => none }
def RulesIdleWrongFalsely : Prop := rulesIdleRow.holds Try.pinned (OpenSpec.ofChange rulesIdleWrong)

/-- 'whipcordkeep.RulesTwice': WHATEVER THE INPUT: true; the input reads as it did. -/
def rulesTwiceSpec : ChangeSpec := { name := "rulesTwice", fn := fun _ => fun
  | [d1, d2, d3] => { results := [.lit (.bool true)], args := [d1, d2, d3] }
  | _ => none }
def rulesTwiceRow : OpenClaim := { program := "ytlcacocecdnpnaa", sum := "3c026d64db4df55e46f4777de5ab54215f9ac70b10d0729446ff04621ae5a5df", func := "whipcord/whipcordkeep.RulesTwice", spec := "rulesTwice", unfollowed := true, recurses := true, apart := false }
def RulesTwiceSaid : Prop := rulesTwiceRow.holds Try.pinned (OpenSpec.ofChange rulesTwiceSpec)

/-- ITS FALSE NEIGHBOUR: 'it returns false'. Refute it at one input. -/
def rulesTwiceWrong : ChangeSpec := { name := "rulesTwice", fn := fun _ => fun
  | [d1, d2, d3] => { results := [.lit (.bool false)], args := [d1, d2, d3] }
  | _ => none }
def RulesTwiceWrongFalsely : Prop := rulesTwiceRow.holds Try.pinned (OpenSpec.ofChange rulesTwiceWrong)

/-- 'whipcordkeep.ClassFirst': WHATEVER THE INPUT: true; the input reads as it did. -/
def classFirstSpec : ChangeSpec := { name := "classFirst", fn := fun _ => fun
  | [d1, d2, d3] => { results := [.lit (.bool true)], args := [d1, d2, d3] }
  | _ => none }
def classFirstRow : OpenClaim := { program := "ytlcacocecdnpnaa", sum := "3c026d64db4df55e46f4777de5ab54215f9ac70b10d0729446ff04621ae5a5df", func := "whipcord/whipcordkeep.ClassFirst", spec := "classFirst", unfollowed := true, recurses := true, apart := false }
def ClassFirstSaid : Prop := classFirstRow.holds Try.pinned (OpenSpec.ofChange classFirstSpec)

/-- ITS FALSE NEIGHBOUR: 'it returns false'. Refute it at one input. -/
def classFirstWrong : ChangeSpec := { name := "classFirst", fn := fun _ => fun
  | [d1, d2, d3] => { results := [.lit (.bool false)], args := [d1, d2, d3] }
  | _ => none }
def ClassFirstWrongFalsely : Prop := classFirstRow.holds Try.pinned (OpenSpec.ofChange classFirstWrong)

/-- 'whipcordkeep.ClassHidden': WHATEVER THE INPUT: true; the input reads as it did. -/
def classHiddenSpec : ChangeSpec := { name := "classHidden", fn := fun _ => fun
  | [d1, d2, d3, d4] => { results := [.lit (.bool true)], args := [d1, d2, d3, d4] }
  | _ => none }
def classHiddenRow : OpenClaim := { program := "ytlcacocecdnpnaa", sum := "3c026d64db4df55e46f4777de5ab54215f9ac70b10d0729446ff04621ae5a5df", func := "whipcord/whipcordkeep.ClassHidden", spec := "classHidden", unfollowed := true, recurses := true, apart := false }
def ClassHiddenSaid : Prop := classHiddenRow.holds Try.pinned (OpenSpec.ofChange classHiddenSpec)

/-- ITS FALSE NEIGHBOUR: 'it returns false'. Refute it at one input. -/
def classHiddenWrong : ChangeSpec := { name := "classHidden", fn := fun _ => fun
  | [d1, d2, d3, d4] => { results := [.lit (.bool false)], args := [d1, d2, d3, d4] }
  | _ => none }
def ClassHiddenWrongFalsely : Prop := classHiddenRow.holds Try.pinned (OpenSpec.ofChange classHiddenWrong)

/-- 'whipcordkeep.ClassTurned': WHATEVER THE INPUT: true; the input reads as it did. -/
def classTurnedSpec : ChangeSpec := { name := "classTurned", fn := fun _ => fun
  | [d1, d2, d3] => { results := [.lit (.bool true)], args := [d1, d2, d3] }
  | _ => none }
def classTurnedRow : OpenClaim := { program := "ytlcacocecdnpnaa", sum := "3c026d64db4df55e46f4777de5ab54215f9ac70b10d0729446ff04621ae5a5df", func := "whipcord/whipcordkeep.ClassTurned", spec := "classTurned", unfollowed := true, recurses := true, apart := false }
def ClassTurnedSaid : Prop := classTurnedRow.holds Try.pinned (OpenSpec.ofChange classTurnedSpec)

/-- ITS FALSE NEIGHBOUR: 'it returns false'. Refute it at one input. -/
def classTurnedWrong : ChangeSpec := { name := "classTurned", fn := fun _ => fun
  | [d1, d2, d3] => { results := [.lit (.bool false)], args := [d1, d2, d3] }
  | _ => none }
def ClassTurnedWrongFalsely : Prop := classTurnedRow.holds Try.pinned (OpenSpec.ofChange classTurnedWrong)

/- THE SECOND FORM. 'bulk': how many values and letters a reading holds, each counted each time it is reached (what is shared counts as often as it is met; a slice's spare places count too). A statement '..UptoSaid' is the law's where the arguments, and the package variables that the reading takes, are together of bulk at most 1048576: NARROWER than '..Said'. Prove '..Said' where nothing that the law and all that it calls make is longer than what came in: it says more and counts as full. Else prove '..UptoSaid'. A law counts once. -/
mutual
def uptoBulk {H : Type} : DataW H → Nat
  | .lit (.string bytes) => bytes.length + 1
  | .lit _ => 1
  | .nil => 1
  | .ptr d => uptoBulk d + 1
  | .slice elems spare => uptoBulkAll elems + uptoBulkAll spare + 1
  | .agg parts => uptoBulkAll parts + 1
  | .iface _ d => uptoBulk d + 1
  | .map entries => uptoBulkEntries entries + 1
  | .held _ => 1
def uptoBulkAll {H : Type} : List (DataW H) → Nat
  | [] => 0
  | d :: r => uptoBulk d + uptoBulkAll r
def uptoBulkEntries {H : Type} : List (Lit × DataW H) → Nat
  | [] => 0
  | x :: r => uptoBulkEntry x + uptoBulkEntries r
def uptoBulkEntry {H : Type} : Lit × DataW H → Nat
  | (.string bytes, d) => bytes.length + uptoBulk d + 1
  | (_, d) => uptoBulk d + 1
 end
def uptoSmall : (H : Type) → List (DataW H) → Bool := fun _ ds => decide (uptoBulkAll ds ≤ 1048576)
def OpenSpec.upto (s : _root_.Go.ChangeSpec) : _root_.Go.OpenSpec := { _root_.Go.OpenSpec.ofChange s with cond := some uptoSmall }

/-- 'whipcordkeep.ViaStep', WHERE WHAT IT READS IS OF BULK AT MOST 1048576: true; the input reads as it did. -/
def viaStepUptoRow : OpenClaim := { program := "ytlcacocecdnpnaa", sum := "3c026d64db4df55e46f4777de5ab54215f9ac70b10d0729446ff04621ae5a5df", func := "whipcord/whipcordkeep.ViaStep", spec := "viaStep", apart := false, narrowed := true }
def ViaStepUptoSaid : Prop := viaStepUptoRow.holds Try.pinned (OpenSpec.upto viaStepSpec)

/-- 'whipcordkeep.ViaMore', WHERE WHAT IT READS IS OF BULK AT MOST 1048576: true; the input reads as it did. -/
def viaMoreUptoRow : OpenClaim := { program := "ytlcacocecdnpnaa", sum := "3c026d64db4df55e46f4777de5ab54215f9ac70b10d0729446ff04621ae5a5df", func := "whipcord/whipcordkeep.ViaMore", spec := "viaMore", apart := false, narrowed := true }
def ViaMoreUptoSaid : Prop := viaMoreUptoRow.holds Try.pinned (OpenSpec.upto viaMoreSpec)

/-- 'whipcordkeep.ViaChain', WHERE WHAT IT READS IS OF BULK AT MOST 1048576: true; the input reads as it did. -/
def viaChainUptoRow : OpenClaim := { program := "ytlcacocecdnpnaa", sum := "3c026d64db4df55e46f4777de5ab54215f9ac70b10d0729446ff04621ae5a5df", func := "whipcord/whipcordkeep.ViaChain", spec := "viaChain", apart := false, narrowed := true }
def ViaChainUptoSaid : Prop := viaChainUptoRow.holds Try.pinned (OpenSpec.upto viaChainSpec)

/-- 'whipcordkeep.RulesSplit', WHERE WHAT IT READS IS OF BULK AT MOST 1048576: true; the input reads as it did. -/
def rulesSplitUptoRow : OpenClaim := { program := "ytlcacocecdnpnaa", sum := "3c026d64db4df55e46f4777de5ab54215f9ac70b10d0729446ff04621ae5a5df", func := "whipcord/whipcordkeep.RulesSplit", spec := "rulesSplit", unfollowed := true, recurses := true, apart := false, narrowed := true }
def RulesSplitUptoSaid : Prop := rulesSplitUptoRow.holds Try.pinned (OpenSpec.upto rulesSplitSpec)

/-- 'whipcordkeep.RulesTurned', WHERE WHAT IT READS IS OF BULK AT MOST 1048576: true; the input reads as it did. -/
def rulesTurnedUptoRow : OpenClaim := { program := "ytlcacocecdnpnaa", sum := "3c026d64db4df55e46f4777de5ab54215f9ac70b10d0729446ff04621ae5a5df", func := "whipcord/whipcordkeep.RulesTurned", spec := "rulesTurned", unfollowed := true, recurses := true, apart := false, narrowed := true }
def RulesTurnedUptoSaid : Prop := rulesTurnedUptoRow.holds Try.pinned (OpenSpec.upto rulesTurnedSpec)

/-- 'whipcordkeep.RulesJust', WHERE WHAT IT READS IS OF BULK AT MOST 1048576: true; the input reads as it did. -/
def rulesJustUptoRow : OpenClaim := { program := "ytlcacocecdnpnaa", sum := "3c026d64db4df55e46f4777de5ab54215f9ac70b10d0729446ff04621ae5a5df", func := "whipcord/whipcordkeep.RulesJust", spec := "rulesJust", unfollowed := true, recurses := true, apart := false, narrowed := true }
def RulesJustUptoSaid : Prop := rulesJustUptoRow.holds Try.pinned (OpenSpec.upto rulesJustSpec)

/-- 'whipcordkeep.QueueCount', WHERE WHAT IT READS IS OF BULK AT MOST 1048576: true; the input reads as it did. -/
def queueCountUptoRow : OpenClaim := { program := "ytlcacocecdnpnaa", sum := "3c026d64db4df55e46f4777de5ab54215f9ac70b10d0729446ff04621ae5a5df", func := "whipcord/whipcordkeep.QueueCount", spec := "queueCount", unfollowed := true, recurses := true, apart := false, narrowed := true }
def QueueCountUptoSaid : Prop := queueCountUptoRow.holds Try.pinned (OpenSpec.upto queueCountSpec)

/-- 'whipcordkeep.QueueParts', WHERE WHAT IT READS IS OF BULK AT MOST 1048576: true; the input reads as it did. -/
def queuePartsUptoRow : OpenClaim := { program := "ytlcacocecdnpnaa", sum := "3c026d64db4df55e46f4777de5ab54215f9ac70b10d0729446ff04621ae5a5df", func := "whipcord/whipcordkeep.QueueParts", spec := "queueParts", unfollowed := true, recurses := true, apart := false, narrowed := true }
def QueuePartsUptoSaid : Prop := queuePartsUptoRow.holds Try.pinned (OpenSpec.upto queuePartsSpec)

/-- 'whipcordkeep.QueueOnce', WHERE WHAT IT READS IS OF BULK AT MOST 1048576: true; the input reads as it did. -/
def queueOnceUptoRow : OpenClaim := { program := "ytlcacocecdnpnaa", sum := "3c026d64db4df55e46f4777de5ab54215f9ac70b10d0729446ff04621ae5a5df", func := "whipcord/whipcordkeep.QueueOnce", spec := "queueOnce", unfollowed := true, recurses := true, apart := false, narrowed := true }
def QueueOnceUptoSaid : Prop := queueOnceUptoRow.holds Try.pinned (OpenSpec.upto queueOnceSpec)

/-- 'whipcordkeep.ClassMore', WHERE WHAT IT READS IS OF BULK AT MOST 1048576: true; the input reads as it did. -/
def classMoreUptoRow : OpenClaim := { program := "ytlcacocecdnpnaa", sum := "3c026d64db4df55e46f4777de5ab54215f9ac70b10d0729446ff04621ae5a5df", func := "whipcord/whipcordkeep.ClassMore", spec := "classMore", unfollowed := true, recurses := true, apart := false, narrowed := true }
def ClassMoreUptoSaid : Prop := classMoreUptoRow.holds Try.pinned (OpenSpec.upto classMoreSpec)

/-- 'whipcordkeep.RulesIdle', WHERE WHAT IT READS IS OF BULK AT MOST 1048576: true; the input reads as it did. -/
def rulesIdleUptoRow : OpenClaim := { program := "ytlcacocecdnpnaa", sum := "3c026d64db4df55e46f4777de5ab54215f9ac70b10d0729446ff04621ae5a5df", func := "whipcord/whipcordkeep.RulesIdle", spec := "rulesIdle", unfollowed := true, recurses := true, apart := false, narrowed := true }
def RulesIdleUptoSaid : Prop := rulesIdleUptoRow.holds Try.pinned (OpenSpec.upto rulesIdleSpec)

/-- 'whipcordkeep.RulesTwice', WHERE WHAT IT READS IS OF BULK AT MOST 1048576: true; the input reads as it did. -/
def rulesTwiceUptoRow : OpenClaim := { program := "ytlcacocecdnpnaa", sum := "3c026d64db4df55e46f4777de5ab54215f9ac70b10d0729446ff04621ae5a5df", func := "whipcord/whipcordkeep.RulesTwice", spec := "rulesTwice", unfollowed := true, recurses := true, apart := false, narrowed := true }
def RulesTwiceUptoSaid : Prop := rulesTwiceUptoRow.holds Try.pinned (OpenSpec.upto rulesTwiceSpec)

/-- 'whipcordkeep.ClassFirst', WHERE WHAT IT READS IS OF BULK AT MOST 1048576: true; the input reads as it did. -/
def classFirstUptoRow : OpenClaim := { program := "ytlcacocecdnpnaa", sum := "3c026d64db4df55e46f4777de5ab54215f9ac70b10d0729446ff04621ae5a5df", func := "whipcord/whipcordkeep.ClassFirst", spec := "classFirst", unfollowed := true, recurses := true, apart := false, narrowed := true }
def ClassFirstUptoSaid : Prop := classFirstUptoRow.holds Try.pinned (OpenSpec.upto classFirstSpec)

/-- 'whipcordkeep.ClassHidden', WHERE WHAT IT READS IS OF BULK AT MOST 1048576: true; the input reads as it did. -/
def classHiddenUptoRow : OpenClaim := { program := "ytlcacocecdnpnaa", sum := "3c026d64db4df55e46f4777de5ab54215f9ac70b10d0729446ff04621ae5a5df", func := "whipcord/whipcordkeep.ClassHidden", spec := "classHidden", unfollowed := true, recurses := true, apart := false, narrowed := true }
def ClassHiddenUptoSaid : Prop := classHiddenUptoRow.holds Try.pinned (OpenSpec.upto classHiddenSpec)

/-- 'whipcordkeep.ClassTurned', WHERE WHAT IT READS IS OF BULK AT MOST 1048576: true; the input reads as it did. -/
def classTurnedUptoRow : OpenClaim := { program := "ytlcacocecdnpnaa", sum := "3c026d64db4df55e46f4777de5ab54215f9ac70b10d0729446ff04621ae5a5df", func := "whipcord/whipcordkeep.ClassTurned", spec := "classTurned", unfollowed := true, recurses := true, apart := false, narrowed := true }
def ClassTurnedUptoSaid : Prop := classTurnedUptoRow.holds Try.pinned (OpenSpec.upto classTurnedSpec)

end Rows
end Go.Proofs.Ytlcacocecdnpnaa
