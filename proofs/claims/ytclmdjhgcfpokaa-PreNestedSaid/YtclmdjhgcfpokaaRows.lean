/-
  No cell of these rows narrows 'for every input' (looked for: loops, veiled, ifaces, maps, wideKeys, modest, calm, conditions, laid).
  DERIVED. THE GIVEN ROWS OF THIS SEAT. 12 by the template 'for every input the law returns true; each argument reads behind the call as it read before'; 0 by the template 'total and deterministic' (their statements: YtclmdjhgcfpokaaTotals.lean).
  GIVEN WITH THE SEED: the statements are not yours to turn. If you find one false, say at which input.
  Laid BY PROGRAM, IN A SANDBOX (cutbox-rows.mjs): the forced cells as the released guide's own fill.sh prints them over the translation c5f7970cae7a1165… (all of the seat's roots in one cut). By AI agents, Wed Nov 11 2026. No macro, syntax, notation, axiom, sorry.
-/
import Derived.Test.YtclmdjhgcfpokaaChecked
import GoSem.Claim
import GoSem.ClaimJoined
import GoSem.ClaimMapViews
import Derived.JoinedTies
import Derived.KernelRfl
namespace Go.Proofs.Ytclmdjhgcfpokaa
/- THE CELL 'sum', in the pinned program and in every row, IS THE sha256 OF THE DUMP (.gsa) THAT YtclmdjhgcfpokaaProg.lean LOADS. Nothing in Lean hashes anything: it is a label: what it is worth is what the hold of that sum in a sandbox is worth. -/
noncomputable def Try.pinned : Pinned := { name := "ytclmdjhgcfpokaa", sum := "c5f7970cae7a116537a101fe26476cf3d828700094ae1615e07171da3b8e21c0", checked := Try.checked }
namespace Rows
def none {H : Type} : Left H := { results := [], args := [] }

/-- 'whipcordkeep.AddrSpelt': WHATEVER THE INPUT: true; the input reads as it did. -/
def addrSpeltSpec : ChangeSpec := { name := "addrSpelt", fn := fun _ => fun
  | [d1, d2] => { results := [.lit (.bool true)], args := [d1, d2] }
  | _ => none }
def addrSpeltRow : OpenClaim := { program := "ytclmdjhgcfpokaa", sum := "c5f7970cae7a116537a101fe26476cf3d828700094ae1615e07171da3b8e21c0", func := "whipcord/whipcordkeep.AddrSpelt", spec := "addrSpelt", apart := false }
def AddrSpeltSaid : Prop := addrSpeltRow.holds Try.pinned (OpenSpec.ofChange addrSpeltSpec)

/-- ITS FALSE NEIGHBOUR: 'it returns false'. Refute it at one input. -/
def addrSpeltWrong : ChangeSpec := { name := "addrSpelt", fn := fun _ => fun
  | [d1, d2] => { results := [.lit (.bool false)], args := [d1, d2] }
  | _ => none }
def AddrSpeltWrongFalsely : Prop := addrSpeltRow.holds Try.pinned (OpenSpec.ofChange addrSpeltWrong)

/-- 'whipcordkeep.AddrThere': WHATEVER THE INPUT: true; the input reads as it did. -/
def addrThereSpec : ChangeSpec := { name := "addrThere", fn := fun _ => fun
  | [d1, d2, d3] => { results := [.lit (.bool true)], args := [d1, d2, d3] }
  | _ => none }
def addrThereRow : OpenClaim := { program := "ytclmdjhgcfpokaa", sum := "c5f7970cae7a116537a101fe26476cf3d828700094ae1615e07171da3b8e21c0", func := "whipcord/whipcordkeep.AddrThere", spec := "addrThere", inPlace := ["math/bits.Add64", "math/bits.Sub64"], apart := false }
def AddrThereSaid : Prop := addrThereRow.holds Try.pinned (OpenSpec.ofChange addrThereSpec)

/-- ITS FALSE NEIGHBOUR: 'it returns false'. Refute it at one input. -/
def addrThereWrong : ChangeSpec := { name := "addrThere", fn := fun _ => fun
  | [d1, d2, d3] => { results := [.lit (.bool false)], args := [d1, d2, d3] }
  | _ => none }
def AddrThereWrongFalsely : Prop := addrThereRow.holds Try.pinned (OpenSpec.ofChange addrThereWrong)

/-- 'whipcordkeep.ViaStep': WHATEVER THE INPUT: true; the input reads as it did. -/
def viaStepSpec : ChangeSpec := { name := "viaStep", fn := fun _ => fun
  | [d1, d2, d3] => { results := [.lit (.bool true)], args := [d1, d2, d3] }
  | _ => none }
def viaStepRow : OpenClaim := { program := "ytclmdjhgcfpokaa", sum := "c5f7970cae7a116537a101fe26476cf3d828700094ae1615e07171da3b8e21c0", func := "whipcord/whipcordkeep.ViaStep", spec := "viaStep", apart := false }
def ViaStepSaid : Prop := viaStepRow.holds Try.pinned (OpenSpec.ofChange viaStepSpec)

/-- ITS FALSE NEIGHBOUR: 'it returns false'. Refute it at one input. -/
def viaStepWrong : ChangeSpec := { name := "viaStep", fn := fun _ => fun
  | [d1, d2, d3] => { results := [.lit (.bool false)], args := [d1, d2, d3] }
  | _ => none }
def ViaStepWrongFalsely : Prop := viaStepRow.holds Try.pinned (OpenSpec.ofChange viaStepWrong)

/-- 'whipcordkeep.AddrSteps': WHATEVER THE INPUT: true; the input reads as it did. -/
def addrStepsSpec : ChangeSpec := { name := "addrSteps", fn := fun _ => fun
  | [d1, d2] => { results := [.lit (.bool true)], args := [d1, d2] }
  | _ => none }
def addrStepsRow : OpenClaim := { program := "ytclmdjhgcfpokaa", sum := "c5f7970cae7a116537a101fe26476cf3d828700094ae1615e07171da3b8e21c0", func := "whipcord/whipcordkeep.AddrSteps", spec := "addrSteps", inPlace := ["math/bits.Add64", "math/bits.Sub64"], apart := false }
def AddrStepsSaid : Prop := addrStepsRow.holds Try.pinned (OpenSpec.ofChange addrStepsSpec)

/-- ITS FALSE NEIGHBOUR: 'it returns false'. Refute it at one input. -/
def addrStepsWrong : ChangeSpec := { name := "addrSteps", fn := fun _ => fun
  | [d1, d2] => { results := [.lit (.bool false)], args := [d1, d2] }
  | _ => none }
def AddrStepsWrongFalsely : Prop := addrStepsRow.holds Try.pinned (OpenSpec.ofChange addrStepsWrong)

/-- 'whipcordkeep.PreChain': WHATEVER THE INPUT: true; the input reads as it did. -/
def preChainSpec : ChangeSpec := { name := "preChain", fn := fun _ => fun
  | [d1, d2, d3, d4] => { results := [.lit (.bool true)], args := [d1, d2, d3, d4] }
  | _ => none }
def preChainRow : OpenClaim := { program := "ytclmdjhgcfpokaa", sum := "c5f7970cae7a116537a101fe26476cf3d828700094ae1615e07171da3b8e21c0", func := "whipcord/whipcordkeep.PreChain", spec := "preChain", unfollowed := true, recurses := true, apart := false }
def PreChainSaid : Prop := preChainRow.holds Try.pinned (OpenSpec.ofChange preChainSpec)

/-- ITS FALSE NEIGHBOUR: 'it returns false'. Refute it at one input. -/
def preChainWrong : ChangeSpec := { name := "preChain", fn := fun _ => fun
  | [d1, d2, d3, d4] => { results := [.lit (.bool false)], args := [d1, d2, d3, d4] }
  | _ => none }
def PreChainWrongFalsely : Prop := preChainRow.holds Try.pinned (OpenSpec.ofChange preChainWrong)

/-- 'whipcordkeep.RulesSplit': WHATEVER THE INPUT: true; the input reads as it did. -/
def rulesSplitSpec : ChangeSpec := { name := "rulesSplit", fn := fun _ => fun
  | [d1, d2, d3] => { results := [.lit (.bool true)], args := [d1, d2, d3] }
  | _ => none }
def rulesSplitRow : OpenClaim := { program := "ytclmdjhgcfpokaa", sum := "c5f7970cae7a116537a101fe26476cf3d828700094ae1615e07171da3b8e21c0", func := "whipcord/whipcordkeep.RulesSplit", spec := "rulesSplit", unfollowed := true, recurses := true, apart := false }
def RulesSplitSaid : Prop := rulesSplitRow.holds Try.pinned (OpenSpec.ofChange rulesSplitSpec)

/-- ITS FALSE NEIGHBOUR: 'it returns false'. Refute it at one input. -/
def rulesSplitWrong : ChangeSpec := { name := "rulesSplit", fn := fun _ => fun
  | [d1, d2, d3] => { results := [.lit (.bool false)], args := [d1, d2, d3] }
  | _ => none }
def RulesSplitWrongFalsely : Prop := rulesSplitRow.holds Try.pinned (OpenSpec.ofChange rulesSplitWrong)

/-- 'whipcordkeep.RulesTurned': WHATEVER THE INPUT: true; the input reads as it did. -/
def rulesTurnedSpec : ChangeSpec := { name := "rulesTurned", fn := fun _ => fun
  | [d1, d2] => { results := [.lit (.bool true)], args := [d1, d2] }
  | _ => none }
def rulesTurnedRow : OpenClaim := { program := "ytclmdjhgcfpokaa", sum := "c5f7970cae7a116537a101fe26476cf3d828700094ae1615e07171da3b8e21c0", func := "whipcord/whipcordkeep.RulesTurned", spec := "rulesTurned", unfollowed := true, recurses := true, apart := false }
def RulesTurnedSaid : Prop := rulesTurnedRow.holds Try.pinned (OpenSpec.ofChange rulesTurnedSpec)

/-- ITS FALSE NEIGHBOUR: 'it returns false'. Refute it at one input. -/
def rulesTurnedWrong : ChangeSpec := { name := "rulesTurned", fn := fun _ => fun
  | [d1, d2] => { results := [.lit (.bool false)], args := [d1, d2] }
  | _ => none }
def RulesTurnedWrongFalsely : Prop := rulesTurnedRow.holds Try.pinned (OpenSpec.ofChange rulesTurnedWrong)

/-- 'whipcordkeep.RulesJust': WHATEVER THE INPUT: true; the input reads as it did. -/
def rulesJustSpec : ChangeSpec := { name := "rulesJust", fn := fun _ => fun
  | [d1, d2] => { results := [.lit (.bool true)], args := [d1, d2] }
  | _ => none }
def rulesJustRow : OpenClaim := { program := "ytclmdjhgcfpokaa", sum := "c5f7970cae7a116537a101fe26476cf3d828700094ae1615e07171da3b8e21c0", func := "whipcord/whipcordkeep.RulesJust", spec := "rulesJust", unfollowed := true, recurses := true, apart := false }
def RulesJustSaid : Prop := rulesJustRow.holds Try.pinned (OpenSpec.ofChange rulesJustSpec)

/-- ITS FALSE NEIGHBOUR: 'it returns false'. Refute it at one input. -/
def rulesJustWrong : ChangeSpec := { name := "rulesJust", fn := fun _ => fun
  | [d1, d2] => { results := [.lit (.bool false)], args := [d1, d2] }
  | _ => none }
def RulesJustWrongFalsely : Prop := rulesJustRow.holds Try.pinned (OpenSpec.ofChange rulesJustWrong)

/-- 'whipcordkeep.PreSize': WHATEVER THE INPUT: true; the input reads as it did. -/
def preSizeSpec : ChangeSpec := { name := "preSize", fn := fun _ => fun
  | [d1, d2] => { results := [.lit (.bool true)], args := [d1, d2] }
  | _ => none }
def preSizeRow : OpenClaim := { program := "ytclmdjhgcfpokaa", sum := "c5f7970cae7a116537a101fe26476cf3d828700094ae1615e07171da3b8e21c0", func := "whipcord/whipcordkeep.PreSize", spec := "preSize", inPlace := ["math/bits.Add64", "math/bits.Sub64"], unfollowed := true, recurses := true, apart := false }
def PreSizeSaid : Prop := preSizeRow.holds Try.pinned (OpenSpec.ofChange preSizeSpec)

/-- ITS FALSE NEIGHBOUR: 'it returns false'. Refute it at one input. -/
def preSizeWrong : ChangeSpec := { name := "preSize", fn := fun _ => fun
  | [d1, d2] => { results := [.lit (.bool false)], args := [d1, d2] }
  | _ => none }
def PreSizeWrongFalsely : Prop := preSizeRow.holds Try.pinned (OpenSpec.ofChange preSizeWrong)

/-- 'whipcordkeep.PreMeet': WHATEVER THE INPUT: true; the input reads as it did. -/
def preMeetSpec : ChangeSpec := { name := "preMeet", fn := fun _ => fun
  | [d1, d2, d3, d4, d5, d6] => { results := [.lit (.bool true)], args := [d1, d2, d3, d4, d5, d6] }
  | _ => none }
def preMeetRow : OpenClaim := { program := "ytclmdjhgcfpokaa", sum := "c5f7970cae7a116537a101fe26476cf3d828700094ae1615e07171da3b8e21c0", func := "whipcord/whipcordkeep.PreMeet", spec := "preMeet", unfollowed := true, recurses := true, apart := false }
def PreMeetSaid : Prop := preMeetRow.holds Try.pinned (OpenSpec.ofChange preMeetSpec)

/-- ITS FALSE NEIGHBOUR: 'it returns false'. Refute it at one input. -/
def preMeetWrong : ChangeSpec := { name := "preMeet", fn := fun _ => fun
  | [d1, d2, d3, d4, d5, d6] => { results := [.lit (.bool false)], args := [d1, d2, d3, d4, d5, d6] }
  | _ => none }
def PreMeetWrongFalsely : Prop := preMeetRow.holds Try.pinned (OpenSpec.ofChange preMeetWrong)

/-- 'whipcordkeep.PreNested': WHATEVER THE INPUT: true; the input reads as it did. -/
def preNestedSpec : ChangeSpec := { name := "preNested", fn := fun _ => fun
  | [d1, d2, d3, d4] => { results := [.lit (.bool true)], args := [d1, d2, d3, d4] }
  | _ => none }
def preNestedRow : OpenClaim := { program := "ytclmdjhgcfpokaa", sum := "c5f7970cae7a116537a101fe26476cf3d828700094ae1615e07171da3b8e21c0", func := "whipcord/whipcordkeep.PreNested", spec := "preNested", unfollowed := true, recurses := true, apart := false }
def PreNestedSaid : Prop := preNestedRow.holds Try.pinned (OpenSpec.ofChange preNestedSpec)

/-- ITS FALSE NEIGHBOUR: 'it returns false'. Refute it at one input. -/
def preNestedWrong : ChangeSpec := { name := "preNested", fn := fun _ => fun
  | [d1, d2, d3, d4] => { results := [.lit (.bool false)], args := [d1, d2, d3, d4] }
  | _ => none }
def PreNestedWrongFalsely : Prop := preNestedRow.holds Try.pinned (OpenSpec.ofChange preNestedWrong)

/-- 'whipcordkeep.PreHalved': WHATEVER THE INPUT: true; the input reads as it did. -/
def preHalvedSpec : ChangeSpec := { name := "preHalved", fn := fun _ => fun
  | [d1, d2, d3] => { results := [.lit (.bool true)], args := [d1, d2, d3] }
  | _ => none }
def preHalvedRow : OpenClaim := { program := "ytclmdjhgcfpokaa", sum := "c5f7970cae7a116537a101fe26476cf3d828700094ae1615e07171da3b8e21c0", func := "whipcord/whipcordkeep.PreHalved", spec := "preHalved", inPlace := ["math/bits.Add64", "math/bits.Sub64"], unfollowed := true, recurses := true, apart := false }
def PreHalvedSaid : Prop := preHalvedRow.holds Try.pinned (OpenSpec.ofChange preHalvedSpec)

/-- ITS FALSE NEIGHBOUR: 'it returns false'. Refute it at one input. -/
def preHalvedWrong : ChangeSpec := { name := "preHalved", fn := fun _ => fun
  | [d1, d2, d3] => { results := [.lit (.bool false)], args := [d1, d2, d3] }
  | _ => none }
def PreHalvedWrongFalsely : Prop := preHalvedRow.holds Try.pinned (OpenSpec.ofChange preHalvedWrong)

/- THE SECOND FORM. 'bulk': how many values and letters a reading holds, each counted each time it is reached (what is shared counts as often as it is met; a slice's spare places count too). A statement '..UptoSaid' is the law's where the arguments, and the package variables that the reading takes, are together of bulk at most 1048576: NARROWER than '..Said'. Prove '..Said' where nothing that the law and all that it calls make is longer than what came in: it says more and counts as full. Else prove '..UptoSaid'. A law counts once. -/
mutual
def uptoBulk {H : Type} : DataW H → Nat
  | .lit (.string bytes) => bytes.length + 1
  | .lit _ => 1
  | .nil => 1
  | .ptr d => uptoBulk d + 1
  | .slice elems spare => uptoBulkAll elems + uptoBulkAll spare + 1
  | .agg parts => uptoBulkAll parts + 1
  | .iface _ d => uptoBulk d + 1
  | .map entries => uptoBulkEntries entries + 1
  | .held _ => 1
def uptoBulkAll {H : Type} : List (DataW H) → Nat
  | [] => 0
  | d :: r => uptoBulk d + uptoBulkAll r
def uptoBulkEntries {H : Type} : List (Lit × DataW H) → Nat
  | [] => 0
  | x :: r => uptoBulkEntry x + uptoBulkEntries r
def uptoBulkEntry {H : Type} : Lit × DataW H → Nat
  | (.string bytes, d) => bytes.length + uptoBulk d + 1
  | (_, d) => uptoBulk d + 1
 end
def uptoSmall : (H : Type) → List (DataW H) → Bool := fun _ ds => decide (uptoBulkAll ds ≤ 1048576)
def OpenSpec.upto (s : _root_.Go.ChangeSpec) : _root_.Go.OpenSpec := { _root_.Go.OpenSpec.ofChange s with cond := some uptoSmall }

/-- 'whipcordkeep.AddrSpelt', WHERE WHAT IT READS IS OF BULK AT MOST 1048576: true; the input reads as it did. -/
def addrSpeltUptoRow : OpenClaim := { program := "ytclmdjhgcfpokaa", sum := "c5f7970cae7a116537a101fe26476cf3d828700094ae1615e07171da3b8e21c0", func := "whipcord/whipcordkeep.AddrSpelt", spec := "addrSpelt", apart := false, narrowed := true }
def AddrSpeltUptoSaid : Prop := addrSpeltUptoRow.holds Try.pinned (OpenSpec.upto addrSpeltSpec)

/-- 'whipcordkeep.AddrThere', WHERE WHAT IT READS IS OF BULK AT MOST 1048576: true; the input reads as it did. -/
def addrThereUptoRow : OpenClaim := { program := "ytclmdjhgcfpokaa", sum := "c5f7970cae7a116537a101fe26476cf3d828700094ae1615e07171da3b8e21c0", func := "whipcord/whipcordkeep.AddrThere", spec := "addrThere", inPlace := ["math/bits.Add64", "math/bits.Sub64"], apart := false, narrowed := true }
def AddrThereUptoSaid : Prop := addrThereUptoRow.holds Try.pinned (OpenSpec.upto addrThereSpec)

/-- 'whipcordkeep.ViaStep', WHERE WHAT IT READS IS OF BULK AT MOST 1048576: true; the input reads as it did. -/
def viaStepUptoRow : OpenClaim := { program := "ytclmdjhgcfpokaa", sum := "c5f7970cae7a116537a101fe26476cf3d828700094ae1615e07171da3b8e21c0", func := "whipcord/whipcordkeep.ViaStep", spec := "viaStep", apart := false, narrowed := true }
def ViaStepUptoSaid : Prop := viaStepUptoRow.holds Try.pinned (OpenSpec.upto viaStepSpec)

/-- 'whipcordkeep.AddrSteps', WHERE WHAT IT READS IS OF BULK AT MOST 1048576: true; the input reads as it did. -/
def addrStepsUptoRow : OpenClaim := { program := "ytclmdjhgcfpokaa", sum := "c5f7970cae7a116537a101fe26476cf3d828700094ae1615e07171da3b8e21c0", func := "whipcord/whipcordkeep.AddrSteps", spec := "addrSteps", inPlace := ["math/bits.Add64", "math/bits.Sub64"], apart := false, narrowed := true }
def AddrStepsUptoSaid : Prop := addrStepsUptoRow.holds Try.pinned (OpenSpec.upto addrStepsSpec)

/-- 'whipcordkeep.PreChain', WHERE WHAT IT READS IS OF BULK AT MOST 1048576: true; the input reads as it did. -/
def preChainUptoRow : OpenClaim := { program := "ytclmdjhgcfpokaa", sum := "c5f7970cae7a116537a101fe26476cf3d828700094ae1615e07171da3b8e21c0", func := "whipcord/whipcordkeep.PreChain", spec := "preChain", unfollowed := true, recurses := true, apart := false, narrowed := true }
def PreChainUptoSaid : Prop := preChainUptoRow.holds Try.pinned (OpenSpec.upto preChainSpec)

/-- 'whipcordkeep.RulesSplit', WHERE WHAT IT READS IS OF BULK AT MOST 1048576: true; the input reads as it did. -/
def rulesSplitUptoRow : OpenClaim := { program := "ytclmdjhgcfpokaa", sum := "c5f7970cae7a116537a101fe26476cf3d828700094ae1615e07171da3b8e21c0", func := "whipcord/whipcordkeep.RulesSplit", spec := "rulesSplit", unfollowed := true, recurses := true, apart := false, narrowed := true }
def RulesSplitUptoSaid : Prop := rulesSplitUptoRow.holds Try.pinned (OpenSpec.upto rulesSplitSpec)

/-- 'whipcordkeep.RulesTurned', WHERE WHAT IT READS IS OF BULK AT MOST 1048576: true; the input reads as it did. -/
def rulesTurnedUptoRow : OpenClaim := { program := "ytclmdjhgcfpokaa", sum := "c5f7970cae7a116537a101fe26476cf3d828700094ae1615e07171da3b8e21c0", func := "whipcord/whipcordkeep.RulesTurned", spec := "rulesTurned", unfollowed := true, recurses := true, apart := false, narrowed := true }
def RulesTurnedUptoSaid : Prop := rulesTurnedUptoRow.holds Try.pinned (OpenSpec.upto rulesTurnedSpec)

/-- 'whipcordkeep.RulesJust', WHERE WHAT IT READS IS OF BULK AT MOST 1048576: true; the input reads as it did. -/
def rulesJustUptoRow : OpenClaim := { program := "ytclmdjhgcfpokaa", sum := "c5f7970cae7a116537a101fe26476cf3d828700094ae1615e07171da3b8e21c0", func := "whipcord/whipcordkeep.RulesJust", spec := "rulesJust", unfollowed := true, recurses := true, apart := false, narrowed := true }
def RulesJustUptoSaid : Prop := rulesJustUptoRow.holds Try.pinned (OpenSpec.upto rulesJustSpec)

/-- 'whipcordkeep.PreSize', WHERE WHAT IT READS IS OF BULK AT MOST 1048576: true; the input reads as it did. -/
def preSizeUptoRow : OpenClaim := { program := "ytclmdjhgcfpokaa", sum := "c5f7970cae7a116537a101fe26476cf3d828700094ae1615e07171da3b8e21c0", func := "whipcord/whipcordkeep.PreSize", spec := "preSize", inPlace := ["math/bits.Add64", "math/bits.Sub64"], unfollowed := true, recurses := true, apart := false, narrowed := true }
def PreSizeUptoSaid : Prop := preSizeUptoRow.holds Try.pinned (OpenSpec.upto preSizeSpec)

/-- 'whipcordkeep.PreMeet', WHERE WHAT IT READS IS OF BULK AT MOST 1048576: true; the input reads as it did. -/
def preMeetUptoRow : OpenClaim := { program := "ytclmdjhgcfpokaa", sum := "c5f7970cae7a116537a101fe26476cf3d828700094ae1615e07171da3b8e21c0", func := "whipcord/whipcordkeep.PreMeet", spec := "preMeet", unfollowed := true, recurses := true, apart := false, narrowed := true }
def PreMeetUptoSaid : Prop := preMeetUptoRow.holds Try.pinned (OpenSpec.upto preMeetSpec)

/-- 'whipcordkeep.PreNested', WHERE WHAT IT READS IS OF BULK AT MOST 1048576: true; the input reads as it did. -/
def preNestedUptoRow : OpenClaim := { program := "ytclmdjhgcfpokaa", sum := "c5f7970cae7a116537a101fe26476cf3d828700094ae1615e07171da3b8e21c0", func := "whipcord/whipcordkeep.PreNested", spec := "preNested", unfollowed := true, recurses := true, apart := false, narrowed := true }
def PreNestedUptoSaid : Prop := preNestedUptoRow.holds Try.pinned (OpenSpec.upto preNestedSpec)

/-- 'whipcordkeep.PreHalved', WHERE WHAT IT READS IS OF BULK AT MOST 1048576: true; the input reads as it did. -/
def preHalvedUptoRow : OpenClaim := { program := "ytclmdjhgcfpokaa", sum := "c5f7970cae7a116537a101fe26476cf3d828700094ae1615e07171da3b8e21c0", func := "whipcord/whipcordkeep.PreHalved", spec := "preHalved", inPlace := ["math/bits.Add64", "math/bits.Sub64"], unfollowed := true, recurses := true, apart := false, narrowed := true }
def PreHalvedUptoSaid : Prop := preHalvedUptoRow.holds Try.pinned (OpenSpec.upto preHalvedSpec)

end Rows
end Go.Proofs.Ytclmdjhgcfpokaa
