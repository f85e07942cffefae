/-
  No cell of these rows narrows 'for every input' (looked for: loops, veiled, ifaces, maps, wideKeys, modest, calm, conditions, laid).
  DERIVED. THE GIVEN ROWS OF THIS SEAT. 12 by the template 'for every input the law returns true; each argument reads behind the call as it read before'; 0 by the template 'total and deterministic' (their statements: YtllemhknmleklaaTotals.lean).
  GIVEN WITH THE SEED: the statements are not yours to turn. If you find one false, say at which input.
  Laid BY PROGRAM, IN A SANDBOX (cutbox-rows.mjs): the forced cells as the released guide's own fill.sh prints them over the translation 2a96085324717c65… (all of the seat's roots in one cut). By AI agents, Wed Nov 11 2026. No macro, syntax, notation, axiom, sorry.
-/
import Derived.Test.YtllemhknmleklaaChecked
import GoSem.Claim
import GoSem.ClaimJoined
import GoSem.ClaimMapViews
import Derived.JoinedTies
import Derived.KernelRfl
namespace Go.Proofs.Ytllemhknmleklaa
/- THE CELL 'sum', in the pinned program and in every row, IS THE sha256 OF THE DUMP (.gsa) THAT YtllemhknmleklaaProg.lean LOADS. Nothing in Lean hashes anything: it is a label: what it is worth is what the hold of that sum in a sandbox is worth. -/
noncomputable def Try.pinned : Pinned := { name := "ytllemhknmleklaa", sum := "2a96085324717c653eda3a70679a95b78b08e213891bca5c8ae632ab1cfe275f", checked := Try.checked }
namespace Rows
def none {H : Type} : Left H := { results := [], args := [] }

/-- 'whipcordtop.TopQueue': WHATEVER THE INPUT: true; the input reads as it did. -/
def topQueueSpec : ChangeSpec := { name := "topQueue", fn := fun _ => fun
  | [d1, d2] => { results := [.lit (.bool true)], args := [d1, d2] }
  | _ => none }
def topQueueRow : OpenClaim := { program := "ytllemhknmleklaa", sum := "2a96085324717c653eda3a70679a95b78b08e213891bca5c8ae632ab1cfe275f", func := "whipcord/whipcordtop.TopQueue", spec := "topQueue", unfollowed := true, recurses := true, plainKeys := false, apart := false }
def TopQueueSaid : Prop := topQueueRow.holds Try.pinned (OpenSpec.ofChange topQueueSpec)

/-- ITS FALSE NEIGHBOUR: 'it returns false'. Refute it at one input. -/
def topQueueWrong : ChangeSpec := { name := "topQueue", fn := fun _ => fun
  | [d1, d2] => { results := [.lit (.bool false)], args := [d1, d2] }
  | _ => none }
def TopQueueWrongFalsely : Prop := topQueueRow.holds Try.pinned (OpenSpec.ofChange topQueueWrong)

/-- 'whipcordtop.TopHas': WHATEVER THE INPUT: true; the input reads as it did. -/
def topHasSpec : ChangeSpec := { name := "topHas", fn := fun _ => fun
  | [d1, d2] => { results := [.lit (.bool true)], args := [d1, d2] }
  | _ => none }
def topHasRow : OpenClaim := { program := "ytllemhknmleklaa", sum := "2a96085324717c653eda3a70679a95b78b08e213891bca5c8ae632ab1cfe275f", func := "whipcord/whipcordtop.TopHas", spec := "topHas", inPlace := ["math/bits.Add64", "math/bits.Sub64"], unfollowed := true, recurses := true, plainKeys := false, apart := false }
def TopHasSaid : Prop := topHasRow.holds Try.pinned (OpenSpec.ofChange topHasSpec)

/-- ITS FALSE NEIGHBOUR: 'it returns false'. Refute it at one input. -/
def topHasWrong : ChangeSpec := { name := "topHas", fn := fun _ => fun
  | [d1, d2] => { results := [.lit (.bool false)], args := [d1, d2] }
  | _ => none }
def TopHasWrongFalsely : Prop := topHasRow.holds Try.pinned (OpenSpec.ofChange topHasWrong)

/-- 'whipcordkeep.ViaAll': WHATEVER THE INPUT: true; the input reads as it did. -/
def viaAllSpec : ChangeSpec := { name := "viaAll", fn := fun _ => fun
  | [d1, d2] => { results := [.lit (.bool true)], args := [d1, d2] }
  | _ => none }
def viaAllRow : OpenClaim := { program := "ytllemhknmleklaa", sum := "2a96085324717c653eda3a70679a95b78b08e213891bca5c8ae632ab1cfe275f", func := "whipcord/whipcordkeep.ViaAll", spec := "viaAll", unfollowed := true, recurses := true, plainKeys := false, apart := false }
def ViaAllSaid : Prop := viaAllRow.holds Try.pinned (OpenSpec.ofChange viaAllSpec)

/-- ITS FALSE NEIGHBOUR: 'it returns false'. Refute it at one input. -/
def viaAllWrong : ChangeSpec := { name := "viaAll", fn := fun _ => fun
  | [d1, d2] => { results := [.lit (.bool false)], args := [d1, d2] }
  | _ => none }
def ViaAllWrongFalsely : Prop := viaAllRow.holds Try.pinned (OpenSpec.ofChange viaAllWrong)

/-- 'whipcordkeep.OffersBest': WHATEVER THE INPUT: true; the input reads as it did. -/
def offersBestSpec : ChangeSpec := { name := "offersBest", fn := fun _ => fun
  | [d] => { results := [.lit (.bool true)], args := [d] }
  | _ => none }
def offersBestRow : OpenClaim := { program := "ytllemhknmleklaa", sum := "2a96085324717c653eda3a70679a95b78b08e213891bca5c8ae632ab1cfe275f", func := "whipcord/whipcordkeep.OffersBest", spec := "offersBest", unfollowed := true, recurses := true, plainKeys := false, apart := false }
def OffersBestSaid : Prop := offersBestRow.holds Try.pinned (OpenSpec.ofChange offersBestSpec)

/-- ITS FALSE NEIGHBOUR: 'it returns false'. Refute it at one input. -/
def offersBestWrong : ChangeSpec := { name := "offersBest", fn := fun _ => fun
  | [d] => { results := [.lit (.bool false)], args := [d] }
  | _ => none }
def OffersBestWrongFalsely : Prop := offersBestRow.holds Try.pinned (OpenSpec.ofChange offersBestWrong)

/-- 'whipcordkeep.OffersAway': WHATEVER THE INPUT: true; the input reads as it did. -/
def offersAwaySpec : ChangeSpec := { name := "offersAway", fn := fun _ => fun
  | [d1, d2, d3] => { results := [.lit (.bool true)], args := [d1, d2, d3] }
  | _ => none }
def offersAwayRow : OpenClaim := { program := "ytllemhknmleklaa", sum := "2a96085324717c653eda3a70679a95b78b08e213891bca5c8ae632ab1cfe275f", func := "whipcord/whipcordkeep.OffersAway", spec := "offersAway", unfollowed := true, recurses := true, plainKeys := false, apart := false }
def OffersAwaySaid : Prop := offersAwayRow.holds Try.pinned (OpenSpec.ofChange offersAwaySpec)

/-- ITS FALSE NEIGHBOUR: 'it returns false'. Refute it at one input. -/
def offersAwayWrong : ChangeSpec := { name := "offersAway", fn := fun _ => fun
  | [d1, d2, d3] => { results := [.lit (.bool false)], args := [d1, d2, d3] }
  | _ => none }
def OffersAwayWrongFalsely : Prop := offersAwayRow.holds Try.pinned (OpenSpec.ofChange offersAwayWrong)

/-- 'whipcordkeep.OffersAgain': WHATEVER THE INPUT: true; the input reads as it did. -/
def offersAgainSpec : ChangeSpec := { name := "offersAgain", fn := fun _ => fun
  | [d1, d2] => { results := [.lit (.bool true)], args := [d1, d2] }
  | _ => none }
def offersAgainRow : OpenClaim := { program := "ytllemhknmleklaa", sum := "2a96085324717c653eda3a70679a95b78b08e213891bca5c8ae632ab1cfe275f", func := "whipcord/whipcordkeep.OffersAgain", spec := "offersAgain", unfollowed := true, recurses := true, plainKeys := false, apart := false }
def OffersAgainSaid : Prop := offersAgainRow.holds Try.pinned (OpenSpec.ofChange offersAgainSpec)

/-- ITS FALSE NEIGHBOUR: 'it returns false'. Refute it at one input. -/
def offersAgainWrong : ChangeSpec := { name := "offersAgain", fn := fun _ => fun
  | [d1, d2] => { results := [.lit (.bool false)], args := [d1, d2] }
  | _ => none }
def OffersAgainWrongFalsely : Prop := offersAgainRow.holds Try.pinned (OpenSpec.ofChange offersAgainWrong)

/-- 'whipcordkeep.OffersApart': WHATEVER THE INPUT: true; the input reads as it did. -/
def offersApartSpec : ChangeSpec := { name := "offersApart", fn := fun _ => fun
  | [d1, d2] => { results := [.lit (.bool true)], args := [d1, d2] }
  | _ => none }
def offersApartRow : OpenClaim := { program := "ytllemhknmleklaa", sum := "2a96085324717c653eda3a70679a95b78b08e213891bca5c8ae632ab1cfe275f", func := "whipcord/whipcordkeep.OffersApart", spec := "offersApart", unfollowed := true, recurses := true, plainKeys := false, apart := false }
def OffersApartSaid : Prop := offersApartRow.holds Try.pinned (OpenSpec.ofChange offersApartSpec)

/-- ITS FALSE NEIGHBOUR: 'it returns false'. Refute it at one input. -/
def offersApartWrong : ChangeSpec := { name := "offersApart", fn := fun _ => fun
  | [d1, d2] => { results := [.lit (.bool false)], args := [d1, d2] }
  | _ => none }
def OffersApartWrongFalsely : Prop := offersApartRow.holds Try.pinned (OpenSpec.ofChange offersApartWrong)

/-- 'whipcordkeep.OffersNearer': WHATEVER THE INPUT: true; the input reads as it did. -/
def offersNearerSpec : ChangeSpec := { name := "offersNearer", fn := fun _ => fun
  | [d1, d2, d3] => { results := [.lit (.bool true)], args := [d1, d2, d3] }
  | _ => none }
def offersNearerRow : OpenClaim := { program := "ytllemhknmleklaa", sum := "2a96085324717c653eda3a70679a95b78b08e213891bca5c8ae632ab1cfe275f", func := "whipcord/whipcordkeep.OffersNearer", spec := "offersNearer", unfollowed := true, recurses := true, plainKeys := false, apart := false }
def OffersNearerSaid : Prop := offersNearerRow.holds Try.pinned (OpenSpec.ofChange offersNearerSpec)

/-- ITS FALSE NEIGHBOUR: 'it returns false'. Refute it at one input. -/
def offersNearerWrong : ChangeSpec := { name := "offersNearer", fn := fun _ => fun
  | [d1, d2, d3] => { results := [.lit (.bool false)], args := [d1, d2, d3] }
  | _ => none }
def OffersNearerWrongFalsely : Prop := offersNearerRow.holds Try.pinned (OpenSpec.ofChange offersNearerWrong)

/-- 'whipcordkeep.OffersHidden': WHATEVER THE INPUT: true; the input reads as it did. -/
def offersHiddenSpec : ChangeSpec := { name := "offersHidden", fn := fun _ => fun
  | [d] => { results := [.lit (.bool true)], args := [d] }
  | _ => none }
def offersHiddenRow : OpenClaim := { program := "ytllemhknmleklaa", sum := "2a96085324717c653eda3a70679a95b78b08e213891bca5c8ae632ab1cfe275f", func := "whipcord/whipcordkeep.OffersHidden", spec := "offersHidden", unfollowed := true, recurses := true, plainKeys := false, apart := false }
def OffersHiddenSaid : Prop := offersHiddenRow.holds Try.pinned (OpenSpec.ofChange offersHiddenSpec)

/-- ITS FALSE NEIGHBOUR: 'it returns false'. Refute it at one input. -/
def offersHiddenWrong : ChangeSpec := { name := "offersHidden", fn := fun _ => fun
  | [d] => { results := [.lit (.bool false)], args := [d] }
  | _ => none }
def OffersHiddenWrongFalsely : Prop := offersHiddenRow.holds Try.pinned (OpenSpec.ofChange offersHiddenWrong)

/-- 'whipcordkeep.RangeCut': WHATEVER THE INPUT: true; the input reads as it did. -/
def rangeCutSpec : ChangeSpec := { name := "rangeCut", fn := fun _ => fun
  | [d1, d2, d3] => { results := [.lit (.bool true)], args := [d1, d2, d3] }
  | _ => none }
def rangeCutRow : OpenClaim := { program := "ytllemhknmleklaa", sum := "2a96085324717c653eda3a70679a95b78b08e213891bca5c8ae632ab1cfe275f", func := "whipcord/whipcordkeep.RangeCut", spec := "rangeCut", inPlace := ["math/bits.Add64", "math/bits.Sub64"], unfollowed := true, recurses := true, plainKeys := false, apart := false }
def RangeCutSaid : Prop := rangeCutRow.holds Try.pinned (OpenSpec.ofChange rangeCutSpec)

/-- ITS FALSE NEIGHBOUR: 'it returns false'. Refute it at one input. -/
def rangeCutWrong : ChangeSpec := { name := "rangeCut", fn := fun _ => fun
  | [d1, d2, d3] => { results := [.lit (.bool false)], args := [d1, d2, d3] }
  | _ => none }
def RangeCutWrongFalsely : Prop := rangeCutRow.holds Try.pinned (OpenSpec.ofChange rangeCutWrong)

/-- 'whipcordkeep.MergeSame': WHATEVER THE INPUT: true; the input reads as it did. -/
def mergeSameSpec : ChangeSpec := { name := "mergeSame", fn := fun _ => fun
  | [d1, d2, d3] => { results := [.lit (.bool true)], args := [d1, d2, d3] }
  | _ => none }
def mergeSameRow : OpenClaim := { program := "ytllemhknmleklaa", sum := "2a96085324717c653eda3a70679a95b78b08e213891bca5c8ae632ab1cfe275f", func := "whipcord/whipcordkeep.MergeSame", spec := "mergeSame", inPlace := ["math/bits.Add64", "math/bits.Sub64"], unfollowed := true, recurses := true, plainKeys := false, apart := false }
def MergeSameSaid : Prop := mergeSameRow.holds Try.pinned (OpenSpec.ofChange mergeSameSpec)

/-- ITS FALSE NEIGHBOUR: 'it returns false'. Refute it at one input. -/
def mergeSameWrong : ChangeSpec := { name := "mergeSame", fn := fun _ => fun
  | [d1, d2, d3] => { results := [.lit (.bool false)], args := [d1, d2, d3] }
  | _ => none }
def MergeSameWrongFalsely : Prop := mergeSameRow.holds Try.pinned (OpenSpec.ofChange mergeSameWrong)

/-- 'whipcordkeep.FewestHalves': WHATEVER THE INPUT: true; the input reads as it did. -/
def fewestHalvesSpec : ChangeSpec := { name := "fewestHalves", fn := fun _ => fun
  | [d1, d2, d3] => { results := [.lit (.bool true)], args := [d1, d2, d3] }
  | _ => none }
def fewestHalvesRow : OpenClaim := { program := "ytllemhknmleklaa", sum := "2a96085324717c653eda3a70679a95b78b08e213891bca5c8ae632ab1cfe275f", func := "whipcord/whipcordkeep.FewestHalves", spec := "fewestHalves", unfollowed := true, recurses := true, plainKeys := false, apart := false }
def FewestHalvesSaid : Prop := fewestHalvesRow.holds Try.pinned (OpenSpec.ofChange fewestHalvesSpec)

/-- ITS FALSE NEIGHBOUR: 'it returns false'. Refute it at one input. -/
def fewestHalvesWrong : ChangeSpec := { name := "fewestHalves", fn := fun _ => fun
  | [d1, d2, d3] => { results := [.lit (.bool false)], args := [d1, d2, d3] }
  | _ => none }
def FewestHalvesWrongFalsely : Prop := fewestHalvesRow.holds Try.pinned (OpenSpec.ofChange fewestHalvesWrong)

/- THE SECOND FORM. 'bulk': how many values and letters a reading holds, each counted each time it is reached (what is shared counts as often as it is met; a slice's spare places count too). A statement '..UptoSaid' is the law's where the arguments, and the package variables that the reading takes, are together of bulk at most 1048576: NARROWER than '..Said'. Prove '..Said' where nothing that the law and all that it calls make is longer than what came in: it says more and counts as full. Else prove '..UptoSaid'. A law counts once. -/
mutual
def uptoBulk {H : Type} : DataW H → Nat
  | .lit (.string bytes) => bytes.length + 1
  | .lit _ => 1
  | .nil => 1
  | .ptr d => uptoBulk d + 1
  | .slice elems spare => uptoBulkAll elems + uptoBulkAll spare + 1
  | .agg parts => uptoBulkAll parts + 1
  | .iface _ d => uptoBulk d + 1
  | .map entries => uptoBulkEntries entries + 1
  | .held _ => 1
def uptoBulkAll {H : Type} : List (DataW H) → Nat
  | [] => 0
  | d :: r => uptoBulk d + uptoBulkAll r
def uptoBulkEntries {H : Type} : List (Lit × DataW H) → Nat
  | [] => 0
  | x :: r => uptoBulkEntry x + uptoBulkEntries r
def uptoBulkEntry {H : Type} : Lit × DataW H → Nat
  | (.string bytes, d) => bytes.length + uptoBulk d + 1
  | (_, d) => uptoBulk d + 1
 end
def uptoSmall : (H : Type) → List (DataW H) → Bool := fun _ ds => decide (uptoBulkAll ds ≤ 1048576)
def OpenSpec.upto (s : _root_.Go.ChangeSpec) : _root_.Go.OpenSpec := { _root_.Go.OpenSpec.ofChange s with cond := some uptoSmall }

/-- 'whipcordtop.TopQueue', WHERE WHAT IT READS IS OF BULK AT MOST 1048576: true; the input reads as it did. -/
def topQueueUptoRow : OpenClaim := { program := "ytllemhknmleklaa", sum := "2a96085324717c653eda3a70679a95b78b08e213891bca5c8ae632ab1cfe275f", func := "whipcord/whipcordtop.TopQueue", spec := "topQueue", unfollowed := true, recurses := true, plainKeys := false, apart := false, narrowed := true }
def TopQueueUptoSaid : Prop := topQueueUptoRow.holds Try.pinned (OpenSpec.upto topQueueSpec)

/-- 'whipcordtop.TopHas', WHERE WHAT IT READS IS OF BULK AT MOST 1048576: true; the input reads as it did. -/
def topHasUptoRow : OpenClaim := { program := "ytllemhknmleklaa", sum := "2a96085324717c653eda3a70679a95b78b08e213891bca5c8ae632ab1cfe275f", func := "whipcord/whipcordtop.TopHas", spec := "topHas", inPlace := ["math/bits.Add64", "math/bits.Sub64"], unfollowed := true, recurses := true, plainKeys := false, apart := false, narrowed := true }
def TopHasUptoSaid : Prop := topHasUptoRow.holds Try.pinned (OpenSpec.upto topHasSpec)

/-- 'whipcordkeep.ViaAll', WHERE WHAT IT READS IS OF BULK AT MOST 1048576: true; the input reads as it did. -/
def viaAllUptoRow : OpenClaim := { program := "ytllemhknmleklaa", sum := "2a96085324717c653eda3a70679a95b78b08e213891bca5c8ae632ab1cfe275f", func := "whipcord/whipcordkeep.ViaAll", spec := "viaAll", unfollowed := true, recurses := true, plainKeys := false, apart := false, narrowed := true }
def ViaAllUptoSaid : Prop := viaAllUptoRow.holds Try.pinned (OpenSpec.upto viaAllSpec)

/-- 'whipcordkeep.OffersBest', WHERE WHAT IT READS IS OF BULK AT MOST 1048576: true; the input reads as it did. -/
def offersBestUptoRow : OpenClaim := { program := "ytllemhknmleklaa", sum := "2a96085324717c653eda3a70679a95b78b08e213891bca5c8ae632ab1cfe275f", func := "whipcord/whipcordkeep.OffersBest", spec := "offersBest", unfollowed := true, recurses := true, plainKeys := false, apart := false, narrowed := true }
def OffersBestUptoSaid : Prop := offersBestUptoRow.holds Try.pinned (OpenSpec.upto offersBestSpec)

/-- 'whipcordkeep.OffersAway', WHERE WHAT IT READS IS OF BULK AT MOST 1048576: true; the input reads as it did. -/
def offersAwayUptoRow : OpenClaim := { program := "ytllemhknmleklaa", sum := "2a96085324717c653eda3a70679a95b78b08e213891bca5c8ae632ab1cfe275f", func := "whipcord/whipcordkeep.OffersAway", spec := "offersAway", unfollowed := true, recurses := true, plainKeys := false, apart := false, narrowed := true }
def OffersAwayUptoSaid : Prop := offersAwayUptoRow.holds Try.pinned (OpenSpec.upto offersAwaySpec)

/-- 'whipcordkeep.OffersAgain', WHERE WHAT IT READS IS OF BULK AT MOST 1048576: true; the input reads as it did. -/
def offersAgainUptoRow : OpenClaim := { program := "ytllemhknmleklaa", sum := "2a96085324717c653eda3a70679a95b78b08e213891bca5c8ae632ab1cfe275f", func := "whipcord/whipcordkeep.OffersAgain", spec := "offersAgain", unfollowed := true, recurses := true, plainKeys := false, apart := false, narrowed := true }
def OffersAgainUptoSaid : Prop := offersAgainUptoRow.holds Try.pinned (OpenSpec.upto offersAgainSpec)

/-- 'whipcordkeep.OffersApart', WHERE WHAT IT READS IS OF BULK AT MOST 1048576: true; the input reads as it did. -/
def offersApartUptoRow : OpenClaim := { program := "ytllemhknmleklaa", sum := "2a96085324717c653eda3a70679a95b78b08e213891bca5c8ae632ab1cfe275f", func := "whipcord/whipcordkeep.OffersApart", spec := "offersApart", unfollowed := true, recurses := true, plainKeys := false, apart := false, narrowed := true }
def OffersApartUptoSaid : Prop := offersApartUptoRow.holds Try.pinned (OpenSpec.upto offersApartSpec)

/-- 'whipcordkeep.OffersNearer', WHERE WHAT IT READS IS OF BULK AT MOST 1048576: true; the input reads as it did. -/
def offersNearerUptoRow : OpenClaim := { program := "ytllemhknmleklaa", sum := "2a96085324717c653eda3a70679a95b78b08e213891bca5c8ae632ab1cfe275f", func := "whipcord/whipcordkeep.OffersNearer", spec := "offersNearer", unfollowed := true, recurses := true, plainKeys := false, apart := false, narrowed := true }
def OffersNearerUptoSaid : Prop := offersNearerUptoRow.holds Try.pinned (OpenSpec.upto offersNearerSpec)

/-- 'whipcordkeep.OffersHidden', WHERE WHAT IT READS IS OF BULK AT MOST 1048576: true; the input reads as it did. -/
def offersHiddenUptoRow : OpenClaim := { program := "ytllemhknmleklaa", sum := "2a96085324717c653eda3a70679a95b78b08e213891bca5c8ae632ab1cfe275f", func := "whipcord/whipcordkeep.OffersHidden", spec := "offersHidden", unfollowed := true, recurses := true, plainKeys := false, apart := false, narrowed := true }
def OffersHiddenUptoSaid : Prop := offersHiddenUptoRow.holds Try.pinned (OpenSpec.upto offersHiddenSpec)

/-- 'whipcordkeep.RangeCut', WHERE WHAT IT READS IS OF BULK AT MOST 1048576: true; the input reads as it did. -/
def rangeCutUptoRow : OpenClaim := { program := "ytllemhknmleklaa", sum := "2a96085324717c653eda3a70679a95b78b08e213891bca5c8ae632ab1cfe275f", func := "whipcord/whipcordkeep.RangeCut", spec := "rangeCut", inPlace := ["math/bits.Add64", "math/bits.Sub64"], unfollowed := true, recurses := true, plainKeys := false, apart := false, narrowed := true }
def RangeCutUptoSaid : Prop := rangeCutUptoRow.holds Try.pinned (OpenSpec.upto rangeCutSpec)

/-- 'whipcordkeep.MergeSame', WHERE WHAT IT READS IS OF BULK AT MOST 1048576: true; the input reads as it did. -/
def mergeSameUptoRow : OpenClaim := { program := "ytllemhknmleklaa", sum := "2a96085324717c653eda3a70679a95b78b08e213891bca5c8ae632ab1cfe275f", func := "whipcord/whipcordkeep.MergeSame", spec := "mergeSame", inPlace := ["math/bits.Add64", "math/bits.Sub64"], unfollowed := true, recurses := true, plainKeys := false, apart := false, narrowed := true }
def MergeSameUptoSaid : Prop := mergeSameUptoRow.holds Try.pinned (OpenSpec.upto mergeSameSpec)

/-- 'whipcordkeep.FewestHalves', WHERE WHAT IT READS IS OF BULK AT MOST 1048576: true; the input reads as it did. -/
def fewestHalvesUptoRow : OpenClaim := { program := "ytllemhknmleklaa", sum := "2a96085324717c653eda3a70679a95b78b08e213891bca5c8ae632ab1cfe275f", func := "whipcord/whipcordkeep.FewestHalves", spec := "fewestHalves", unfollowed := true, recurses := true, plainKeys := false, apart := false, narrowed := true }
def FewestHalvesUptoSaid : Prop := fewestHalvesUptoRow.holds Try.pinned (OpenSpec.upto fewestHalvesSpec)

end Rows
end Go.Proofs.Ytllemhknmleklaa
