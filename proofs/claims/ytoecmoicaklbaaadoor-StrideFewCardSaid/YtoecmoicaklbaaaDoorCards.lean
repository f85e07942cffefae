/-
  DERIVED. GIVEN WITH THE SEED: THE CARDS: each row of YtoecmoicaklbaaaDoorRows.lean that lists a variable, with what it lists TIED to the program's text (the seventh form; the later family's looks); each row that meets fmt, with fmt's text TOLD by the authors' own Lean function (tested against real Go, not proved from fmt's source: count such statements apart). THE CARD IS WHAT COUNTS. Prove the row's statement (the work); the ties are given (YtoecmoicaklbaaaDoorTie.lean); close each card by the builder's one call (the guide's Derived/Test/ToyasCard.lean, 'card_holds'). Laid BY PROGRAM, IN A SANDBOX (cutbox-door.mjs). By AI agents, Wed Nov 11 2026. No macro, syntax, notation, axiom, sorry.
-/
import Derived.Test.YtoecmoicaklbaaaDoorRows
import GoSem.ClaimSeven
namespace Go.Proofs.YtoecmoicaklbaaaDoor
namespace Rows

/-- THE TIED CARD OF 'whipcordkeep.StrideFew'. -/
def strideFewCard : Claim7 := { stood := { row := strideFewRow, standIns := [], harness := (true, "ab45faa4e30a27b9585d1988070b6fac0f571b73ecd53be432dd56c5d947b5ed"), looks := false }, kinds := [], alts := [], laidByText := true, laidKinds := [.data], laidTests := true, laidLooks := .later }
def StrideFewCardSaid : Prop := Claim7.holds Tryd.pinned (.plain (OpenSpec.ofChange strideFewSpec)) strideFewCard

/-- THE TIED CARD OF 'whipcordkeep.StrideOrder'. -/
def strideOrderCard : Claim7 := { stood := { row := strideOrderRow, standIns := [], harness := (true, "ab45faa4e30a27b9585d1988070b6fac0f571b73ecd53be432dd56c5d947b5ed"), looks := false }, kinds := [], alts := [], laidByText := true, laidKinds := [.data], laidTests := true, laidLooks := .later }
def StrideOrderCardSaid : Prop := Claim7.holds Tryd.pinned (.plain (OpenSpec.ofChange strideOrderSpec)) strideOrderCard

/-- THE TIED CARD OF 'whipcordkeep.StrideBroken'. -/
def strideBrokenCard : Claim7 := { stood := { row := strideBrokenRow, standIns := [], harness := (true, "ab45faa4e30a27b9585d1988070b6fac0f571b73ecd53be432dd56c5d947b5ed"), looks := false }, kinds := [], alts := [], laidByText := true, laidKinds := [.data], laidTests := true, laidLooks := .later }
def StrideBrokenCardSaid : Prop := Claim7.holds Tryd.pinned (.plain (OpenSpec.ofChange strideBrokenSpec)) strideBrokenCard

/-- THE TIED CARD OF 'whipcordkeep.StrideSame'. -/
def strideSameCard : Claim7 := { stood := { row := strideSameRow, standIns := [], harness := (true, "ab45faa4e30a27b9585d1988070b6fac0f571b73ecd53be432dd56c5d947b5ed"), looks := false }, kinds := [], alts := [], laidByText := true, laidKinds := [.data], laidTests := true, laidLooks := .later }
def StrideSameCardSaid : Prop := Claim7.holds Tryd.pinned (.plain (OpenSpec.ofChange strideSameSpec)) strideSameCard

/-- THE SECOND FORM's CARD OF 'whipcordkeep.StrideFew'. -/
def strideFewUptoCard : Claim7 := { stood := { row := strideFewUptoRow, standIns := [], harness := (true, "ab45faa4e30a27b9585d1988070b6fac0f571b73ecd53be432dd56c5d947b5ed"), looks := false }, kinds := [], alts := [], laidByText := true, laidKinds := [.data], laidTests := true, laidLooks := .later }
def StrideFewUptoCardSaid : Prop := Claim7.holds Tryd.pinned (.plain (OpenSpec.upto strideFewSpec)) strideFewUptoCard

/-- THE SECOND FORM's CARD OF 'whipcordkeep.StrideOrder'. -/
def strideOrderUptoCard : Claim7 := { stood := { row := strideOrderUptoRow, standIns := [], harness := (true, "ab45faa4e30a27b9585d1988070b6fac0f571b73ecd53be432dd56c5d947b5ed"), looks := false }, kinds := [], alts := [], laidByText := true, laidKinds := [.data], laidTests := true, laidLooks := .later }
def StrideOrderUptoCardSaid : Prop := Claim7.holds Tryd.pinned (.plain (OpenSpec.upto strideOrderSpec)) strideOrderUptoCard

/-- THE SECOND FORM's CARD OF 'whipcordkeep.StrideBroken'. -/
def strideBrokenUptoCard : Claim7 := { stood := { row := strideBrokenUptoRow, standIns := [], harness := (true, "ab45faa4e30a27b9585d1988070b6fac0f571b73ecd53be432dd56c5d947b5ed"), looks := false }, kinds := [], alts := [], laidByText := true, laidKinds := [.data], laidTests := true, laidLooks := .later }
def StrideBrokenUptoCardSaid : Prop := Claim7.holds Tryd.pinned (.plain (OpenSpec.upto strideBrokenSpec)) strideBrokenUptoCard

/-- THE SECOND FORM's CARD OF 'whipcordkeep.StrideSame'. -/
def strideSameUptoCard : Claim7 := { stood := { row := strideSameUptoRow, standIns := [], harness := (true, "ab45faa4e30a27b9585d1988070b6fac0f571b73ecd53be432dd56c5d947b5ed"), looks := false }, kinds := [], alts := [], laidByText := true, laidKinds := [.data], laidTests := true, laidLooks := .later }
def StrideSameUptoCardSaid : Prop := Claim7.holds Tryd.pinned (.plain (OpenSpec.upto strideSameSpec)) strideSameUptoCard
end Rows
end Go.Proofs.YtoecmoicaklbaaaDoor
