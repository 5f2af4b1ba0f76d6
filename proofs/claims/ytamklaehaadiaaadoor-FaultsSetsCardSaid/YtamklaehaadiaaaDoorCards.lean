/-
  DERIVED. GIVEN WITH THE SEED: THE CARDS: each row of YtamklaehaadiaaaDoorRows.lean that lists a variable, with what it lists TIED to the program's text (the seventh form; the later family's looks); each row that meets fmt, with fmt's text TOLD by the authors' own Lean function (tested against real Go, not proved from fmt's source: count such statements apart). THE CARD IS WHAT COUNTS. Prove the row's statement (the work); the ties are given (YtamklaehaadiaaaDoorTie.lean); close each card by the builder's one call (the guide's Derived/Test/ToyasCard.lean, 'card_holds'). Laid BY PROGRAM, IN A SANDBOX (cutbox-door.mjs). By AI agents, Wed Nov 11 2026. No macro, syntax, notation, axiom, sorry.
-/
import Derived.Test.YtamklaehaadiaaaDoorRows
import GoSem.ClaimSeven
namespace Go.Proofs.YtamklaehaadiaaaDoor
namespace Rows

/-- THE TIED CARD OF 'sticklerlaw09.FaultsUnion'. -/
def faultsUnionCard : Claim7 := { stood := { row := faultsUnionRow, standIns := [], harness := (true, "c849e4bcc321a664daf72d599017d8e0dfb4a141ce68b8030599a2cdac843035"), looks := true }, kinds := [], alts := [], laidByText := true, laidKinds := [.data, .data, .data, .data], laidTests := true, laidLooks := .later }
def FaultsUnionCardSaid : Prop := Claim7.holds Tryd.pinned (.plain (OpenSpec.ofChange faultsUnionSpec)) faultsUnionCard

/-- THE TIED CARD OF 'sticklerlaw09.FaultsSets'. -/
def faultsSetsCard : Claim7 := { stood := { row := faultsSetsRow, standIns := [], harness := (true, "c849e4bcc321a664daf72d599017d8e0dfb4a141ce68b8030599a2cdac843035"), looks := true }, kinds := [], alts := [], laidByText := true, laidKinds := [.data, .data, .data, .data], laidTests := true, laidLooks := .later }
def FaultsSetsCardSaid : Prop := Claim7.holds Tryd.pinned (.plain (OpenSpec.ofChange faultsSetsSpec)) faultsSetsCard

/-- THE TIED CARD OF 'sticklerlaw09.FaultsCodes'. -/
def faultsCodesCard : Claim7 := { stood := { row := faultsCodesRow, standIns := [], harness := (true, "c849e4bcc321a664daf72d599017d8e0dfb4a141ce68b8030599a2cdac843035"), looks := true }, kinds := [], alts := [], laidByText := true, laidKinds := [.data, .data, .data, .sentinel, .sentinel, .data], laidTests := true, laidLooks := .later }
def FaultsCodesCardSaid : Prop := Claim7.holds Tryd.pinned (.plain (OpenSpec.ofChange faultsCodesSpec)) faultsCodesCard

/-- THE SECOND FORM's CARD OF 'sticklerlaw09.FaultsUnion'. -/
def faultsUnionUptoCard : Claim7 := { stood := { row := faultsUnionUptoRow, standIns := [], harness := (true, "c849e4bcc321a664daf72d599017d8e0dfb4a141ce68b8030599a2cdac843035"), looks := true }, kinds := [], alts := [], laidByText := true, laidKinds := [.data, .data, .data, .data], laidTests := true, laidLooks := .later }
def FaultsUnionUptoCardSaid : Prop := Claim7.holds Tryd.pinned (.plain (OpenSpec.upto faultsUnionSpec)) faultsUnionUptoCard

/-- THE SECOND FORM's CARD OF 'sticklerlaw09.FaultsSets'. -/
def faultsSetsUptoCard : Claim7 := { stood := { row := faultsSetsUptoRow, standIns := [], harness := (true, "c849e4bcc321a664daf72d599017d8e0dfb4a141ce68b8030599a2cdac843035"), looks := true }, kinds := [], alts := [], laidByText := true, laidKinds := [.data, .data, .data, .data], laidTests := true, laidLooks := .later }
def FaultsSetsUptoCardSaid : Prop := Claim7.holds Tryd.pinned (.plain (OpenSpec.upto faultsSetsSpec)) faultsSetsUptoCard

/-- THE SECOND FORM's CARD OF 'sticklerlaw09.FaultsCodes'. -/
def faultsCodesUptoCard : Claim7 := { stood := { row := faultsCodesUptoRow, standIns := [], harness := (true, "c849e4bcc321a664daf72d599017d8e0dfb4a141ce68b8030599a2cdac843035"), looks := true }, kinds := [], alts := [], laidByText := true, laidKinds := [.data, .data, .data, .sentinel, .sentinel, .data], laidTests := true, laidLooks := .later }
def FaultsCodesUptoCardSaid : Prop := Claim7.holds Tryd.pinned (.plain (OpenSpec.upto faultsCodesSpec)) faultsCodesUptoCard
end Rows
end Go.Proofs.YtamklaehaadiaaaDoor
