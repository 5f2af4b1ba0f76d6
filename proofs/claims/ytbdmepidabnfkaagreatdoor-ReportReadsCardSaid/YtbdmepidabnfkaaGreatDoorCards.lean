/-
  DERIVED. GIVEN WITH THE SEED: THE CARDS: each row of YtbdmepidabnfkaaGreatDoorRows.lean that lists a variable, with what it lists TIED to the program's text (the seventh form; the later family's looks); each row that meets fmt, with fmt's text TOLD by the authors' own Lean function (tested against real Go, not proved from fmt's source: count such statements apart). THE CARD IS WHAT COUNTS. Prove the row's statement (the work); the ties are given (YtbdmepidabnfkaaGreatDoorTie.lean); close each card by the builder's one call (the guide's Derived/Test/ToyasCard.lean, 'card_holds'). Laid BY PROGRAM, IN A SANDBOX (cutbox-door.mjs). By AI agents, Wed Nov 11 2026. No macro, syntax, notation, axiom, sorry.
-/
import Derived.Test.YtbdmepidabnfkaaGreatDoorRows
import GoSem.ClaimSeven
namespace Go.Proofs.YtbdmepidabnfkaaGreatDoor
namespace Rows

/-- THE TIED CARD OF 'sticklerlaw43.ReportSame'. -/
def reportSameCard : Claim7 := { stood := { row := reportSameRow, standIns := [], harness := (true, "64d581e834b18edf45e9e1e0b6778404215c13a169765c183bf07860cb945c9a"), looks := true }, kinds := [], alts := [], laidByText := true, laidKinds := [.data, .data, .data, .data, .data, .data, .pinned], laidTests := true, laidLooks := .later }
def ReportSameCardSaid : Prop := Claim7.holds Tryz.pinned (.plain (OpenSpec.ofChange reportSameSpec)) reportSameCard

/-- THE TIED CARD OF 'sticklerlaw43.ReportTexts'. -/
def reportTextsCard : Claim7 := { stood := { row := reportTextsRow, standIns := [], harness := (true, "64d581e834b18edf45e9e1e0b6778404215c13a169765c183bf07860cb945c9a"), looks := true }, kinds := [], alts := [], laidByText := true, laidKinds := [.data, .data, .data, .data, .sentinel, .sentinel, .data, .data, .pinned], laidTests := true, laidLooks := .later }
def ReportTextsCardSaid : Prop := Claim7.holds Tryz.pinned (.plain (OpenSpec.ofChange reportTextsSpec)) reportTextsCard

/-- THE TIED CARD OF 'sticklerlaw43.ReportReads'. -/
def reportReadsCard : Claim7 := { stood := { row := reportReadsRow, standIns := [], harness := (true, "64d581e834b18edf45e9e1e0b6778404215c13a169765c183bf07860cb945c9a"), looks := true }, kinds := [], alts := [], laidByText := true, laidKinds := [.data, .data, .data, .data, .sentinel, .sentinel, .data, .data, .pinned], laidTests := true, laidLooks := .later }
def ReportReadsCardSaid : Prop := Claim7.holds Tryz.pinned (.plain (OpenSpec.ofChange reportReadsSpec)) reportReadsCard

/-- THE SECOND FORM's CARD OF 'sticklerlaw43.ReportSame'. -/
def reportSameUptoCard : Claim7 := { stood := { row := reportSameUptoRow, standIns := [], harness := (true, "64d581e834b18edf45e9e1e0b6778404215c13a169765c183bf07860cb945c9a"), looks := true }, kinds := [], alts := [], laidByText := true, laidKinds := [.data, .data, .data, .data, .data, .data, .pinned], laidTests := true, laidLooks := .later }
def ReportSameUptoCardSaid : Prop := Claim7.holds Tryz.pinned (.plain (OpenSpec.upto reportSameSpec)) reportSameUptoCard

/-- THE SECOND FORM's CARD OF 'sticklerlaw43.ReportTexts'. -/
def reportTextsUptoCard : Claim7 := { stood := { row := reportTextsUptoRow, standIns := [], harness := (true, "64d581e834b18edf45e9e1e0b6778404215c13a169765c183bf07860cb945c9a"), looks := true }, kinds := [], alts := [], laidByText := true, laidKinds := [.data, .data, .data, .data, .sentinel, .sentinel, .data, .data, .pinned], laidTests := true, laidLooks := .later }
def ReportTextsUptoCardSaid : Prop := Claim7.holds Tryz.pinned (.plain (OpenSpec.upto reportTextsSpec)) reportTextsUptoCard

/-- THE SECOND FORM's CARD OF 'sticklerlaw43.ReportReads'. -/
def reportReadsUptoCard : Claim7 := { stood := { row := reportReadsUptoRow, standIns := [], harness := (true, "64d581e834b18edf45e9e1e0b6778404215c13a169765c183bf07860cb945c9a"), looks := true }, kinds := [], alts := [], laidByText := true, laidKinds := [.data, .data, .data, .data, .sentinel, .sentinel, .data, .data, .pinned], laidTests := true, laidLooks := .later }
def ReportReadsUptoCardSaid : Prop := Claim7.holds Tryz.pinned (.plain (OpenSpec.upto reportReadsSpec)) reportReadsUptoCard
end Rows
end Go.Proofs.YtbdmepidabnfkaaGreatDoor
