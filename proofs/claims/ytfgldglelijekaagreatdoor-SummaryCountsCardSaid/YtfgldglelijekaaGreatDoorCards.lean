/-
  DERIVED. GIVEN WITH THE SEED: THE CARDS: each row of YtfgldglelijekaaGreatDoorRows.lean that lists a variable, with what it lists TIED to the program's text (the seventh form; the later family's looks); each row that meets fmt, with fmt's text TOLD by the authors' own Lean function (tested against real Go, not proved from fmt's source: count such statements apart). THE CARD IS WHAT COUNTS. Prove the row's statement (the work); the ties are given (YtfgldglelijekaaGreatDoorTie.lean); close each card by the builder's one call (the guide's Derived/Test/ToyasCard.lean, 'card_holds'). Laid BY PROGRAM, IN A SANDBOX (cutbox-door.mjs). By AI agents, Wed Nov 11 2026. No macro, syntax, notation, axiom, sorry.
-/
import Derived.Test.YtfgldglelijekaaGreatDoorRows
import GoSem.ClaimSeven
namespace Go.Proofs.YtfgldglelijekaaGreatDoor
namespace Rows

/-- THE TIED CARD OF 'sticklerlaw44.SummaryCounts'. -/
def summaryCountsCard : Claim7 := { stood := { row := summaryCountsRow, standIns := [], harness := (true, "3c80a289d27d468b457e39e8dffc7c4b104e99e6a2c26c245d2051129070a29f"), looks := false }, kinds := [], alts := [], laidByText := true, laidKinds := [.data, .data, .data, .data, .data, .pinned], laidTests := true, laidLooks := .later }
def SummaryCountsCardSaid : Prop := Claim7.holds Tryz.pinned (.plain (OpenSpec.ofChange summaryCountsSpec)) summaryCountsCard

/-- THE SECOND FORM's CARD OF 'sticklerlaw44.SummaryCounts'. -/
def summaryCountsUptoCard : Claim7 := { stood := { row := summaryCountsUptoRow, standIns := [], harness := (true, "3c80a289d27d468b457e39e8dffc7c4b104e99e6a2c26c245d2051129070a29f"), looks := false }, kinds := [], alts := [], laidByText := true, laidKinds := [.data, .data, .data, .data, .data, .pinned], laidTests := true, laidLooks := .later }
def SummaryCountsUptoCardSaid : Prop := Claim7.holds Tryz.pinned (.plain (OpenSpec.upto summaryCountsSpec)) summaryCountsUptoCard
end Rows
end Go.Proofs.YtfgldglelijekaaGreatDoor
