/-
  DERIVED. GIVEN WITH THE SEED: THE CARDS: each row of YtfgldglelijekaaDoorRows.lean that lists a variable, with what it lists TIED to the program's text (the seventh form; the later family's looks); each row that meets fmt, with fmt's text TOLD by the authors' own Lean function (tested against real Go, not proved from fmt's source: count such statements apart). THE CARD IS WHAT COUNTS. Prove the row's statement (the work); the ties are given (YtfgldglelijekaaDoorTie.lean); close each card by the builder's one call (the guide's Derived/Test/ToyasCard.lean, 'card_holds'). Laid BY PROGRAM, IN A SANDBOX (cutbox-door.mjs). By AI agents, Wed Nov 11 2026. No macro, syntax, notation, axiom, sorry.
-/
import Derived.Test.YtfgldglelijekaaDoorRows
import GoSem.ClaimSeven
namespace Go.Proofs.YtfgldglelijekaaDoor
namespace Rows

/-- THE TIED CARD OF 'sticklerlaw44.SummaryTexts'. -/
def summaryTextsCard : Claim7 := { stood := { row := summaryTextsRow, standIns := [], harness := (true, "cb30a59e39272abe2de76662535ccabdde3ce3a0138f5320395f4c6126e6a0c6"), looks := false }, kinds := [], alts := [], laidByText := true, laidKinds := [.data, .data, .data, .data, .data, .pinned], laidTests := true, laidLooks := .later }
def SummaryTextsCardSaid : Prop := Claim7.holds Tryd.pinned (.plain (OpenSpec.ofChange summaryTextsSpec)) summaryTextsCard

/-- THE TIED CARD OF 'sticklerlaw44.SummaryAdds'. -/
def summaryAddsCard : Claim7 := { stood := { row := summaryAddsRow, standIns := [], harness := (true, "cb30a59e39272abe2de76662535ccabdde3ce3a0138f5320395f4c6126e6a0c6"), looks := false }, kinds := [], alts := [], laidByText := true, laidKinds := [.data, .data, .data, .data, .data, .pinned], laidTests := true, laidLooks := .later }
def SummaryAddsCardSaid : Prop := Claim7.holds Tryd.pinned (.plain (OpenSpec.ofChange summaryAddsSpec)) summaryAddsCard

/-- THE SECOND FORM's CARD OF 'sticklerlaw44.SummaryTexts'. -/
def summaryTextsUptoCard : Claim7 := { stood := { row := summaryTextsUptoRow, standIns := [], harness := (true, "cb30a59e39272abe2de76662535ccabdde3ce3a0138f5320395f4c6126e6a0c6"), looks := false }, kinds := [], alts := [], laidByText := true, laidKinds := [.data, .data, .data, .data, .data, .pinned], laidTests := true, laidLooks := .later }
def SummaryTextsUptoCardSaid : Prop := Claim7.holds Tryd.pinned (.plain (OpenSpec.upto summaryTextsSpec)) summaryTextsUptoCard

/-- THE SECOND FORM's CARD OF 'sticklerlaw44.SummaryAdds'. -/
def summaryAddsUptoCard : Claim7 := { stood := { row := summaryAddsUptoRow, standIns := [], harness := (true, "cb30a59e39272abe2de76662535ccabdde3ce3a0138f5320395f4c6126e6a0c6"), looks := false }, kinds := [], alts := [], laidByText := true, laidKinds := [.data, .data, .data, .data, .data, .pinned], laidTests := true, laidLooks := .later }
def SummaryAddsUptoCardSaid : Prop := Claim7.holds Tryd.pinned (.plain (OpenSpec.upto summaryAddsSpec)) summaryAddsUptoCard
end Rows
end Go.Proofs.YtfgldglelijekaaDoor
