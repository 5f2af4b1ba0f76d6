/-
  DERIVED. GIVEN WITH THE SEED: THE CARDS: each row of YtfcgdfcekpbliaaGreatDoorRows.lean that lists a variable, with what it lists TIED to the program's text (the seventh form; the later family's looks); each row that meets fmt, with fmt's text TOLD by the authors' own Lean function (tested against real Go, not proved from fmt's source: count such statements apart). THE CARD IS WHAT COUNTS. Prove the row's statement (the work); the ties are given (YtfcgdfcekpbliaaGreatDoorTie.lean); close each card by the builder's one call (the guide's Derived/Test/ToyasCard.lean, 'card_holds'). Laid BY PROGRAM, IN A SANDBOX (cutbox-door.mjs). By AI agents, Wed Nov 11 2026. No macro, syntax, notation, axiom, sorry.
-/
import Derived.Test.YtfcgdfcekpbliaaGreatDoorRows
import GoSem.ClaimSeven
namespace Go.Proofs.YtfcgdfcekpbliaaGreatDoor
namespace Rows

/-- THE TIED CARD OF 'sticklerlaw51.SceneTexts'. -/
def sceneTextsCard : Claim7 := { stood := { row := sceneTextsRow, standIns := [], harness := (true, "35b2abdf0acee76e999c94bd612e7533af948049def9c073ff117f484a0e969c"), looks := true }, kinds := [], alts := [], laidByText := true, laidKinds := [.data, .data, .data, .data, .sentinel, .sentinel, .data, .pinned], laidTests := true, laidLooks := .later }
def SceneTextsCardSaid : Prop := Claim7.holds Tryz.pinned (.plain (OpenSpec.ofChange sceneTextsSpec)) sceneTextsCard

/-- THE TIED CARD OF 'sticklerlaw51.SceneReads'. -/
def sceneReadsCard : Claim7 := { stood := { row := sceneReadsRow, standIns := [], harness := (true, "35b2abdf0acee76e999c94bd612e7533af948049def9c073ff117f484a0e969c"), looks := true }, kinds := [], alts := [], laidByText := true, laidKinds := [.data, .data, .data, .data, .sentinel, .sentinel, .data, .pinned], laidTests := true, laidLooks := .later }
def SceneReadsCardSaid : Prop := Claim7.holds Tryz.pinned (.plain (OpenSpec.ofChange sceneReadsSpec)) sceneReadsCard

/-- THE SECOND FORM's CARD OF 'sticklerlaw51.SceneTexts'. -/
def sceneTextsUptoCard : Claim7 := { stood := { row := sceneTextsUptoRow, standIns := [], harness := (true, "35b2abdf0acee76e999c94bd612e7533af948049def9c073ff117f484a0e969c"), looks := true }, kinds := [], alts := [], laidByText := true, laidKinds := [.data, .data, .data, .data, .sentinel, .sentinel, .data, .pinned], laidTests := true, laidLooks := .later }
def SceneTextsUptoCardSaid : Prop := Claim7.holds Tryz.pinned (.plain (OpenSpec.upto sceneTextsSpec)) sceneTextsUptoCard

/-- THE SECOND FORM's CARD OF 'sticklerlaw51.SceneReads'. -/
def sceneReadsUptoCard : Claim7 := { stood := { row := sceneReadsUptoRow, standIns := [], harness := (true, "35b2abdf0acee76e999c94bd612e7533af948049def9c073ff117f484a0e969c"), looks := true }, kinds := [], alts := [], laidByText := true, laidKinds := [.data, .data, .data, .data, .sentinel, .sentinel, .data, .pinned], laidTests := true, laidLooks := .later }
def SceneReadsUptoCardSaid : Prop := Claim7.holds Tryz.pinned (.plain (OpenSpec.upto sceneReadsSpec)) sceneReadsUptoCard
end Rows
end Go.Proofs.YtfcgdfcekpbliaaGreatDoor
