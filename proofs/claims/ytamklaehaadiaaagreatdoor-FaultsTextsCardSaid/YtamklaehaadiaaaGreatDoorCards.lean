/-
  DERIVED. GIVEN WITH THE SEED: THE CARDS: each row of YtamklaehaadiaaaGreatDoorRows.lean that lists a variable, with what it lists TIED to the program's text (the seventh form; the later family's looks); each row that meets fmt, with fmt's text TOLD by the authors' own Lean function (tested against real Go, not proved from fmt's source: count such statements apart). THE CARD IS WHAT COUNTS. Prove the row's statement (the work); the ties are given (YtamklaehaadiaaaGreatDoorTie.lean); close each card by the builder's one call (the guide's Derived/Test/ToyasCard.lean, 'card_holds'). Laid BY PROGRAM, IN A SANDBOX (cutbox-door.mjs). By AI agents, Wed Nov 11 2026. No macro, syntax, notation, axiom, sorry.
-/
import Derived.Test.YtamklaehaadiaaaGreatDoorRows
import GoSem.ClaimSeven
namespace Go.Proofs.YtamklaehaadiaaaGreatDoor
namespace Rows

/-- THE TIED CARD OF 'sticklerlaw09.FaultsTexts'. -/
def faultsTextsCard : Claim7 := { stood := { row := faultsTextsRow, standIns := [], harness := (true, "82602b10b05c97717b3a620210ea1b5dac62cc1e7b3be22c074947c1188d5b6b"), looks := true }, kinds := [], alts := [], laidByText := true, laidKinds := [.data, .data, .data, .data, .sentinel, .sentinel, .data, .pinned], laidTests := true, laidLooks := .later }
def FaultsTextsCardSaid : Prop := Claim7.holds Tryz.pinned (.plain (OpenSpec.ofChange faultsTextsSpec)) faultsTextsCard

/-- THE SECOND FORM's CARD OF 'sticklerlaw09.FaultsTexts'. -/
def faultsTextsUptoCard : Claim7 := { stood := { row := faultsTextsUptoRow, standIns := [], harness := (true, "82602b10b05c97717b3a620210ea1b5dac62cc1e7b3be22c074947c1188d5b6b"), looks := true }, kinds := [], alts := [], laidByText := true, laidKinds := [.data, .data, .data, .data, .sentinel, .sentinel, .data, .pinned], laidTests := true, laidLooks := .later }
def FaultsTextsUptoCardSaid : Prop := Claim7.holds Tryz.pinned (.plain (OpenSpec.upto faultsTextsSpec)) faultsTextsUptoCard
end Rows
end Go.Proofs.YtamklaehaadiaaaGreatDoor
