/-
  DERIVED. GIVEN WITH THE SEED: THE CARDS: each row of YtfloijkagfabpaaGreatDoorRows.lean that lists a variable, with what it lists TIED to the program's text (the seventh form; the later family's looks); each row that meets fmt, with fmt's text TOLD by the authors' own Lean function (tested against real Go, not proved from fmt's source: count such statements apart). THE CARD IS WHAT COUNTS. Prove the row's statement (the work); the ties are given (YtfloijkagfabpaaGreatDoorTie.lean); close each card by the builder's one call (the guide's Derived/Test/ToyasCard.lean, 'card_holds'). Laid BY PROGRAM, IN A SANDBOX (cutbox-door.mjs). By AI agents, Wed Nov 11 2026. No macro, syntax, notation, axiom, sorry.
-/
import Derived.Test.YtfloijkagfabpaaGreatDoorRows
import GoSem.ClaimSeven
namespace Go.Proofs.YtfloijkagfabpaaGreatDoor
namespace Rows

/-- THE TIED CARD OF 'sticklerlaw39.CoreMore'. -/
def coreMoreCard : Claim7 := { stood := { row := coreMoreRow, standIns := [], harness := (true, "0b63977bc187d0729dd8e7146bf2c605d062d391ad04444185e041b2c67fef6d"), looks := false }, kinds := [], alts := [], laidByText := true, laidKinds := [.data], laidTests := true, laidLooks := .later }
def CoreMoreCardSaid : Prop := Claim7.holds Tryz.pinned (.plain (OpenSpec.ofChange coreMoreSpec)) coreMoreCard

/-- THE TIED CARD OF 'sticklerlaw39.CoreKept'. -/
def coreKeptCard : Claim7 := { stood := { row := coreKeptRow, standIns := [], harness := (true, "0b63977bc187d0729dd8e7146bf2c605d062d391ad04444185e041b2c67fef6d"), looks := false }, kinds := [], alts := [], laidByText := true, laidKinds := [.data], laidTests := true, laidLooks := .later }
def CoreKeptCardSaid : Prop := Claim7.holds Tryz.pinned (.plain (OpenSpec.ofChange coreKeptSpec)) coreKeptCard

/-- THE TIED CARD OF 'sticklerlaw39.CoreNobody'. -/
def coreNobodyCard : Claim7 := { stood := { row := coreNobodyRow, standIns := [], harness := (true, "0b63977bc187d0729dd8e7146bf2c605d062d391ad04444185e041b2c67fef6d"), looks := false }, kinds := [], alts := [], laidByText := true, laidKinds := [.data], laidTests := true, laidLooks := .later }
def CoreNobodyCardSaid : Prop := Claim7.holds Tryz.pinned (.plain (OpenSpec.ofChange coreNobodySpec)) coreNobodyCard

/-- THE TIED CARD OF 'sticklerlaw39.CoreAsks'. -/
def coreAsksCard : Claim7 := { stood := { row := coreAsksRow, standIns := [], harness := (true, "0b63977bc187d0729dd8e7146bf2c605d062d391ad04444185e041b2c67fef6d"), looks := false }, kinds := [], alts := [], laidByText := true, laidKinds := [.data], laidTests := true, laidLooks := .later }
def CoreAsksCardSaid : Prop := Claim7.holds Tryz.pinned (.plain (OpenSpec.ofChange coreAsksSpec)) coreAsksCard

/-- THE SECOND FORM's CARD OF 'sticklerlaw39.CoreMore'. -/
def coreMoreUptoCard : Claim7 := { stood := { row := coreMoreUptoRow, standIns := [], harness := (true, "0b63977bc187d0729dd8e7146bf2c605d062d391ad04444185e041b2c67fef6d"), looks := false }, kinds := [], alts := [], laidByText := true, laidKinds := [.data], laidTests := true, laidLooks := .later }
def CoreMoreUptoCardSaid : Prop := Claim7.holds Tryz.pinned (.plain (OpenSpec.upto coreMoreSpec)) coreMoreUptoCard

/-- THE SECOND FORM's CARD OF 'sticklerlaw39.CoreKept'. -/
def coreKeptUptoCard : Claim7 := { stood := { row := coreKeptUptoRow, standIns := [], harness := (true, "0b63977bc187d0729dd8e7146bf2c605d062d391ad04444185e041b2c67fef6d"), looks := false }, kinds := [], alts := [], laidByText := true, laidKinds := [.data], laidTests := true, laidLooks := .later }
def CoreKeptUptoCardSaid : Prop := Claim7.holds Tryz.pinned (.plain (OpenSpec.upto coreKeptSpec)) coreKeptUptoCard

/-- THE SECOND FORM's CARD OF 'sticklerlaw39.CoreNobody'. -/
def coreNobodyUptoCard : Claim7 := { stood := { row := coreNobodyUptoRow, standIns := [], harness := (true, "0b63977bc187d0729dd8e7146bf2c605d062d391ad04444185e041b2c67fef6d"), looks := false }, kinds := [], alts := [], laidByText := true, laidKinds := [.data], laidTests := true, laidLooks := .later }
def CoreNobodyUptoCardSaid : Prop := Claim7.holds Tryz.pinned (.plain (OpenSpec.upto coreNobodySpec)) coreNobodyUptoCard

/-- THE SECOND FORM's CARD OF 'sticklerlaw39.CoreAsks'. -/
def coreAsksUptoCard : Claim7 := { stood := { row := coreAsksUptoRow, standIns := [], harness := (true, "0b63977bc187d0729dd8e7146bf2c605d062d391ad04444185e041b2c67fef6d"), looks := false }, kinds := [], alts := [], laidByText := true, laidKinds := [.data], laidTests := true, laidLooks := .later }
def CoreAsksUptoCardSaid : Prop := Claim7.holds Tryz.pinned (.plain (OpenSpec.upto coreAsksSpec)) coreAsksUptoCard
end Rows
end Go.Proofs.YtfloijkagfabpaaGreatDoor
