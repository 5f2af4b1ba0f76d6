/-
  DERIVED. GIVEN WITH THE SEED: THE CARDS: each row of YtfcklbiejlkafaaGreatDoorRows.lean that lists a variable, with what it lists TIED to the program's text (the seventh form; the later family's looks); each row that meets fmt, with fmt's text TOLD by the authors' own Lean function (tested against real Go, not proved from fmt's source: count such statements apart). THE CARD IS WHAT COUNTS. Prove the row's statement (the work); the ties are given (YtfcklbiejlkafaaGreatDoorTie.lean); close each card by the builder's one call (the guide's Derived/Test/ToyasCard.lean, 'card_holds'). Laid BY PROGRAM, IN A SANDBOX (cutbox-door.mjs). By AI agents, Wed Nov 11 2026. No macro, syntax, notation, axiom, sorry.
-/
import Derived.Test.YtfcklbiejlkafaaGreatDoorRows
import GoSem.ClaimSeven
namespace Go.Proofs.YtfcklbiejlkafaaGreatDoor
namespace Rows

/-- THE TIED CARD OF 'sticklerlaw38.RulesSets'. -/
def rulesSetsCard : Claim7 := { stood := { row := rulesSetsRow, standIns := [], harness := (true, "be38dc816150a58964a1cb4ee47d1d3f1e92fde3ce1f538151a4de8aa9ec9c58"), looks := false }, kinds := [], alts := [], laidByText := true, laidKinds := [.data, .pinned], laidTests := true, laidLooks := .later }
def RulesSetsCardSaid : Prop := Claim7.holds Tryz.pinned (.plain (OpenSpec.ofChange rulesSetsSpec)) rulesSetsCard

/-- THE TIED CARD OF 'sticklerlaw38.RulesNames'. -/
def rulesNamesCard : Claim7 := { stood := { row := rulesNamesRow, standIns := [], harness := (true, "be38dc816150a58964a1cb4ee47d1d3f1e92fde3ce1f538151a4de8aa9ec9c58"), looks := false }, kinds := [], alts := [], laidByText := true, laidKinds := [.data, .pinned], laidTests := true, laidLooks := .later }
def RulesNamesCardSaid : Prop := Claim7.holds Tryz.pinned (.plain (OpenSpec.ofChange rulesNamesSpec)) rulesNamesCard

/-- THE SECOND FORM's CARD OF 'sticklerlaw38.RulesSets'. -/
def rulesSetsUptoCard : Claim7 := { stood := { row := rulesSetsUptoRow, standIns := [], harness := (true, "be38dc816150a58964a1cb4ee47d1d3f1e92fde3ce1f538151a4de8aa9ec9c58"), looks := false }, kinds := [], alts := [], laidByText := true, laidKinds := [.data, .pinned], laidTests := true, laidLooks := .later }
def RulesSetsUptoCardSaid : Prop := Claim7.holds Tryz.pinned (.plain (OpenSpec.upto rulesSetsSpec)) rulesSetsUptoCard

/-- THE SECOND FORM's CARD OF 'sticklerlaw38.RulesNames'. -/
def rulesNamesUptoCard : Claim7 := { stood := { row := rulesNamesUptoRow, standIns := [], harness := (true, "be38dc816150a58964a1cb4ee47d1d3f1e92fde3ce1f538151a4de8aa9ec9c58"), looks := false }, kinds := [], alts := [], laidByText := true, laidKinds := [.data, .pinned], laidTests := true, laidLooks := .later }
def RulesNamesUptoCardSaid : Prop := Claim7.holds Tryz.pinned (.plain (OpenSpec.upto rulesNamesSpec)) rulesNamesUptoCard
end Rows
end Go.Proofs.YtfcklbiejlkafaaGreatDoor
