/-
  DERIVED. GIVEN WITH THE SEED: THE CARDS: each row of YtjhhdgmhocpceaaGreatDoorRows.lean that lists a variable, with what it lists TIED to the program's text (the seventh form; the later family's looks); each row that meets fmt, with fmt's text TOLD by the authors' own Lean function (tested against real Go, not proved from fmt's source: count such statements apart). THE CARD IS WHAT COUNTS. Prove the row's statement (the work); the ties are given (YtjhhdgmhocpceaaGreatDoorTie.lean); close each card by the builder's one call (the guide's Derived/Test/ToyasCard.lean, 'card_holds'). Laid BY PROGRAM, IN A SANDBOX (cutbox-door.mjs). By AI agents, Wed Nov 11 2026. No macro, syntax, notation, axiom, sorry.
-/
import Derived.Test.YtjhhdgmhocpceaaGreatDoorRows
import GoSem.ClaimSeven
namespace Go.Proofs.YtjhhdgmhocpceaaGreatDoor
namespace Rows

/-- THE TIED CARD OF 'sticklerlaw38.RulesFaults'. -/
def rulesFaultsCard : Claim7 := { stood := { row := rulesFaultsRow, standIns := [], harness := (true, "10d78ec9e7a7ff9244e2c392bec3d4a4961ed0ec73c3c1ba6240782bc658e0ef"), looks := false }, kinds := [], alts := [], laidByText := true, laidKinds := [.data, .pinned], laidTests := true, laidLooks := .later }
def RulesFaultsCardSaid : Prop := Claim7.holds Tryz.pinned (.plain (OpenSpec.ofChange rulesFaultsSpec)) rulesFaultsCard

/-- THE SECOND FORM's CARD OF 'sticklerlaw38.RulesFaults'. -/
def rulesFaultsUptoCard : Claim7 := { stood := { row := rulesFaultsUptoRow, standIns := [], harness := (true, "10d78ec9e7a7ff9244e2c392bec3d4a4961ed0ec73c3c1ba6240782bc658e0ef"), looks := false }, kinds := [], alts := [], laidByText := true, laidKinds := [.data, .pinned], laidTests := true, laidLooks := .later }
def RulesFaultsUptoCardSaid : Prop := Claim7.holds Tryz.pinned (.plain (OpenSpec.upto rulesFaultsSpec)) rulesFaultsUptoCard
end Rows
end Go.Proofs.YtjhhdgmhocpceaaGreatDoor
