/-
  DERIVED. GIVEN WITH THE SEED: THE CARDS: each row of YtgghddhdkfocoaaDoorRows.lean that lists a variable, with what it lists TIED to the program's text (the seventh form; the later family's looks); each row that meets fmt, with fmt's text TOLD by the authors' own Lean function (tested against real Go, not proved from fmt's source: count such statements apart). THE CARD IS WHAT COUNTS. Prove the row's statement (the work); the ties are given (YtgghddhdkfocoaaDoorTie.lean); close each card by the builder's one call (the guide's Derived/Test/ToyasCard.lean, 'card_holds'). Laid BY PROGRAM, IN A SANDBOX (cutbox-door.mjs). By AI agents, Wed Nov 11 2026. No macro, syntax, notation, axiom, sorry.
-/
import Derived.Test.YtgghddhdkfocoaaDoorRows
import GoSem.ClaimSeven
namespace Go.Proofs.YtgghddhdkfocoaaDoor
namespace Rows

/-- THE TIED CARD OF 'sticklerlaw46.InjectNames'. -/
def injectNamesCard : Claim7 := { stood := { row := injectNamesRow, standIns := [], harness := (true, "b0168d4decf5a0bbecfaba94735f2b6b4132325ed56620f223b8e30083ca4431"), looks := false }, kinds := [], alts := [], laidByText := true, laidKinds := [.data, .data, .pinned], laidTests := true, laidLooks := .later }
def InjectNamesCardSaid : Prop := Claim7.holds Tryd.pinned (.plain (OpenSpec.ofChange injectNamesSpec)) injectNamesCard

/-- THE SECOND FORM's CARD OF 'sticklerlaw46.InjectNames'. -/
def injectNamesUptoCard : Claim7 := { stood := { row := injectNamesUptoRow, standIns := [], harness := (true, "b0168d4decf5a0bbecfaba94735f2b6b4132325ed56620f223b8e30083ca4431"), looks := false }, kinds := [], alts := [], laidByText := true, laidKinds := [.data, .data, .pinned], laidTests := true, laidLooks := .later }
def InjectNamesUptoCardSaid : Prop := Claim7.holds Tryd.pinned (.plain (OpenSpec.upto injectNamesSpec)) injectNamesUptoCard
end Rows
end Go.Proofs.YtgghddhdkfocoaaDoor
