/-
  How the arguments of the laws read: bytes, texts.
-/
import Derived.Test.YtfcgdfcekpbliaaGreatDoorMa
import Derived.Test.YtfcgdfcekpbliaaGreatDoorRows
namespace Go.Proofs.YtfcgdfcekpbliaaGreatDoor
set_option linter.unusedSimpArgs false
set_option linter.unusedVariables false
set_option linter.unusedSectionVars false
open Go.ChangeShapes Go.WideShapes Go.ChangeAt Go.RowKit Go.Deep
open Go.ChangeMaps (open_string shut_string)

section
variable {H : Type} {enc : TypeId × Value → H} {W : World} {sp : Nat → Bool}
end
