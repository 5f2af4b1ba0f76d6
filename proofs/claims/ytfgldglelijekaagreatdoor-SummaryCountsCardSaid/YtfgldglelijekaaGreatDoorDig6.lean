/-
  Numbers as digits: the program's text of a number, and a text read as a number.
-/
import Derived.Test.YtfgldglelijekaaGreatDoorEnv
import Derived.Test.YtfgldglelijekaaGreatDoorDigQ
namespace Go.Proofs.YtfgldglelijekaaGreatDoor
set_option linter.unusedSimpArgs false
set_option linter.unusedVariables false
set_option linter.unusedSectionVars false
open Go.ChangeShapes Go.WideShapes Go.ChangeAt Go.RowKit Go.Deep Go.Shelf

end Go.Proofs.YtfgldglelijekaaGreatDoor
