/-
  Summaries: the document's lines, walked.
-/
import Derived.Test.YtfgldglelijekaaGreatDoorSum7
import Derived.Deep.RegionLaw
import Derived.StillTailTactics
namespace Go.Proofs.YtfgldglelijekaaGreatDoor
set_option linter.unusedSimpArgs false
set_option linter.unusedVariables false
set_option linter.unusedSectionVars false
open Go.ChangeShapes Go.WideShapes Go.ChangeAt Go.RowKit Go.Deep Go.Shelf

end Go.Proofs.YtfgldglelijekaaGreatDoor
