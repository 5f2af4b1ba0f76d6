/-
  Numbers as digits: a text's value, the document's.
-/
import Derived.Test.YtfgldglelijekaaGreatDoorDig1
namespace Go.Proofs.YtfgldglelijekaaGreatDoor
set_option linter.unusedSimpArgs false
set_option linter.unusedVariables false
set_option linter.unusedSectionVars false
open Go.ChangeShapes Go.WideShapes Go.ChangeAt Go.RowKit Go.Deep Go.Shelf

def vlE (s : List UInt8) : Option Int → Int × Bool
  | some n => (n, !s.isEmpty)
  | none => (0, false)