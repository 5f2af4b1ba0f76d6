/-
  Numbers as digits: the document's text of a number.
-/
import Derived.Test.YtfgldglelijekaaGreatDoorDigP
import Derived.Test.YtfgldglelijekaaGreatDoorMa
namespace Go.Proofs.YtfgldglelijekaaGreatDoor
set_option linter.unusedSimpArgs false
set_option linter.unusedVariables false
set_option linter.unusedSectionVars false
open Go.ChangeShapes Go.WideShapes Go.ChangeAt Go.RowKit Go.Deep Go.Shelf

def digB (d : Nat) : List UInt8 := [UInt8.ofNat (48 + d)]
theorem dig_cut {n : Nat} (h : n < 10) : ([48, 49, 50, 51, 52, 53, 54, 55, 56, 57].drop n).take 1 = digB n := by
  have : ∀ m : Fin 10, (([48, 49, 50, 51, 52, 53, 54, 55, 56, 57] : List UInt8).drop m.val).take 1 = digB m.val := by decide
  exact this ⟨n, h⟩