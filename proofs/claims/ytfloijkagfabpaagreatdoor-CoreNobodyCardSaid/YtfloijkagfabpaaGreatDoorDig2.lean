/-
  Numbers as digits: the document's text of a number: it calls itself.
-/
import Derived.Test.YtfloijkagfabpaaGreatDoorMe
namespace Go.Proofs.YtfloijkagfabpaaGreatDoor
set_option linter.unusedSimpArgs false
set_option linter.unusedVariables false
set_option linter.unusedSectionVars false
open Go.ChangeShapes Go.WideShapes Go.ChangeAt Go.RowKit Go.Deep Go.Shelf

theorem dig_lo {n : Nat} (h : n < 10) : Lib.decDigits n = digB n := dec_lo h
theorem dig_hi {n : Nat} (h : ¬ n < 10) : Lib.decDigits n = Lib.decDigits (n / 10) ++ digB (n % 10) := dec_hi h
theorem dec_len20 {n : Nat} (h : n < 10000000000000000000) : (Lib.decDigits n).length ≤ 19 := dec_len 18 n (by omega)