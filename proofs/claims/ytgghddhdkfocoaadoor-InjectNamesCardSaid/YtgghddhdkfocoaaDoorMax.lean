/-
  The one variable of the library's that strings.Split reads: a number, whichever.
-/
import Derived.Test.YtgghddhdkfocoaaDoorSpl
namespace Go.Proofs.YtgghddhdkfocoaaDoor
set_option linter.unusedSimpArgs false
set_option linter.unusedVariables false
set_option linter.unusedSectionVars false
open Go.ChangeShapes Go.WideShapes Go.ChangeAt Go.RowKit Go.Deep

theorem max_cell {W : World} (h : W.ShapedOpen Tryd.prog) : ∃ m, W.cell? MaxA = some (.int .i64 m) :=
  Go.Proofs.cell_of_shapedOpen_int (zero := #[.int .i64 0]) (t := 3) h (of_decide_eq_true (by kernel_rfl)) (by kernel_rfl) rfl (by kernel_rfl) (by kernel_rfl) Tryd.underlying3
