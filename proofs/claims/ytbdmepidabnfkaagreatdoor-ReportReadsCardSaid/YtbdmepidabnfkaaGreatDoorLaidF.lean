/-
  From the row's list of variables to what the walks ask of the world: the names of codes.
-/
import Derived.Test.YtbdmepidabnfkaaGreatDoorLaid
import Derived.Test.YtbdmepidabnfkaaGreatDoorMi
namespace Go.Proofs.YtbdmepidabnfkaaGreatDoor
set_option linter.unusedSimpArgs false
set_option linter.unusedVariables false
set_option linter.unusedSectionVars false
open Go.ChangeShapes Go.WideShapes Go.ChangeAt Go.RowKit Go.Deep

theorem g_fnames : Tryz.prog.globalNamed "stickler/faults.names" = some 1 := by kernel_rfl
theorem fn_of {W : World} {l r : List (String × DataW Unit)} (i : Nat) (hL : laidMetH Tryz.prog l W) (hl : (l.all fun x => x.2.handleName?.isNone) = true) (e : l.drop i = ("stickler/faults.names", strsData cdNames) :: r) : FN W := by
  rw [Go.MakeChecks.laidMetH_plain _ _ _ hl] at hL
  have h1 := laid_drop i l hL
  rw [e] at h1
  have h2 := strs_of_head g_fnames (t := 138) (e := 9) (n := 14) (by kernel_rfl) Tryz.underlying138 Tryz.underlying9 (by kernel_rfl) (by kernel_rfl) h1
  intro k hk
  rw [World.var?_cell g_fnames h2 k]
  simp [cdName_lit ⟨k, hk⟩]
end Go.Proofs.YtbdmepidabnfkaaGreatDoor
