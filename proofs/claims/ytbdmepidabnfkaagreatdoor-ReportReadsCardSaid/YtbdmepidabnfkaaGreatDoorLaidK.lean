/-
  From the row's list of variables to what the walks ask of the world: the names of types.
-/
import Derived.Test.YtbdmepidabnfkaaGreatDoorLaid
import Derived.Test.YtbdmepidabnfkaaGreatDoorMg
namespace Go.Proofs.YtbdmepidabnfkaaGreatDoor
set_option linter.unusedSimpArgs false
set_option linter.unusedVariables false
set_option linter.unusedSectionVars false
open Go.ChangeShapes Go.WideShapes Go.ChangeAt Go.RowKit Go.Deep

theorem g_kinds : Tryz.prog.globalNamed "stickler/kinds.names" = some 0 := by kernel_rfl
theorem kn_of {W : World} {l r : List (String × DataW Unit)} (i : Nat) (hL : laidMetH Tryz.prog l W) (hl : (l.all fun x => x.2.handleName?.isNone) = true) (e : l.drop i = ("stickler/kinds.names", strsData tyNames) :: r) : KN W := by
  rw [Go.MakeChecks.laidMetH_plain _ _ _ hl] at hL
  have h1 := laid_drop i l hL
  rw [e] at h1
  have h2 := strs_of_head g_kinds (t := 121) (e := 9) (n := 10) (by kernel_rfl) Tryz.underlying121 Tryz.underlying9 (by kernel_rfl) (by kernel_rfl) h1
  intro k hk
  rw [World.var?_cell g_kinds h2 k]
  have : ∀ m : Fin 10, tyNames[m.val]? = some (tyName m.val) := by decide
  simp [this ⟨k, hk⟩]
theorem envK_of {W : World} {l r1 r2 r3 r4 : List (String × DataW Unit)} {n1 n2 : String} {d1 d2 : DataW Unit} (i1 i2 i3 i4 : Nat) (hL : laidMetH Tryz.prog l W) (hS : W.ShapedOpen Tryz.prog) (hl : (l.all fun x => x.2.handleName?.isNone) = true)
    (e1 : l.drop i1 = ("internal/strconv.uint64pow10", Lib.tabData .u64 Lib.pow10Tab) :: r1) (e2 : l.drop i2 = ("strconv.ErrRange", .iface n1 d1) :: r2) (e3 : l.drop i3 = ("strconv.ErrSyntax", .iface n2 d2) :: r3) (e4 : l.drop i4 = ("stickler/kinds.names", strsData tyNames) :: r4) : EnvK W :=
  ⟨env_of i1 i2 i3 hL hS hl e1 e2 e3, kn_of i4 hL hl e4⟩
end Go.Proofs.YtbdmepidabnfkaaGreatDoor
