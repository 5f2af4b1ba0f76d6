/-
  From the row's list of variables to what the walks ask of the world: the heads of the lines.
-/
import Derived.Test.YtfcgdfcekpbliaaGreatDoorLaid
import Derived.Test.YtfcgdfcekpbliaaGreatDoorLs1
namespace Go.Proofs.YtfcgdfcekpbliaaGreatDoor
set_option linter.unusedSimpArgs false
set_option linter.unusedVariables false
set_option linter.unusedSectionVars false
open Go.ChangeShapes Go.WideShapes Go.ChangeAt Go.RowKit Go.Deep

theorem g_heads : Tryz.prog.globalNamed "stickler/scene.heads" = some 0 := by kernel_rfl
def hdL : List (List UInt8) := [[], [104, 101, 97, 100, 101, 114, 115], [100, 97, 116, 97], [115, 101, 116], [103, 114, 111, 119], [99, 117, 116], [99, 97, 108, 108], [108, 101, 97, 118, 101], [119, 97, 105, 116]]
theorem hd_lit : ∀ k : Fin 9, hdL[k.val]? = some (headW (k.val : Int)) := by decide
theorem hd_of {W : World} {l r : List (String × DataW Unit)} (i : Nat) (hL : laidMetH Tryz.prog l W) (hl : (l.all fun x => x.2.handleName?.isNone) = true) (e : l.drop i = ("stickler/scene.heads", strsData hdL) :: r) : Hd W := by
  rw [Go.MakeChecks.laidMetH_plain _ _ _ hl] at hL
  have h1 := laid_drop i l hL
  rw [e] at h1
  have h2 := strs_of_head g_heads (t := 90) (e := 9) (n := 9) (by kernel_rfl) Tryz.underlying90 Tryz.underlying9 (by kernel_rfl) (by kernel_rfl) h1
  have hc : ∀ k : Nat, k < 9 → W.cell? ⟨0, k, none⟩ = some (bstr (headW k)) := by
    intro k hk
    rw [World.var?_cell g_heads h2 k]
    simp [hd_lit ⟨k, hk⟩]
  exact ⟨hc, cell_lt (hc 0 (by omega))⟩
theorem sceneReads_of (t : List UInt8) (W : World) (hE : Env W) (hd : Hd W) (_ : t.length ≤ 9223372036854775807) :
    Calls Tryz.prog 4 #[bstr t] W fun e w' => e = .returned (.bool true) ∧ ∃ j, w' = W.more j := (sceneReads_law t W hE hd).mono fun _ _ h => h
end Go.Proofs.YtfcgdfcekpbliaaGreatDoor
