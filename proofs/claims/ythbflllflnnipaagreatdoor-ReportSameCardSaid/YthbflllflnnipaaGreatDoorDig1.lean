/-
  Numbers as digits: the document's text of a number.
-/
import Derived.Test.YthbflllflnnipaaGreatDoorMa
namespace Go.Proofs.YthbflllflnnipaaGreatDoor
set_option linter.unusedSimpArgs false
set_option linter.unusedVariables false
set_option linter.unusedSectionVars false
open Go.ChangeShapes Go.WideShapes Go.ChangeAt Go.RowKit Go.Deep Go.Shelf

def digB (d : Nat) : List UInt8 := [UInt8.ofNat (48 + d)]
theorem dig_cut {n : Nat} (h : n < 10) : ([48, 49, 50, 51, 52, 53, 54, 55, 56, 57].drop n).take 1 = digB n := by
  have : ∀ m : Fin 10, (([48, 49, 50, 51, 52, 53, 54, 55, 56, 57] : List UInt8).drop m.val).take 1 = digB m.val := by decide
  exact this ⟨n, h⟩
set_option maxRecDepth 100000 in
theorem ref03_digit (n : Nat) (hn : n < 10) (w : World) : Calls Tryz.prog 120 #[.int .i64 (n : Int)] w fun e w' => e = .returned (bstr (digB n)) ∧ w = w' := by
  have h1 := Lib.hid (dig_cut hn)
  generalize digB n = P at h1 ⊢
  have i1 : (n : Int) + 1 ≤ 10 := by omega
  have i2 : ((n : Int) + 1).toNat = n + 1 := by omega
  have i3 : (0 : Int) ≤ (n : Int) + 1 := by omega
  have i4 : (n : Int) ≤ (n : Int) + 1 := by omega
  go_enter Tryz.func120, Tryz.ntmps120
  go_wp2_with fail
  go_ret
  exact ⟨ret1d (by rw [← h1.out]; rfl), rfl⟩
