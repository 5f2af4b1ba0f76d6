/-
  What is done wrong: plain: the names of its kinds.
-/
import Derived.Test.YtmlbomblbdbikaaGreatDoorMh
namespace Go.Proofs.YtmlbomblbdbikaaGreatDoor
set_option linter.unusedSimpArgs false
set_option linter.unusedVariables false
set_option linter.unusedSectionVars false
open Go.ChangeShapes Go.WideShapes Go.ChangeAt Go.RowKit Go.Deep Go.Shelf

def injT : List UInt8 := [112, 97, 100, 32, 112, 105, 110, 103, 55, 32, 112, 105, 110, 103, 111, 110, 32, 115, 101, 116, 115, 111, 110, 32, 97, 99, 107, 98, 111, 100, 121, 32, 115, 101, 116, 115, 53, 32, 115, 116, 101, 112, 48, 32, 111, 118, 101, 114, 32, 100, 97, 116, 97, 105, 100, 108, 101, 32, 114, 115, 116, 105, 100, 108, 101, 32, 97, 108, 111, 110, 101, 32, 112, 114, 105, 111, 52, 32, 97, 119, 97, 121, 55, 32, 112, 117, 115, 104, 32, 108, 111, 110, 103, 32, 116, 97, 98, 108, 101, 32, 117, 112, 100, 97, 116, 101, 32, 117, 112, 112, 101, 114, 32, 98, 97, 114, 114, 101, 100, 32, 110, 111, 112, 97, 116, 104, 32, 119, 105, 116, 104, 105, 110, 32, 112, 117, 115, 104, 50, 32, 102, 114, 97, 109, 101, 48, 32, 119, 105, 110, 100, 111, 119, 32, 114, 115, 116, 48, 32, 97, 99, 107]
def injW : List (List UInt8) := [[112, 97, 100], [112, 105, 110, 103, 55], [112, 105, 110, 103, 111, 110], [115, 101, 116, 115, 111, 110], [97, 99, 107, 98, 111, 100, 121], [115, 101, 116, 115, 53], [115, 116, 101, 112, 48], [111, 118, 101, 114], [100, 97, 116, 97, 105, 100, 108, 101], [114, 115, 116, 105, 100, 108, 101], [97, 108, 111, 110, 101], [112, 114, 105, 111, 52], [97, 119, 97, 121, 55], [112, 117, 115, 104], [108, 111, 110, 103], [116, 97, 98, 108, 101], [117, 112, 100, 97, 116, 101], [117, 112, 112, 101, 114], [98, 97, 114, 114, 101, 100], [110, 111, 112, 97, 116, 104], [119, 105, 116, 104, 105, 110], [112, 117, 115, 104, 50], [102, 114, 97, 109, 101, 48], [119, 105, 110, 100, 111, 119], [114, 115, 116, 48], [97, 99, 107]]
set_option maxRecDepth 100000 in
theorem inj_cut : cutF 32 injT = injW := by decide +kernel
def injN (n : Int) : List UInt8 := if n < 1 ∨ 26 < n then [] else injW.getD (n - 1).toNat []
theorem inj_at (k : Nat) (h : k < injW.length) : injW[k] = injW.getD k [] := by rw [List.getD_eq_getElem?_getD, List.getElem?_eq_getElem h]; rfl
theorem inj_two : ∀ i j : Fin 26, injW.getD i.val [] = injW.getD j.val [] → i = j := by decide +kernel
theorem inj_eq (s : List UInt8) (k : Nat) (hk : k < 26) : injW.getD k [] = s ↔ idxX injW s = (k : Int) := by
  have hk' : k < injW.length := hk
  constructor
  · intro h
    have := seekX_hit s injW 0 k hk' (by rw [inj_at k hk']; exact h) (fun j hj hjk e => by
      rw [inj_at j hj, ← h] at e
      have := inj_two ⟨j, hj⟩ ⟨k, hk⟩ e
      have h9 : j = k := congrArg Fin.val this
      omega)
    rw [Nat.zero_add] at this
    exact this
  · intro h
    obtain ⟨h1, h2⟩ := seekX_at s injW 0 k (by rw [Nat.zero_add]; exact h)
    rw [inj_at k h1] at h2
    exact h2
end Go.Proofs.YtmlbomblbdbikaaGreatDoor
