/-
  Summaries: the walk of the document's lines.
-/
import Derived.Test.YtfgldglelijekaaGreatDoorSum5
import Derived.Test.YtfgldglelijekaaGreatDoorHeld
import Derived.Test.YtfgldglelijekaaGreatDoorDig4
namespace Go.Proofs.YtfgldglelijekaaGreatDoor
set_option linter.unusedSimpArgs false
set_option linter.unusedVariables false
set_option linter.unusedSectionVars false
open Go.ChangeShapes Go.WideShapes Go.ChangeAt Go.RowKit Go.Deep Go.Shelf

abbrev RsT : TypeId := 39
theorem Blk.rowGetT {w : World} {g : Nat} {t : TypeId} {F : Nat → Int} {sec : Value} (h : Blk w g t (rowA F sec)) {j : Nat} (hj : j < 20) : w.cell? ⟨g, j, none⟩ = some (.int .i64 (F j)) := (h.cell j).trans (rowA_get F sec hj)
def nameD (t : Nat) : List UInt8 := if t < 10 then tyName t else [111, 116, 104, 101, 114, 115]
def typesD (F : Nat → Int) (n : Nat) : List (List UInt8) := (List.range n).flatMap fun (t : Nat) => partL (nameD t) (F (4 + t))
theorem typesD_step (F : Nat → Int) (n : Nat) : typesD F (n + 1) = typesD F n ++ partL (nameD n) (F (4 + n)) := by
  unfold typesD; rw [List.range_succ, List.flatMap_append]; simp
theorem typesD_all (F : Nat → Int) : typesD F 11 = typesL F 10 ++ partL [111, 116, 104, 101, 114, 115] (F 14) := by
  rw [typesD_step]
  have h : typesD F 10 = typesL F 10 := by
    have e : List.range 10 = [0, 1, 2, 3, 4, 5, 6, 7, 8, 9] := by decide
    unfold typesD typesL
    rw [e]
    rfl
  rw [h]; rfl
theorem typesD_len (F : Nat → Int) : ∀ n, (typesD F n).length ≤ n
  | 0 => by simp [typesD]
  | n + 1 => by rw [typesD_step, List.length_append]; have := typesD_len F n; have := partL_len (nameD n) (F (4 + n)); omega
theorem kindN_at : ∀ q : Fin 4, kindF ((q.val : Int) + 1) = kindN q.val := by decide +kernel
theorem sideL_zero (F : Nat → Int) : sideL F 0 = [99, 108, 105, 101, 110, 116, 32] ++ (Lib.itoa (F 0) ++ 32 :: Lib.itoa (F 2)) := by
  show Lib.join [[99, 108, 105, 101, 110, 116], _, _] [32] = _
  simp [Lib.join_cons, Lib.joinTail]
theorem sideL_one (F : Nat → Int) : sideL F 1 = [115, 101, 114, 118, 101, 114, 32] ++ (Lib.itoa (F 1) ++ 32 :: Lib.itoa (F 3)) := by
  show Lib.join [[115, 101, 114, 118, 101, 114], _, _] [32] = _
  simp [Lib.join_cons, Lib.joinTail]
theorem OwnX.of_two {w : World} {B g : Nat} {c d : List UInt8} (h : Blk w g 9 #[bstr c, bstr d]) (hB : B ≤ g) : OwnX B w (.slice (some ⟨g, 0, none⟩) 2 2) [c, d] :=
  ⟨rfl, .inr ⟨g, 2, #[bstr c, bstr d], rfl, hB, h, Nat.le_refl _, by unfold maxLen; omega, rfl, rfl⟩⟩
end Go.Proofs.YtfgldglelijekaaGreatDoor
