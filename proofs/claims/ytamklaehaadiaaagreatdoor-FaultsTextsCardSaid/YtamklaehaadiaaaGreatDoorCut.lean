/-
  What strings.Split hands back, piece by piece.
-/
import Derived.Test.YtamklaehaadiaaaGreatDoorLine1
import Derived.Test.YtamklaehaadiaaaGreatDoorMax
namespace Go.Proofs.YtamklaehaadiaaaGreatDoor
set_option linter.unusedSimpArgs false
set_option linter.unusedVariables false
set_option linter.unusedSectionVars false
open Go.ChangeShapes Go.WideShapes Go.ChangeAt Go.RowKit Go.Deep Go.Shelf

theorem strings_cut (l : List UInt8) (c : UInt8) (m : Int) (w : World) (hm : l.length ≤ 1048576) (hM : w.cell? MaxA = some (.int .i64 m)) :
    Calls Tryz.prog 25 #[bstr l, bstr [c]] w fun e w' => e = .returned (.slice (some ⟨w.heap.size, 0, none⟩) (cutF c l).length (cutF c l).length) ∧ SlX w' w'.heap.size (some ⟨w.heap.size, 0, none⟩) (cutF c l) ∧ Below w.heap.size w w' := by
  have h := strings_split l c m w hm hM
  have h2 := split_slX l c w hm
  rw [split_cut] at h h2
  refine h.mono fun e w' ⟨he, hw⟩ => ⟨he, ?_, ?_⟩
  · rw [hw, World.size_alloc]; exact h2
  · rw [hw]; exact (Below.refl _ _).alloc (Nat.le_refl _) _
end Go.Proofs.YtamklaehaadiaaaGreatDoor
