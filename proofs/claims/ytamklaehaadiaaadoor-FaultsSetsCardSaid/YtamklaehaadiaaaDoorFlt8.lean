/-
  Faults: slices.Grow of no row.
-/
import Derived.Test.YtamklaehaadiaaaDoorFlt7
namespace Go.Proofs.YtamklaehaadiaaaDoor
set_option linter.unusedSimpArgs false
set_option linter.unusedVariables false
set_option linter.unusedSectionVars false
open Go.ChangeShapes Go.WideShapes Go.ChangeAt Go.RowKit Go.Deep Go.Shelf

set_option maxRecDepth 100000 in
theorem grow_fl (n : Nat) (hn : n ≤ 1000000) (w : World) : Calls Tryd.prog 36 #[.slice none 0 0, .int .i64 n] w fun e w' => ∃ v, e = .returned v ∧ OwnFl w.heap.size w' v [] ∧ Below w.heap.size w w' := by
  by_cases h0 : n = 0
  · subst h0
    refine (Any8.slices_Grow_room Tryd.growFl none 0 0 0 w (by omega) (by omega) (by omega) (by omega)).mono ?_
    rintro e w' ⟨rfl, rfl⟩
    exact ⟨_, rfl, OwnC.nil _ _, Below.refl _ _⟩
  · obtain ⟨i0, _, hi, hz, hs, hby, _, _⟩ := st_fl
    refine (Any8.slices_Grow_grow Tryd.growFl i0 _ hi hz (by omega) none 0 0 n [] w (by omega) (by omega) (by rw [hby]; omega) (by omega) (by simp) (fun _ => rfl) (fun a h => by cases h)).mono ?_
    rintro e w' ⟨rfl, rfl⟩
    have hge : 0 + n ≤ grownCap w (0 + n) 0 (Tryd.growFl_ren.t 25) := grownCap_ge w _ _ _
    have hle : grownCap w (0 + n) 0 (Tryd.growFl_ren.t 25) ≤ maxLen := grownCap_le_maxLen w _ _ _ (by unfold maxLen; omega)
    refine ⟨_, rfl, ?_, ?_⟩
    · exact World.ownsRow_made (base := w.heap.size) (size := 2) (e := FlT) w.drew _ _ (Nat.le_refl _) hle (by
        simp only [Array.size_append, size_zeroCells, List.size_toArray, List.length_nil, Value.cells]
        show 0 + (0 + n - 0) * 2 + _ * 2 = _
        generalize grownCap w (0 + n) 0 (Tryd.growFl_ren.t 25) = cp at hge ⊢
        show 0 + (0 + n - 0) * 2 + (cp - (0 + n)) * 2 = cp * 2
        omega)
    · exact (below_drewN (Below.refl w.heap.size w) 1).alloc (Nat.le_refl _) _
end Go.Proofs.YtamklaehaadiaaaDoor
