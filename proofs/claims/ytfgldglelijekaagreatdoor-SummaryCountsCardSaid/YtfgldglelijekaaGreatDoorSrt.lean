/-
  A row of numbers of the call's own, sorted, and without those that stand twice.
-/
import Derived.Test.YtfgldglelijekaaGreatDoorMa
import Derived.Test.YtfgldglelijekaaGreatDoorShelf
import Derived.Sort.OwnSortedInts
namespace Go.Proofs.YtfgldglelijekaaGreatDoor
set_option linter.unusedSimpArgs false
set_option linter.unusedVariables false
set_option linter.unusedSectionVars false
open Go.ChangeShapes Go.WideShapes Go.ChangeAt Go.RowKit Go.Deep Go.Shelf Go.Sort

theorem flat_intC (l : List Int) : l.flatMap intC = l.map (Value.int .i64) := by induction l <;> simp_all [intC]
theorem OwnI.row {B : Nat} {w : World} {v : Value} {l : List Int} (h : OwnI B w v l) : w.ownsRow B 3 1 v l.length (l.map (Value.int .i64)) := by rw [← flat_intC]; exact h
theorem OwnI.of {B : Nat} {w : World} {v : Value} {l : List Int} (h : w.ownsRow B 3 1 v l.length (l.map (Value.int .i64))) : OwnI B w v l := by rw [← flat_intC] at h; exact h

theorem sort_ints {B : Nat} {w : World} {v : Value} {l : List Int} (h : OwnI B w v l) (hB : B ≤ w.heap.size) (hl : l.length ≤ 1048576) :
    Calls Tryz.prog 35 #[v] w fun e w' => e = .returned (.tuple #[]) ∧ OwnI B w' v (l.mergeSort fun x y => decide (x ≤ y)) ∧ Below B w w' := by
  have h0 := OwnI.row h
  rcases h0.2 with ⟨rfl, hn⟩ | ⟨g, cap, cur, rfl, hg, hh, h3, h4, h5, h6⟩
  · have hl0 : l = [] := List.eq_nil_of_length_eq_zero hn
    subst hl0
    refine (Tryz.slices_Sort_int_none none 0 w).mono fun e w' ⟨he, hw⟩ => ⟨he, ?_, ?_⟩
    · rw [hw, List.mergeSort_nil]; exact h
    · rw [hw]; exact Below.refl _ _
  · refine (Tryz.slices_Sort_int g 0 cap l w (holds_of_blockI hh (by simpa using h6)) (Array.getElem?_eq_some_iff.1 hh).1 (by omega)).mono fun e w' ⟨he, n, os, hw⟩ => ⟨he, ?_, ?_⟩
    · have hlen : (l.mergeSort fun x y => decide (x ≤ y)).length = l.length := List.length_mergeSort l
      refine OwnI.of ?_
      rw [hw, hlen]
      exact ownsRow_sortedI (ss := l) (by rw [hlen]) hg hh h3 h4 h5
    · rw [hw]
      exact own_grown (Below.refl B w) h0 (by exact grownBy_sortedI _) (Nat.le_refl _) hB

theorem compact_ints {B : Nat} {w : World} {v : Value} {l : List Int} (h : OwnI B w v l) (hB : B ≤ w.heap.size) (hl : l.length ≤ 1048576) :
    Calls Tryz.prog 36 #[v] w fun e w' => ∃ v', e = .returned v' ∧ OwnI B w' v' (Lib.compact l) ∧ Below B w w' := by
  have h0 := OwnI.row h
  rcases h0.2 with ⟨rfl, hn⟩ | ⟨g, cap, cur, rfl, hg, hh, h3, h4, h5, h6⟩
  · have hl0 : l = [] := List.eq_nil_of_length_eq_zero hn
    subst hl0
    refine (Tryz.slices_Compact_int_empty none 0 w).mono fun e w' ⟨he, hw⟩ => ⟨_, he, ?_, ?_⟩
    · rw [hw]; exact OwnC.nil _ _
    · rw [hw]; exact Below.refl _ _
  · have hcl := compact_len l
    refine (Tryz.slices_Compact_int g 0 cap l w (holds_of_blockI hh (by simpa using h6)) (by omega) h3).mono fun e w' ⟨he, n, hw⟩ => ⟨_, he, ?_, ?_⟩
    · refine OwnI.of ?_
      rw [hw, ← grow_empty (putRow _ _ _ _ _)]
      generalize Lib.compact l = c at hcl ⊢
      have hlen : (c ++ List.replicate (l.length - c.length) (0 : Int)).length = l.length := by simp; omega
      refine ⟨by simp, .inr ⟨g, cap, _, rfl, hg, heap_sortedI _ hh, by omega, h4, by simp [putCells, h5], ?_⟩⟩
      have ht := take_putCellsI cur (c ++ List.replicate (l.length - c.length) (0 : Int)) (by omega)
      rw [hlen] at ht
      have ht2 := congrArg (List.take c.length) ht
      rw [List.take_take, Nat.min_eq_left hcl] at ht2
      rw [Nat.mul_one, ht2, List.map_append, List.take_left' (by simp)]
    · rw [hw, ← grow_empty (putRow _ _ _ _ _)]
      exact own_grown (Below.refl B w) h0 (by exact grownBy_sortedI _) (Nat.le_refl _) hB
end Go.Proofs.YtfgldglelijekaaGreatDoor
