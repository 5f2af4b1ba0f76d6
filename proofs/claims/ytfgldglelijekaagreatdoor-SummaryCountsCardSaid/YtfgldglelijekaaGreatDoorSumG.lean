/-
  Summaries: a whole report counted: the document's.
-/
import Derived.Test.YtfgldglelijekaaGreatDoorSumE
import Derived.Test.YtfgldglelijekaaGreatDoorSumF
import Derived.Test.YtfgldglelijekaaGreatDoorSum7
namespace Go.Proofs.YtfgldglelijekaaGreatDoor
set_option linter.unusedSimpArgs false
set_option linter.unusedVariables false
set_option linter.unusedSectionVars false
open Go.ChangeShapes Go.WideShapes Go.ChangeAt Go.RowKit Go.Deep Go.Shelf

theorem Blk.rowStepT {w : World} {g : Nat} {t : TypeId} {F : Nat → Int} {sec : Value} (h : Blk w g t (rowA F sec)) {j : Nat} (hj : j < 20) (d : Int) : Blk (w.setCell ⟨g, j, none⟩ (.int .i64 (F j + d))) g t (rowA (stepA F j d) sec) := by
  have := h.set_ j (.int .i64 (F j + d))
  rw [rowA_set F sec hj] at this
  exact this
def doneF (l : List Rec) (k i : Nat) : Int := if k = 0 then 0 else if k = 1 then tots 0 i l else tots 0 i l + tots 1 i l
theorem doneF_step (l : List Rec) (k i : Nat) (hk : k < 2) : doneF l (k + 1) i = doneF l k i + tots (k : Int) i l := by
  rcases (by omega : k = 0 ∨ k = 1) with rfl | rfl
  · simp [doneF]
  · simp [doneF]
theorem doneF_two (l : List Rec) (i : Nat) : doneF l 2 i = tot i l := by
  rw [← tots_two]; simp [doneF]
def partF (l : List Rec) (k q : Nat) (i : Nat) : Int := doneF l k i + tots (k : Int) i (l.take q)
theorem partF_zero (l : List Rec) (k : Nat) : partF l k 0 = doneF l k := by funext i; simp [partF, tots]
theorem partF_all (l : List Rec) (k : Nat) (hk : k < 2) : partF l k l.length = doneF l (k + 1) := by funext i; rw [doneF_step l k i hk]; unfold partF; rw [List.take_length]
theorem partF_no (l : List Rec) (k q : Nat) (hq : q < l.length) (h : ¬ l[q].fr = (k : Int)) : partF l k (q + 1) = partF l k q := by
  funext i; unfold partF; rw [tots_step _ _ _ _ hq]; unfold sv; rw [if_neg h]; omega
theorem partF_yes (l : List Rec) (k q : Nat) (hq : q < l.length) (h : l[q].fr = (k : Int)) (i : Nat) : partF l k (q + 1) i = partF l k q i + cv i l[q] := by
  unfold partF; rw [tots_step _ _ _ _ hq]; unfold sv; rw [if_pos h]; omega
theorem sv_bd (s : Int) (k : Nat) (x : Rec) : 0 ≤ sv s k x ∧ sv s k x ≤ 16777224 := by
  have := cv_bd k x
  unfold sv
  split <;> omega
theorem tots_bd (s : Int) (k : Nat) : ∀ l : List Rec, 0 ≤ tots s k l ∧ tots s k l ≤ 16777224 * l.length
  | [] => by simp [tots]
  | x :: r => by
    have h1 := sv_bd s k x
    have h2 := tots_bd s k r
    simp only [tots, List.map_cons, List.sum_cons, List.length_cons] at h2 ⊢
    omega
theorem partF_bd (l : List Rec) (hl : l.length ≤ 1000) (k q i : Nat) : 0 ≤ partF l k q i ∧ partF l k q i ≤ 100000000000 := by
  have h1 := tots_bd 0 i l
  have h2 := tots_bd 1 i l
  have h3 := tots_bd (k : Int) i (l.take q)
  have h4 : (l.take q).length ≤ 1000 := by simp; omega
  unfold partF doneF
  split
  · omega
  · split <;> omega
end Go.Proofs.YtfgldglelijekaaGreatDoor
