/-
  Faults: their order, and sets of them: plain laws.
-/
import Derived.Test.YtamklaehaadiaaaGreatDoorSet
namespace Go.Proofs.YtamklaehaadiaaaGreatDoor
set_option linter.unusedSimpArgs false
set_option linter.unusedVariables false
set_option linter.unusedSectionVars false
open Go.ChangeShapes Go.WideShapes Go.ChangeAt Go.RowKit Go.Deep

structure Fl where
  scope : Int
  code : Int
deriving DecidableEq
def Fl.cells (f : Fl) : List Value := [.int .i64 f.scope, .int .i64 f.code]
def ltFl (a b : Fl) : Bool := if a.scope = b.scope then decide (a.code < b.code) else decide (a.scope < b.scope)
theorem Fl.ext' {a b : Fl} (h1 : a.scope = b.scope) (h2 : a.code = b.code) : a = b := by cases a; cases b; simp_all
theorem ordFl : Ord ltFl := by
  refine ⟨fun a => by simp [ltFl], fun a b c h1 h2 => ?_, fun a b h => ?_⟩
  · unfold ltFl at *
    split at h1 <;> split at h2 <;> split <;> simp only [decide_eq_true_eq] at * <;> omega
  · unfold ltFl
    by_cases hs : a.scope = b.scope
    · rw [if_pos hs, if_pos hs.symm]
      have : a.code ≠ b.code := fun e => h (Fl.ext' hs e)
      simp only [decide_eq_true_eq]; omega
    · rw [if_neg hs, if_neg (Ne.symm hs)]
      simp only [decide_eq_true_eq]; omega
def flR (f : Fl) : Bool := (decide (f.scope = 1) || decide (f.scope = 2)) && (decide (0 ≤ f.code) && decide (f.code < 4294967296))
def ofF (l : List Fl) : List Fl := setS ltFl (l.filter flR)
theorem mem_ofF (l : List Fl) (x : Fl) : x ∈ ofF l ↔ x ∈ l ∧ flR x = true := by unfold ofF; rw [mem_setS, List.mem_filter]
theorem strict_ofF (l : List Fl) : Strict ltFl (ofF l) := strict_setS ordFl _
theorem ofF_len (l : List Fl) : (ofF l).length ≤ l.length := Nat.le_trans (setS_len _) (List.length_filter_le _ _)
theorem ofF_congr {l m : List Fl} (h : ∀ x, flR x = true → (x ∈ l ↔ x ∈ m)) : ofF l = ofF m := by
  unfold ofF
  refine setS_congr ordFl fun x => ?_
  rw [List.mem_filter, List.mem_filter]
  constructor
  · rintro ⟨h1, h2⟩; exact ⟨(h x h2).1 h1, h2⟩
  · rintro ⟨h1, h2⟩; exact ⟨(h x h2).2 h1, h2⟩
theorem ofF_idem (l : List Fl) : ofF (ofF l) = ofF l := ofF_congr fun x hx => by rw [mem_ofF]; simp [hx]
theorem ofF_of {l : List Fl} (hs : Strict ltFl l) (hr : ∀ x ∈ l, flR x = true) : ofF l = l := by
  unfold ofF
  rw [List.filter_eq_self.2 hr]
  exact setS_of_strict ordFl hs
theorem flR_zero : flR ⟨0, 0⟩ = false := rfl
/-- The document's best one, step by step: no fault that is right stands for none. -/
def optFl : Option Fl → Fl
  | none => ⟨0, 0⟩
  | some f => f
end Go.Proofs.YtamklaehaadiaaaGreatDoor
