/-
  Parts of the proof, one behind the other: contracts of the program and plain laws; no condition of their own.
-/
import Derived.Test.YtfcgdfcekpbliaaGreatDoorMa
import Derived.Laws.Tables
/-
  Rules: their names, their sections, and what they ask.
-/
namespace Go.Proofs.YtfcgdfcekpbliaaGreatDoor
set_option linter.unusedSimpArgs false
set_option linter.unusedVariables false
set_option linter.unusedSectionVars false
open Go.ChangeShapes Go.WideShapes Go.ChangeAt Go.RowKit Go.Deep Go.Shelf

theorem SlX_zero {w : World} {B g : Nat} {l : List (List UInt8)} (h : SlX w B (some ⟨g, 0, none⟩) l) {k : Nat} (hk : k < l.length) : g < B ∧ w.cell? ⟨g, k, none⟩ = some (bstr l[k]) := by
  obtain ⟨b, off, e, hb, hc, _⟩ := h.atX hk
  injection e with e
  injection e with e1 e2
  subst e1 e2
  rw [Nat.zero_add] at hc
  exact ⟨hb, hc⟩

/-! What a rule asks. -/
end Go.Proofs.YtfcgdfcekpbliaaGreatDoor
/-
  Rules: the document's tables, and what a rule asks.
-/
namespace Go.Proofs.YtfcgdfcekpbliaaGreatDoor
set_option linter.unusedSimpArgs false
set_option linter.unusedVariables false
set_option linter.unusedSectionVars false
open Go.ChangeShapes Go.WideShapes Go.ChangeAt Go.RowKit Go.Deep Go.Shelf

end Go.Proofs.YtfcgdfcekpbliaaGreatDoor
/-
  Rules: sets of them, and their texts: plain laws; no walk.
-/
namespace Go.Proofs.YtfcgdfcekpbliaaGreatDoor
set_option linter.unusedSimpArgs false
set_option linter.unusedVariables false
set_option linter.unusedSectionVars false
open Go.ChangeShapes Go.WideShapes Go.ChangeAt Go.RowKit Go.Deep

/-! Read back. -/
/-! A rising list, up to a number. -/
end Go.Proofs.YtfcgdfcekpbliaaGreatDoor
