/-
  Rules: the document's tables, and what a rule asks.
-/
import Derived.Test.YtfgldglelijekaaDoorRul1
namespace Go.Proofs.YtfgldglelijekaaDoor
set_option linter.unusedSimpArgs false
set_option linter.unusedVariables false
set_option linter.unusedSectionVars false
open Go.ChangeShapes Go.WideShapes Go.ChangeAt Go.RowKit Go.Deep Go.Shelf

/-- A row of texts that is new. -/
def NamesR (n : Nat) (f : Nat → List UInt8) (w : World) (e : Ending) (w' : World) : Prop := ∃ g j, e = .returned (.slice (some ⟨g, 0, none⟩) n n) ∧ (∀ k, k < n → w'.cell? ⟨g, k, none⟩ = some (bstr (f k))) ∧ g < w'.heap.size ∧ w' = w.more j
theorem names_moreR {n : Nat} {f : Nat → List UInt8} {w : World} {t : TypeId} {cs : Array Value} (h : ∀ k, k < n → cs[k]? = some (bstr (f k))) : NamesR n f w (.returned (.slice (some ⟨w.heap.size, 0, none⟩) n n)) (w.alloc (.cells cs t)) := by
  obtain ⟨j, hj⟩ : ∃ j, w.alloc (.cells cs t) = w.more j := Below.junk (by repeat (first | (with_reducible exact Below.refl _ _) | (with_reducible refine Below.allocS ?_ _) | (with_reducible refine Below.moreS ?_ _) | (with_reducible refine Below.drew ?_) | (with_reducible refine below_drewN ?_ _)))
  exact ⟨_, j, rfl, fun k hk => (Blk.new w t cs).cell k |>.trans (h k hk), by simp, hj⟩
theorem ref38_names_lit : ∀ m : Fin 35, (rulW)[m.val]? = some ((fun k => rulW.getD k []) m.val) := by decide +kernel
theorem ref38_sections_lit : ∀ m : Fin 35, (secW)[m.val]? = some ((fun k => secW.getD k []) m.val) := by decide +kernel
theorem ref38_sentences_lit : ∀ m : Fin 18, (askW.take 18)[m.val]? = some ((fun k => askW.getD k []) m.val) := by decide +kernel
theorem ref38_others_lit : ∀ m : Fin 17, (askW.drop 18)[m.val]? = some ((fun k => askW.getD (18 + k) []) m.val) := by decide +kernel
end Go.Proofs.YtfgldglelijekaaDoor
