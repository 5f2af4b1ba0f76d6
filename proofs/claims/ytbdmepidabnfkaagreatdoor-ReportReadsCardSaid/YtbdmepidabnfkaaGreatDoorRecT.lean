/-
  Records: the document's text.
-/
import Derived.Test.YtbdmepidabnfkaaGreatDoorRec6
namespace Go.Proofs.YtbdmepidabnfkaaGreatDoor
set_option linter.unusedSimpArgs false
set_option linter.unusedVariables false
set_option linter.unusedSectionVars false
open Go.ChangeShapes Go.WideShapes Go.ChangeAt Go.RowKit Go.Deep Go.Shelf

theorem ref41_Text (fr ty fl st ln kd : Int) (hR : recR ⟨fr, ty, fl, st, ln, kd⟩ = true) (w : World) :
    Calls Tryz.prog 47 #[.agg #[.int .i64 fr, .int .i64 ty, .int .i64 fl, .int .i64 st, .int .i64 ln, .int .i64 kd]] w fun e w' => e = .returned (bstr (recLine ⟨fr, ty, fl, st, ln, kd⟩)) ∧ ∃ j, w' = w.more j := by
  have ho := recR_ok hR
  have h1 := ho.fr
  have h2 := ho.kd
  simp only at h1 h2
  obtain ⟨f, rfl⟩ : ∃ f : Nat, fr = (f : Int) := ⟨fr.toNat, by omega⟩
  obtain ⟨q, rfl⟩ : ∃ q : Nat, kd = (q : Int) + 1 := ⟨(kd - 1).toNat, by omega⟩
  exact ref41_Text_at f q (by omega) (by omega) ty fl st ln hR w
end Go.Proofs.YtbdmepidabnfkaaGreatDoor
