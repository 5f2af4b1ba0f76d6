/-
  Regions that draw their order and whose operations read, or call what makes new memory alone.
-/
import Derived.Test.YtafccnkeiohlhaaBase
import Derived.Lib.QuietBelow
import Derived.BigQuiet
namespace Go.Proofs.Ytafccnkeiohlhaa
open Go.ChangeShapes Go.WideShapes Go.ChangeAt Go.RowKit Go.Deep Go.Sort

theorem same_below {P : Program} {f : FuncId} {args : Array Value} {w : World} {v : Value} (h : Calls P f args w fun e w' => e = .returned v ∧ w = w') : Calls P f args w fun e w' => e = .returned v ∧ Below w.heap.size w w' :=
  h.mono fun _ _ ⟨he, hw⟩ => ⟨he, hw ▸ Below.refl _ _⟩
/-- A contract met in a world of the class. -/
theorem met {P : Program} {f : FuncId} {args : Array Value} {w : World} {v : Value} (p : Regrown)
    (h : Calls P f args (grow (redrawn w p.d) p.os) fun e w' => e = .returned v ∧ Below (grow (redrawn w p.d) p.os).heap.size (grow (redrawn w p.d) p.os) w') : Calls P f args (grow (redrawn w p.d) p.os) fun e w'' => e = .returned v ∧ ∃ p : Regrown, w'' = grow (redrawn w p.d) p.os :=
  Calls.regrown_of h
theorem met_same {P : Program} {f : FuncId} {args : Array Value} {w : World} {v : Value} (p : Regrown)
    (h : Calls P f args (grow (redrawn w p.d) p.os) fun e w' => e = .returned v ∧ grow (redrawn w p.d) p.os = w') : Calls P f args (grow (redrawn w p.d) p.os) fun e w'' => e = .returned v ∧ ∃ p : Regrown, w'' = grow (redrawn w p.d) p.os :=
  met p (same_below h)
theorem cells_regrown {w : World} : ∀ b o v, w.cell? ⟨b, o, none⟩ = some v → ∀ d os, (grow (redrawn w d) os).cell? ⟨b, o, none⟩ = some v := fun _ _ _ h d os => cell_regrown h d os
end Go.Proofs.Ytafccnkeiohlhaa
