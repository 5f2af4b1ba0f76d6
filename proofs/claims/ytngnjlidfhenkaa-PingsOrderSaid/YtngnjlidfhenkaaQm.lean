/-
  A region that draws its order, whose operations read, or call what only makes memory: walked once, over grown worlds.
-/
import Derived.Test.YtngnjlidfhenkaaMore
import Derived.Deep.QuietTactic
import Derived.BigQuiet
namespace Go.Proofs.Ytngnjlidfhenkaa
set_option linter.unusedSimpArgs false
set_option linter.unusedVariables false
set_option linter.unusedSectionVars false
open Go.ChangeShapes Go.WideShapes Go.ChangeAt Go.RowKit Go.Deep

instance : Inhabited Junk := ⟨⟨#[], 0⟩⟩
theorem more_self (w : World) : w = w.more ⟨#[], w.drawn⟩ := by simp [World.more]
theorem wp_region_more {P : Program} {id : Nat} {Q : Exit → Act → World → Prop} {a : Act} {w : World} {l : List Oper} (hm : P.follows .mixedOrders = true) (hB : Region.lexB .any l.toArray = true)
    (h : wpQuiet P l.toArray (fun w' => ∃ j : Junk, w' = w.more j) (fun a' => ∀ w', (∃ j : Junk, w' = w.more j) → Q .normal a' w') l a) : (Code.region id l.toArray true).wp P Q a w :=
  wp_region_quiet (C := fun w' => ∃ j : Junk, w' = w.more j) hm hB ⟨⟨#[], w.drawn + 1⟩, by simp [World.more]⟩ (by simpa using h)
theorem more_of {P : Program} {f : FuncId} {args : Array Value} {w : World} {j : Junk} {v : Value}
    (h : Calls P f args (w.more j) fun e w' => e = .returned v ∧ ∃ k, w' = (w.more j).more k) : Calls P f args (w.more j) fun e w'' => e = .returned v ∧ ∃ k, w'' = w.more k :=
  h.mono fun _ _ ⟨he, k, hk⟩ => ⟨he, ⟨j.heap ++ k.heap, k.drawn⟩, by rw [hk, World.more_more]⟩
theorem more_of_same {P : Program} {f : FuncId} {args : Array Value} {w : World} {j : Junk} {v : Value}
    (h : Calls P f args (w.more j) fun e w' => e = .returned v ∧ w.more j = w') : Calls P f args (w.more j) fun e w'' => e = .returned v ∧ ∃ k, w'' = w.more k :=
  h.mono fun _ _ ⟨he, hk⟩ => ⟨he, j, hk.symm⟩
end Go.Proofs.Ytngnjlidfhenkaa
