/-
  Worlds that have grown: small helps for the laws on faults.
-/
import Derived.Test.YthbflllflnnipaaGreatDoorFlt4
namespace Go.Proofs.YthbflllflnnipaaGreatDoor
set_option linter.unusedSimpArgs false
set_option linter.unusedVariables false
set_option linter.unusedSectionVars false
open Go.ChangeShapes Go.WideShapes Go.ChangeAt Go.RowKit Go.Deep Go.Shelf

theorem SlFl.keep {w w' : World} {a : Option Addr} {l : List Fl} (h : SlFl w w.heap.size a l) (hb : Below w.heap.size w w') : SlFl w' w'.heap.size a l :=
  (h.below hb (Nat.le_refl _)).mono hb.size (fun _ _ _ h => h)
theorem below_more (w : World) (j : Junk) : Below w.heap.size w (w.more j) := (Below.refl _ _).moreS j
theorem below_step {w w1 w2 : World} (h : Below w.heap.size w w1) (h2 : Below w1.heap.size w1 w2) : Below w.heap.size w w2 := h.trans (h2.mono h.size)
theorem more_post {f : FuncId} {args : Array Value} {W : World} {v : Value} (h : Calls Tryz.prog f args W fun e w' => e = .returned v ∧ ∃ j, w' = W.more j) : Calls Tryz.prog f args W fun e w' => e = .returned v ∧ Below W.heap.size W w' :=
  h.mono fun e w' ⟨he, j, hj⟩ => ⟨he, by rw [hj]; exact below_more _ _⟩
def BoxAt (b : Nat) (s c : Int) (w : World) : Prop := w.cell? ⟨b, 0, none⟩ = some (.int .i64 s) ∧ w.cell? ⟨b, 1, none⟩ = some (.int .i64 c) ∧ b < w.heap.size
theorem BoxAt.keep {b : Nat} {s c : Int} {w w' : World} (h : BoxAt b s c w) (hb : Below w.heap.size w w') : BoxAt b s c w' :=
  ⟨(hb.cell (p := ⟨b, 0, none⟩) h.2.2).trans h.1, (hb.cell (p := ⟨b, 1, none⟩) h.2.2).trans h.2.1, Nat.lt_of_lt_of_le h.2.2 hb.size⟩
end Go.Proofs.YthbflllflnnipaaGreatDoor
