/-
  Parts of the proof, one behind the other: contracts of the program and plain laws; no condition of their own.
-/
import Derived.Test.YtfloijkagfabpaaGreatDoorShelf2
import Derived.Test.YtfloijkagfabpaaGreatDoorMa
import Derived.WalkSmall
import Derived.Lib.SmallJoins
import Derived.Test.YtfloijkagfabpaaGreatDoorMd
/-
  What the walks ask of the library's variables, in any world that has grown since.
-/
namespace Go.Proofs.YtfloijkagfabpaaGreatDoor
set_option linter.unusedSimpArgs false
set_option linter.unusedVariables false
set_option linter.unusedSectionVars false
open Go.ChangeShapes Go.WideShapes Go.ChangeAt Go.RowKit Go.Deep Go.Shelf

def ErrCell (w : World) (g : Nat) : Prop := ∃ ev, w.cell? ⟨g, 0, none⟩ = some ev ∧ (ev = .nilIface ∨ ∃ te pe, ev = .iface te pe)
theorem cell_lt {w : World} {g : Nat} {v : Value} (h : w.cell? ⟨g, 0, none⟩ = some v) : g < w.heap.size := by
  rcases Nat.lt_or_ge g w.heap.size with hlt | hge
  · exact hlt
  · unfold World.cell? at h; rw [Array.getElem?_eq_none hge] at h; cases h
theorem cell_keep {w w' : World} {g : Nat} {v : Value} (h : w.cell? ⟨g, 0, none⟩ = some v) (hb : Below w.heap.size w w') : w'.cell? ⟨g, 0, none⟩ = some v :=
  (hb.cell (p := ⟨g, 0, none⟩) (cell_lt h)).trans h
theorem ErrCell.below {w w' : World} {g : Nat} (h : ErrCell w g) (hb : Below w.heap.size w w') : ErrCell w' g := by
  obtain ⟨ev, h1, h2⟩ := h
  exact ⟨ev, cell_keep h1 hb, h2⟩
theorem var_lt {w : World} {P : Program} {n : String} {g : Nat} {cs : Array Value} (hg : P.globalNamed n = some g) (h : w.var? P n = some cs) : g < w.heap.size := by
  unfold World.var? at h
  rw [hg] at h
  rcases Nat.lt_or_ge g w.heap.size with hlt | hge
  · exact hlt
  · simp [Array.getElem?_eq_none hge] at h
theorem grow_junk (w : World) (k : Nat) (os : Array Obj) : ∃ j, Go.Sort.grow (w.drewN k) os = w.more j := ⟨⟨os, (w.drewN k).drawn⟩, rfl⟩
theorem atoi_cases (s : List UInt8) : (∃ v, Lib.atoiAll s = .ok v) ∨ Lib.atoiAll s = Lib.atoiAll [] ∨ Lib.atoiAll s = .range := by
  cases Lib.atoiAll s
  all_goals first | exact .inl ⟨_, rfl⟩ | exact .inr (.inl rfl) | exact .inr (.inr rfl)
def AtoiBad (w : World) (e : Ending) (w' : World) : Prop := ∃ (n : Int) (t : TypeId) (p : Value), e = .returned (.tuple #[.int .i64 n, .iface t p]) ∧ ∃ j, w' = w.more j
end Go.Proofs.YtfloijkagfabpaaGreatDoor
/-
  Numbers as digits: the program's text of a number, and a text read as a number.
-/
namespace Go.Proofs.YtfloijkagfabpaaGreatDoor
set_option linter.unusedSimpArgs false
set_option linter.unusedVariables false
set_option linter.unusedSectionVars false
open Go.ChangeShapes Go.WideShapes Go.ChangeAt Go.RowKit Go.Deep Go.Shelf

end Go.Proofs.YtfloijkagfabpaaGreatDoor
/-
  Numbers as digits: the document's text of a number.
-/
namespace Go.Proofs.YtfloijkagfabpaaGreatDoor
set_option linter.unusedSimpArgs false
set_option linter.unusedVariables false
set_option linter.unusedSectionVars false
open Go.ChangeShapes Go.WideShapes Go.ChangeAt Go.RowKit Go.Deep Go.Shelf

def digB (d : Nat) : List UInt8 := [UInt8.ofNat (48 + d)]
theorem dig_cut {n : Nat} (h : n < 10) : ([48, 49, 50, 51, 52, 53, 54, 55, 56, 57].drop n).take 1 = digB n := by
  have : ∀ m : Fin 10, (([48, 49, 50, 51, 52, 53, 54, 55, 56, 57] : List UInt8).drop m.val).take 1 = digB m.val := by decide
  exact this ⟨n, h⟩
end Go.Proofs.YtfloijkagfabpaaGreatDoor
