/-
  What the walks ask of the library's variables, in any world that has grown since.
-/
import Derived.Test.YtfgldglelijekaaGreatDoorShelf2
import Derived.Test.YtfgldglelijekaaGreatDoorMa
import Derived.WalkSmall
import Derived.Lib.SmallJoins
namespace Go.Proofs.YtfgldglelijekaaGreatDoor
set_option linter.unusedSimpArgs false
set_option linter.unusedVariables false
set_option linter.unusedSectionVars false
open Go.ChangeShapes Go.WideShapes Go.ChangeAt Go.RowKit Go.Deep Go.Shelf

def ErrCell (w : World) (g : Nat) : Prop := ∃ ev, w.cell? ⟨g, 0, none⟩ = some ev ∧ (ev = .nilIface ∨ ∃ te pe, ev = .iface te pe)
theorem cell_lt {w : World} {g : Nat} {v : Value} (h : w.cell? ⟨g, 0, none⟩ = some v) : g < w.heap.size := by
  rcases Nat.lt_or_ge g w.heap.size with hlt | hge
  · exact hlt
  · unfold World.cell? at h; rw [Array.getElem?_eq_none hge] at h; cases h
theorem cell_keep {w w' : World} {g : Nat} {v : Value} (h : w.cell? ⟨g, 0, none⟩ = some v) (hb : Below w.heap.size w w') : w'.cell? ⟨g, 0, none⟩ = some v :=
  (hb.cell (p := ⟨g, 0, none⟩) (cell_lt h)).trans h
theorem ErrCell.below {w w' : World} {g : Nat} (h : ErrCell w g) (hb : Below w.heap.size w w') : ErrCell w' g := by
  obtain ⟨ev, h1, h2⟩ := h
  exact ⟨ev, cell_keep h1 hb, h2⟩
theorem var_lt {w : World} {P : Program} {n : String} {g : Nat} {cs : Array Value} (hg : P.globalNamed n = some g) (h : w.var? P n = some cs) : g < w.heap.size := by
  unfold World.var? at h
  rw [hg] at h
  rcases Nat.lt_or_ge g w.heap.size with hlt | hge
  · exact hlt
  · simp [Array.getElem?_eq_none hge] at h
theorem pow_named : ∃ g, Tryz.prog.globalNamed "internal/strconv.uint64pow10" = some g := ⟨2, by kernel_rfl⟩
theorem grow_junk (w : World) (k : Nat) (os : Array Obj) : ∃ j, Go.Sort.grow (w.drewN k) os = w.more j := ⟨⟨os, (w.drewN k).drawn⟩, rfl⟩
theorem atoi_cases (s : List UInt8) : (∃ v, Lib.atoiAll s = .ok v) ∨ Lib.atoiAll s = Lib.atoiAll [] ∨ Lib.atoiAll s = .range := by
  cases Lib.atoiAll s
  all_goals first | exact .inl ⟨_, rfl⟩ | exact .inr (.inl rfl) | exact .inr (.inr rfl)
def AtoiBad (w : World) (e : Ending) (w' : World) : Prop := ∃ (n : Int) (t : TypeId) (p : Value), e = .returned (.tuple #[.int .i64 n, .iface t p]) ∧ ∃ j, w' = w.more j
end Go.Proofs.YtfgldglelijekaaGreatDoor
