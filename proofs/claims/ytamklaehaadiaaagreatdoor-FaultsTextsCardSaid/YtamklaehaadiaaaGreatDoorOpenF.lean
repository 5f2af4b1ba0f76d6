/-
  How the arguments of the laws read: faults.
-/
import Derived.Test.YtamklaehaadiaaaGreatDoorOpenB
import Derived.Test.YtamklaehaadiaaaGreatDoorFlt4
namespace Go.Proofs.YtamklaehaadiaaaGreatDoor
set_option linter.unusedSimpArgs false
set_option linter.unusedVariables false
set_option linter.unusedSectionVars false
open Go.ChangeShapes Go.WideShapes Go.ChangeAt Go.RowKit Go.Deep
open Go.ChangeMaps (open_string shut_string)

theorem cells_Fault : Tryz.prog.cellsOf 23 = 2 := by kernel_rfl
section
variable {H : Type} {enc : TypeId × Value → H} {W : World} {sp : Nat → Bool}
theorem int_cellF {n : Nat} {c : Value} {y : DataW H × List MemPlace} (h : DataW.trod enc Tryz.prog W 0 sp true n 3 [c] = some y) : ∃ x : Int, c = .int .i64 x := by
  obtain ⟨x, f, _, hx⟩ := DataW.trod_int Tryz.underlying3 h
  simp only [List.cons.injEq, and_true] at f
  exact ⟨x, f⟩
theorem fault_cells {n : Nat} {cs : List Value} {y : DataW H × List MemPlace} (hl : cs.length = 2) (h : DataW.trod enc Tryz.prog W 0 sp true n 23 cs = some y) : ∃ x : Fl, cs = Fl.cells x := by
  obtain ⟨m, hg⟩ := cells_struct [3, 3] Tryz.underlying23 (by kernel_rfl) rfl h hl
  obtain ⟨c0, _, e0, g0⟩ := hg 0 _ rfl
  obtain ⟨c1, _, e1, g1⟩ := hg 1 _ rfl
  obtain ⟨x0, rfl⟩ := int_cellF g0
  obtain ⟨x1, rfl⟩ := int_cellF g1
  refine ⟨⟨x0, x1⟩, ?_⟩
  match cs, hl with
  | [_, _], _ =>
    simp at e0 e1
    subst e0 e1
    rfl
set_option maxRecDepth 100000 in
theorem open_faults {v : Value} {d : DataW H} {p : List MemPlace} {r : Reach} {base : Nat} (hv : Value.okWide Tryz.prog W r base 24 v) (h : DataW.Trod enc Tryz.prog W 0 sp true 24 v d p) :
    ∃ (a : Option Addr) (cap : Nat) (l : List Fl), v = .slice a l.length cap ∧ l.length ≤ cap ∧ l.length ≤ maxLen ∧ SlFl W W.heap.size a l := by
  obtain ⟨a, len, cap, rfl⟩ := okWide_slice Tryz.underlying24 hv
  obtain ⟨fuel, hf⟩ := h
  obtain ⟨a', len', cap', l, hcs, hl, hc, hm, hs⟩ := slr_of_trod (R := fun (x : Fl) cs => cs = Fl.cells x) Tryz.underlying24 (by rw [cells_Fault]; omega) (fun n cs y hl hy => fault_cells (by rw [hl, cells_Fault]) hy) hf
  simp only [Value.cells, List.cons.injEq, Value.slice.injEq, and_true] at hcs
  obtain ⟨rfl, rfl, rfl⟩ := hcs
  rw [cells_Fault] at hs
  exact ⟨a, cap, l, by rw [hl], by omega, by omega, hs⟩
set_option maxRecDepth 100000 in
theorem open_fault {v : Value} {d : DataW H} {p : List MemPlace} {r : Reach} {base : Nat} (hv : Value.okWide Tryz.prog W r base 23 v) (h : DataW.Trod enc Tryz.prog W 0 sp true 23 v d p) :
    ∃ a b : Int, v = .agg #[.int .i64 a, .int .i64 b] := by
  obtain ⟨cs, rfl, hsz⟩ := okWide_struct Tryz.underlying23 hv
  obtain ⟨fuel, hf⟩ := h
  have hl : cs.toList.length = 2 := by rw [← cells_Fault]; simpa [Value.cells] using hsz
  obtain ⟨⟨a, b⟩, hx⟩ := fault_cells (by simpa [Value.cells] using hl) hf
  refine ⟨a, b, ?_⟩
  obtain ⟨L⟩ := cs
  simp only [Value.cells, Fl.cells] at hx
  subst hx
  rfl
end
end Go.Proofs.YtamklaehaadiaaaGreatDoor
