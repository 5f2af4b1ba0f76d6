/-
  How the arguments of the laws read: fields.
-/
import Derived.Test.YtafccnkeiohlhaaBase
namespace Go.Proofs.Ytafccnkeiohlhaa
open Go.ChangeShapes Go.WideShapes Go.ChangeAt Go.RowKit Go.Deep
open Go.ChangeMaps (open_string shut_string)

theorem own : ownKnob Try.prog.godebug = none := by kernel_rfl
theorem laidOut : laidOutB Try.prog = true := by kernel_rfl
theorem cells_string : Try.prog.cellsOf 9 = 1 := by kernel_rfl
theorem cells_bool : Try.prog.cellsOf 4 = 1 := by kernel_rfl
theorem cells_int : Try.prog.cellsOf 3 = 1 := by kernel_rfl
theorem cells_Field : Try.prog.cellsOf 33 = 3 := by kernel_rfl

section
variable {H : Type} {enc : TypeId × Value → H} {W : World} {sp : Nat → Bool}
set_option maxRecDepth 100000 in
theorem field_is (n : Nat) (cs : List Value) (y : DataW H × List MemPlace) (hl : cs.length = Try.prog.cellsOf 33) (h : DataW.trod enc Try.prog W 0 sp true n 33 cs = some y) : ∃ x : Fd, x.Is cs := by
  rw [cells_Field] at hl
  obtain ⟨m, hf⟩ := cells_struct [9, 9, 4] Try.underlying33 (by kernel_rfl) rfl h hl
  obtain ⟨c0, _, e0, g0⟩ := hf 0 _ rfl
  obtain ⟨c1, _, e1, g1⟩ := hf 1 _ rfl
  obtain ⟨c2, _, e2, g2⟩ := hf 2 _ rfl
  obtain ⟨s0, f0, _, m0⟩ := DataW.trod_string Try.underlying9 g0
  obtain ⟨s1, f1, _, m1⟩ := DataW.trod_string Try.underlying9 g1
  obtain ⟨b2, f2, _⟩ := DataW.trod_bool Try.underlying4 g2
  simp only [List.cons.injEq, and_true] at f0 f1 f2
  subst f0 f1 f2
  refine ⟨⟨s0.data.toList, s1.data.toList, b2⟩, ?_, by rw [Array.length_toList]; exact m0, by rw [Array.length_toList]; exact m1⟩
  match cs, hl with
  | [c0, c1, c2], _ =>
    simp at e0 e1 e2
    subst e0 e1 e2
    rfl

set_option maxRecDepth 100000 in
/-- An argument that is a slice of fields. -/
theorem open_fields {v : Value} {d : DataW H} {p : List MemPlace} {r : Reach} {base : Nat} (hv : Value.okWide Try.prog W r base 22 v) (h : DataW.Trod enc Try.prog W 0 sp true 22 v d p) :
    ∃ (a : Option Addr) (cap : Nat) (l : List Fd), v = .slice a l.length cap ∧ l.length ≤ cap ∧ l.length ≤ maxLen ∧ SlF W W.heap.size a l := by
  obtain ⟨a, len, cap, rfl⟩ := okWide_slice Try.underlying22 hv
  obtain ⟨fuel, hf⟩ := h
  obtain ⟨a', len', cap', l, hcs, hl, hc, hm, hs⟩ := slr_of_trod (R := Fd.Is) Try.underlying22 (by rw [cells_Field]; omega) (fun n cs y hl hy => field_is n cs y hl hy) hf
  simp only [Value.cells, List.cons.injEq, Value.slice.injEq, and_true] at hcs
  obtain ⟨rfl, rfl, rfl⟩ := hcs
  rw [cells_Field] at hs
  exact ⟨a, cap, l, by rw [hl], by omega, by omega, hs⟩
set_option maxRecDepth 100000 in
/-- A struct of a field by value. -/
theorem open_field {v : Value} {d : DataW H} {p : List MemPlace} {r : Reach} {base : Nat} (hv : Value.okWide Try.prog W r base 33 v) (h : DataW.Trod enc Try.prog W 0 sp true 33 v d p) :
    ∃ f : Fd, v = .agg #[bstr f.name, bstr f.value, .bool f.never] ∧ f.name.length ≤ maxLen ∧ f.value.length ≤ maxLen := by
  obtain ⟨cs, rfl, hsz⟩ := okWide_struct Try.underlying33 hv
  obtain ⟨fuel, hf⟩ := h
  obtain ⟨f, hc, h1, h2⟩ := field_is _ _ _ (by simpa [Value.cells] using hsz) hf
  refine ⟨f, ?_, h1, h2⟩
  have : cs = f.cells.toArray := by
    simp only [Value.cells] at hc
    rw [← hc]
  rw [this]
  rfl
end
end Go.Proofs.Ytafccnkeiohlhaa
