/-
  How the arguments of the tally's laws read.
-/
import Derived.Test.YtafccnkeiohlhaaOpen
import Derived.Test.YtafccnkeiohlhaaTal8
import Derived.Test.YtafccnkeiohlhaaTal13
namespace Go.Proofs.Ytafccnkeiohlhaa
set_option linter.unusedSimpArgs false
set_option linter.unusedVariables false
open Go.ChangeShapes Go.WideShapes Go.ChangeAt Go.RowKit Go.Deep
open Go.ChangeMaps (open_string shut_string)

theorem bounds_u16 {n : Int} (h : (Lit.int .u16 n).wf = true) : 0 ≤ n ∧ n ≤ 65535 := by
  simp [Lit.wf, IntKind.min, IntKind.max, IntKind.signed, IntKind.bits] at h
  omega
theorem cells_u16 : Try.prog.cellsOf 99 = 1 := by kernel_rfl
theorem cells_Event : Try.prog.cellsOf 86 = 4 := by kernel_rfl
theorem cells_Fields : Try.prog.cellsOf 22 = 1 := by kernel_rfl
section
variable {H : Type} {enc : TypeId × Value → H} {W : World} {sp : Nat → Bool}
set_option maxRecDepth 100000 in
theorem event_is (n : Nat) (cs : List Value) (y : DataW H × List MemPlace) (hl : cs.length = Try.prog.cellsOf 86) (h : DataW.trod enc Try.prog W 0 sp true n 86 cs = some y) : ∃ x : Ev, Ev.Is W W.heap.size x cs := by
  rw [cells_Event] at hl
  obtain ⟨m, hf⟩ := cells_struct [4, 22, 3, 4] Try.underlying86 (by kernel_rfl) rfl h hl
  obtain ⟨c0, _, e0, g0⟩ := hf 0 _ rfl
  obtain ⟨c1, _, e1, g1⟩ := hf 1 _ rfl
  obtain ⟨c2, _, e2, g2⟩ := hf 2 _ rfl
  obtain ⟨c3, _, e3, g3⟩ := hf 3 _ rfl
  obtain ⟨b0, f0, _⟩ := DataW.trod_bool Try.underlying4 g0
  obtain ⟨a1, len1, cap1, l1, f1, hl1, hc1, hm1, hs1⟩ := slr_of_trod (R := Fd.Is) Try.underlying22 (by rw [cells_Field]; omega) (fun n cs y hl hy => field_is n cs y hl hy) g1
  obtain ⟨n2, f2, _⟩ := DataW.trod_int Try.underlying3 g2
  obtain ⟨b3, f3, _⟩ := DataW.trod_bool Try.underlying4 g3
  simp only [List.cons.injEq, and_true] at f0 f1 f2 f3
  subst f0 f1 f2 f3 hl1
  rw [cells_Field] at hs1
  refine ⟨⟨b0, l1, n2, b3⟩, a1, cap1, ?_, hs1, (by show l1.length ≤ maxLen; omega)⟩
  match cs, hl with
  | [c0, c1, c2, c3], _ =>
    simp at e0 e1 e2 e3
    subst e0 e1 e2 e3
    rfl

set_option maxRecDepth 100000 in
theorem open_events {v : Value} {d : DataW H} {p : List MemPlace} {r : Reach} {base : Nat} (hv : Value.okWide Try.prog W r base 77 v) (h : DataW.Trod enc Try.prog W 0 sp true 77 v d p) :
    ∃ (a : Option Addr) (cap : Nat) (l : List Ev), v = .slice a l.length cap ∧ l.length ≤ cap ∧ l.length ≤ maxLen ∧ SlE W W W.heap.size a l := by
  obtain ⟨a, len, cap, rfl⟩ := okWide_slice Try.underlying77 hv
  obtain ⟨fuel, hf⟩ := h
  obtain ⟨a', len', cap', l, hcs, hl, hc, hm, hs⟩ := slr_of_trod (R := Ev.Is W W.heap.size) Try.underlying77 (by rw [cells_Event]; omega) (fun n cs y hl hy => event_is n cs y hl hy) hf
  simp only [Value.cells, List.cons.injEq, Value.slice.injEq, and_true] at hcs
  obtain ⟨rfl, rfl, rfl⟩ := hcs
  rw [cells_Event] at hs
  exact ⟨a, cap, l, by rw [hl], by omega, by omega, hs⟩
set_option maxRecDepth 100000 in
theorem open_shorts {v : Value} {d : DataW H} {p : List MemPlace} {r : Reach} {base : Nat} (hv : Value.okWide Try.prog W r base 97 v) (h : DataW.Trod enc Try.prog W 0 sp true 97 v d p) :
    ∃ (a : Option Addr) (cap : Nat) (l : List Nat), v = .slice a l.length cap ∧ l.length ≤ cap ∧ l.length ≤ maxLen ∧ SlR W W.heap.size 1 shortIs a l := by
  obtain ⟨a, len, cap, rfl⟩ := okWide_slice Try.underlying97 hv
  obtain ⟨fuel, hf⟩ := h
  obtain ⟨a', len', cap', l, hcs, hl, hc, hm, hs⟩ := slr_of_trod (R := shortIs) Try.underlying97 (by rw [cells_u16]; omega) (fun n cs y hl hy => by
    obtain ⟨x, f, _, hx⟩ := DataW.trod_int Try.underlying99 hy
    have hb := bounds_u16 hx
    obtain ⟨n, rfl⟩ : ∃ n : Nat, x = n := ⟨x.toNat, by omega⟩
    exact ⟨n, f, by omega⟩) hf
  simp only [Value.cells, List.cons.injEq, Value.slice.injEq, and_true] at hcs
  obtain ⟨rfl, rfl, rfl⟩ := hcs
  rw [cells_u16] at hs
  exact ⟨a, cap, l, by rw [hl], by omega, by omega, hs⟩
end
