/-
  How the arguments of the pings' laws read.
-/
import Derived.Test.YtngnjlidfhenkaaPng13
import Derived.Test.YtngnjlidfhenkaaRows
namespace Go.Proofs.Ytngnjlidfhenkaa
set_option linter.unusedSimpArgs false
set_option linter.unusedVariables false
set_option linter.unusedSectionVars false
open Go.ChangeShapes Go.WideShapes Go.ChangeAt Go.RowKit Go.Deep
open Go.ChangeMaps (open_string shut_string)

theorem own : ownKnob Try.prog.godebug = none := by kernel_rfl
theorem laidOut : laidOutB Try.prog = true := by kernel_rfl
theorem bounds_u8 {n : Int} (h : (Lit.int .u8 n).wf = true) : 0 ≤ n ∧ n ≤ 255 := by
  simp [Lit.wf, IntKind.min, IntKind.max, IntKind.signed, IntKind.bits] at h
  omega
theorem cells_u8 : Try.prog.cellsOf 5 = 1 := by kernel_rfl
theorem cells_Deed : Try.prog.cellsOf 30 = 2 := by kernel_rfl
theorem byC_of {x : Int} (hb : 0 ≤ x ∧ x ≤ 255) : [Value.int .u8 x] = byC (UInt8.ofNat x.toNat) := by
  unfold byC
  congr 2
  rw [UInt8.toNat_ofNat']
  omega
section
variable {H : Type} {enc : TypeId × Value → H} {W : World} {sp : Nat → Bool}
theorem byte_is (n : Nat) (cs : List Value) (y : DataW H × List MemPlace) (hl : cs.length = Try.prog.cellsOf 5) (h : DataW.trod enc Try.prog W 0 sp true n 5 cs = some y) : ∃ x : UInt8, cs = byC x := by
  obtain ⟨x, f, _, hx⟩ := DataW.trod_int Try.underlying5 h
  exact ⟨_, f.trans (byC_of (bounds_u8 hx))⟩
set_option maxRecDepth 100000 in
theorem deed_is (n : Nat) (cs : List Value) (y : DataW H × List MemPlace) (hl : cs.length = Try.prog.cellsOf 30) (h : DataW.trod enc Try.prog W 0 sp true n 30 cs = some y) : ∃ x : Dd, Dd.Is W W.heap.size x cs := by
  rw [cells_Deed] at hl
  obtain ⟨m, hf⟩ := cells_struct [4, 28] Try.underlying30 (by kernel_rfl) rfl h hl
  obtain ⟨c0, _, e0, g0⟩ := hf 0 _ rfl
  obtain ⟨c1, _, e1, g1⟩ := hf 1 _ rfl
  obtain ⟨b0, f0, _⟩ := DataW.trod_bool Try.underlying4 g0
  obtain ⟨a1, len1, cap1, l1, f1, hl1, hc1, hm1, hs1⟩ := slr_of_trod (R := fun x cs => cs = byC x) Try.underlying28 (by rw [cells_u8]; omega) (fun n cs y hl hy => byte_is n cs y hl hy) g1
  simp only [List.cons.injEq, and_true] at f0 f1
  subst f0 f1 hl1
  rw [cells_u8] at hs1
  refine ⟨⟨b0, a1, l1, cap1⟩, ?_, hs1, (by show l1.length ≤ maxLen; omega)⟩
  match cs, hl with
  | [c0, c1], _ =>
    simp at e0 e1
    subst e0 e1
    rfl
set_option maxRecDepth 100000 in
theorem open_deeds {v : Value} {d : DataW H} {p : List MemPlace} {r : Reach} {base : Nat} (hv : Value.okWide Try.prog W r base 22 v) (h : DataW.Trod enc Try.prog W 0 sp true 22 v d p) :
    ∃ (a : Option Addr) (cap : Nat) (l : List Dd), v = .slice a l.length cap ∧ l.length ≤ cap ∧ l.length ≤ maxLen ∧ SlD W W W.heap.size a l := by
  obtain ⟨a, len, cap, rfl⟩ := okWide_slice Try.underlying22 hv
  obtain ⟨fuel, hf⟩ := h
  obtain ⟨a', len', cap', l, hcs, hl, hc, hm, hs⟩ := slr_of_trod (R := Dd.Is W W.heap.size) Try.underlying22 (by rw [cells_Deed]; omega) (fun n cs y hl hy => deed_is n cs y hl hy) hf
  simp only [Value.cells, List.cons.injEq, Value.slice.injEq, and_true] at hcs
  obtain ⟨rfl, rfl, rfl⟩ := hcs
  rw [cells_Deed] at hs
  exact ⟨a, cap, l, by rw [hl], by omega, by omega, hs⟩
set_option maxRecDepth 100000 in
theorem open_bytes8 {v : Value} {d : DataW H} {p : List MemPlace} {r : Reach} {base : Nat} (hv : Value.okWide Try.prog W r base 28 v) (h : DataW.Trod enc Try.prog W 0 sp true 28 v d p) :
    ∃ (a : Option Addr) (cap : Nat) (l : List UInt8), v = .slice a l.length cap ∧ l.length ≤ cap ∧ l.length ≤ maxLen ∧ SlY W W.heap.size a l := by
  obtain ⟨a, len, cap, rfl⟩ := okWide_slice Try.underlying28 hv
  obtain ⟨fuel, hf⟩ := h
  obtain ⟨a', len', cap', l, hcs, hl, hc, hm, hs⟩ := slr_of_trod (R := fun x cs => cs = byC x) Try.underlying28 (by rw [cells_u8]; omega) (fun n cs y hl hy => byte_is n cs y hl hy) hf
  simp only [Value.cells, List.cons.injEq, Value.slice.injEq, and_true] at hcs
  obtain ⟨rfl, rfl, rfl⟩ := hcs
  rw [cells_u8] at hs
  exact ⟨a, cap, l, by rw [hl], by omega, by omega, hs⟩
end
end Go.Proofs.Ytngnjlidfhenkaa
