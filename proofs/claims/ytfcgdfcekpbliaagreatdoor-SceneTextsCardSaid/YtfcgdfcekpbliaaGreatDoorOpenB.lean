/-
  How the arguments of the laws read: bytes, texts.
-/
import Derived.Test.YtfcgdfcekpbliaaGreatDoorMa
import Derived.Test.YtfcgdfcekpbliaaGreatDoorRows
namespace Go.Proofs.YtfcgdfcekpbliaaGreatDoor
set_option linter.unusedSimpArgs false
set_option linter.unusedVariables false
set_option linter.unusedSectionVars false
open Go.ChangeShapes Go.WideShapes Go.ChangeAt Go.RowKit Go.Deep
open Go.ChangeMaps (open_string shut_string)

theorem bounds_u8 {n : Int} (h : (Lit.int .u8 n).wf = true) : 0 ≤ n ∧ n ≤ 255 := by
  simp [Lit.wf, IntKind.min, IntKind.max, IntKind.signed, IntKind.bits] at h
  omega
theorem cells_u8 : Tryz.prog.cellsOf 5 = 1 := by kernel_rfl
theorem cells_text : Tryz.prog.cellsOf 9 = 1 := by kernel_rfl
section
variable {H : Type} {enc : TypeId × Value → H} {W : World} {sp : Nat → Bool}
set_option maxRecDepth 100000 in
theorem open_bytes {v : Value} {d : DataW H} {p : List MemPlace} {r : Reach} {base : Nat} (hv : Value.okWide Tryz.prog W r base 57 v) (h : DataW.Trod enc Tryz.prog W 0 sp true 57 v d p) :
    ∃ (a : Option Addr) (cap : Nat) (l : List UInt8), v = .slice a l.length cap ∧ l.length ≤ maxLen ∧ SlB W W.heap.size a l := by
  obtain ⟨a, len, cap, rfl⟩ := okWide_slice Tryz.underlying57 hv
  obtain ⟨fuel, hf⟩ := h
  obtain ⟨a', len', cap', l, hcs, hl, hc, hm, hs⟩ := slr_of_trod (R := byteIs) Tryz.underlying57 (by rw [cells_u8]; omega) (fun n cs y hl hy => by
    obtain ⟨x, f, _, hx⟩ := DataW.trod_int Tryz.underlying5 hy
    have hb := bounds_u8 hx
    refine ⟨UInt8.ofNat x.toNat, ?_⟩
    unfold byteIs
    rw [f]
    have : ((UInt8.ofNat x.toNat).toNat : Int) = x := by rw [UInt8.toNat_ofNat']; omega
    rw [this]) hf
  simp only [Value.cells, List.cons.injEq, Value.slice.injEq, and_true] at hcs
  obtain ⟨rfl, rfl, rfl⟩ := hcs
  rw [cells_u8] at hs
  exact ⟨a, cap, l, by rw [hl], by omega, hs⟩
set_option maxRecDepth 100000 in
theorem open_texts {v : Value} {d : DataW H} {p : List MemPlace} {r : Reach} {base : Nat} (hv : Value.okWide Tryz.prog W r base 53 v) (h : DataW.Trod enc Tryz.prog W 0 sp true 53 v d p) :
    ∃ (a : Option Addr) (cap : Nat) (l : List (List UInt8)), v = .slice a l.length cap ∧ l.length ≤ cap ∧ l.length ≤ maxLen ∧ SlX W W.heap.size a l := by
  obtain ⟨a, len, cap, rfl⟩ := okWide_slice Tryz.underlying53 hv
  obtain ⟨fuel, hf⟩ := h
  obtain ⟨a', len', cap', l, hcs, hl, hc, hm, hs⟩ := slr_of_trod (R := txtIs) Tryz.underlying53 (by rw [cells_text]; omega) (fun n cs y hl hy => by
    obtain ⟨s, f, _, hx⟩ := DataW.trod_string Tryz.underlying9 hy
    exact ⟨s.data.toList, f, by rw [Array.length_toList]; exact hx⟩) hf
  simp only [Value.cells, List.cons.injEq, Value.slice.injEq, and_true] at hcs
  obtain ⟨rfl, rfl, rfl⟩ := hcs
  rw [cells_text] at hs
  exact ⟨a, cap, l, by rw [hl], by omega, by omega, hs⟩
end
