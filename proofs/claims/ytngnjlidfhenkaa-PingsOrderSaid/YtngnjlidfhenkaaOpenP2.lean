/-
  How the arguments of PingsOrder read: rows of eight bytes.
-/
import Derived.Test.YtngnjlidfhenkaaOpenP
import Derived.Test.YtngnjlidfhenkaaPng15
import Derived.OpenShut
namespace Go.Proofs.Ytngnjlidfhenkaa
set_option linter.unusedSimpArgs false
set_option linter.unusedVariables false
set_option linter.unusedSectionVars false
open Go.ChangeShapes Go.WideShapes Go.ChangeAt Go.RowKit Go.Deep
open Go.ChangeMaps (open_string shut_string)

theorem cells_key : Try.prog.cellsOf PkT = 8 := by kernel_rfl
section
variable {H : Type} {enc : TypeId × Value → H} {W : World} {sp : Nat → Bool}
set_option maxRecDepth 100000 in
theorem key_is (n : Nat) (cs : List Value) (y : DataW H × List MemPlace) (hl : cs.length = Try.prog.cellsOf PkT) (h : DataW.trod enc Try.prog W 0 sp true n PkT cs = some y) : ∃ x : K8, cs = x.cells := by
  obtain ⟨xs, m, _, _, _, hxl, hx⟩ := DataW.trod_array Try.underlying41 h
  rw [cells_key] at hl
  match cs, hl with
  | [c0, c1, c2, c3, c4, c5, c6, c7], _ =>
    have hb : ∀ i, i < 8 → ∀ c, [c0, c1, c2, c3, c4, c5, c6, c7][i]? = some c → ∃ x : UInt8, [c] = byC x := fun i hi c hc => by
      have h1 := hx i hi
      rw [cells_u8, List.getElem?_eq_getElem (by omega)] at h1
      have h2 : (([c0, c1, c2, c3, c4, c5, c6, c7] : List Value).drop (i * 1)).take 1 = [c] := by
        obtain ⟨h3, h4⟩ := List.getElem?_eq_some_iff.1 hc
        rw [Nat.mul_one, List.drop_eq_getElem_cons h3, h4]; rfl
      rw [h2] at h1
      exact byte_is _ _ _ (by rw [cells_u8]; rfl) h1
    obtain ⟨x0, e0⟩ := hb 0 (by omega) _ rfl
    obtain ⟨x1, e1⟩ := hb 1 (by omega) _ rfl
    obtain ⟨x2, e2⟩ := hb 2 (by omega) _ rfl
    obtain ⟨x3, e3⟩ := hb 3 (by omega) _ rfl
    obtain ⟨x4, e4⟩ := hb 4 (by omega) _ rfl
    obtain ⟨x5, e5⟩ := hb 5 (by omega) _ rfl
    obtain ⟨x6, e6⟩ := hb 6 (by omega) _ rfl
    obtain ⟨x7, e7⟩ := hb 7 (by omega) _ rfl
    unfold byC at e0 e1 e2 e3 e4 e5 e6 e7
    simp only [List.cons.injEq, and_true] at e0 e1 e2 e3 e4 e5 e6 e7
    subst e0 e1 e2 e3 e4 e5 e6 e7
    exact ⟨⟨x0, x1, x2, x3, x4, x5, x6, x7⟩, rfl⟩
set_option maxRecDepth 100000 in
theorem open_keys {v : Value} {d : DataW H} {p : List MemPlace} {r : Reach} {base : Nat} (hv : Value.okWide Try.prog W r base 40 v) (h : DataW.Trod enc Try.prog W 0 sp true 40 v d p) :
    ∃ (a : Option Addr) (cap : Nat) (l : List K8), v = .slice a l.length cap ∧ l.length ≤ cap ∧ l.length ≤ maxLen ∧ SlK W W.heap.size a l := by
  obtain ⟨a, len, cap, rfl⟩ := okWide_slice Try.underlying40 hv
  obtain ⟨fuel, hf⟩ := h
  obtain ⟨a', len', cap', l, hcs, hl, hc, hm, hs⟩ := slr_of_trod (R := fun x cs => cs = K8.cells x) Try.underlying40 (by rw [cells_key]; omega) (fun n cs y hl hy => key_is n cs y hl hy) hf
  simp only [Value.cells, List.cons.injEq, Value.slice.injEq, and_true] at hcs
  obtain ⟨rfl, rfl, rfl⟩ := hcs
  rw [cells_key] at hs
  exact ⟨a, cap, l, by rw [hl], by omega, by omega, hs⟩
end
end Go.Proofs.Ytngnjlidfhenkaa
