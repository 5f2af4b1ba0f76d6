/-
  How the arguments of the laws read: numbers.
-/
import Derived.Test.YtjdgkkmhlbjdnaaDoorOpenB
import Derived.Test.YtjdgkkmhlbjdnaaDoorDigQ
namespace Go.Proofs.YtjdgkkmhlbjdnaaDoor
set_option linter.unusedSimpArgs false
set_option linter.unusedVariables false
set_option linter.unusedSectionVars false
open Go.ChangeShapes Go.WideShapes Go.ChangeAt Go.RowKit Go.Deep
open Go.ChangeMaps (open_string shut_string)

theorem cells_int : Tryd.prog.cellsOf 3 = 1 := by kernel_rfl
section
variable {H : Type} {enc : TypeId × Value → H} {W : World} {sp : Nat → Bool}
set_option maxRecDepth 100000 in
theorem open_ints {v : Value} {d : DataW H} {p : List MemPlace} {r : Reach} {base : Nat} (hv : Value.okWide Tryd.prog W r base 26 v) (h : DataW.Trod enc Tryd.prog W 0 sp true 26 v d p) :
    ∃ (a : Option Addr) (cap : Nat) (l : List Int), v = .slice a l.length cap ∧ l.length ≤ cap ∧ l.length ≤ maxLen ∧ (∀ n ∈ l, goodI n) ∧ SlI W W.heap.size a l := by
  obtain ⟨a, len, cap, rfl⟩ := okWide_slice Tryd.underlying26 hv
  obtain ⟨fuel, hf⟩ := h
  obtain ⟨a', len', cap', l, hcs, hl, hc, hm, hs⟩ := slr_of_trod (R := fun x cs => intIs x cs ∧ goodI x) Tryd.underlying26 (by rw [cells_int]; omega) (fun n cs y hl hy => by
    obtain ⟨x, f, _, hx⟩ := DataW.trod_int Tryd.underlying3 hy
    exact ⟨x, f, bounds_i64 hx⟩) hf
  simp only [Value.cells, List.cons.injEq, Value.slice.injEq, and_true] at hcs
  obtain ⟨rfl, rfl, rfl⟩ := hcs
  rw [cells_int] at hs
  refine ⟨a, cap, l, by rw [hl], by omega, by omega, fun n hn => ?_, hs.mono (Nat.le_refl _) (fun _ _ _ h => h.1)⟩
  obtain ⟨k, hk, rfl⟩ := List.getElem_of_mem hn
  obtain ⟨_, _, _, _, _, hr, _⟩ := hs k hk
  exact hr.2
end
