/-
  How the arguments of the laws read: reports and summaries.
-/
import Derived.Test.YtfgldglelijekaaGreatDoorOpenB
import Derived.Test.YtfgldglelijekaaGreatDoorSum4
import Derived.Test.YtfgldglelijekaaGreatDoorRows
import Derived.OpenShut
namespace Go.Proofs.YtfgldglelijekaaGreatDoor
set_option linter.unusedSimpArgs false
set_option linter.unusedVariables false
set_option linter.unusedSectionVars false
open Go.ChangeShapes Go.WideShapes Go.ChangeAt Go.RowKit Go.Deep
open Go.ChangeMaps (open_string shut_string)

theorem cellsS_int : Tryz.prog.cellsOf 3 = 1 := by kernel_rfl
theorem cellsS_rec : Tryz.prog.cellsOf 42 = 6 := by kernel_rfl
section
variable {H : Type} {enc : TypeId × Value → H} {W : World} {sp : Nat → Bool}
theorem field_at {P : Program} {t : TypeId} {fs : Array Field} {n : Nat} {cs : List Value} {x : DataW H × List MemPlace} (ht : P.underlying t = some (.struct fs)) (h : DataW.trod enc P W 0 sp true n t cs = some x) (i : Nat) {f : Field} (hf : fs[i]? = some f) :
    ∃ m y, DataW.trod enc P W 0 sp true m f.type ((cs.drop f.offset).take (P.cellsOf f.type)) = some y := by
  obtain ⟨xs, m, _, _, _, hl, hx⟩ := DataW.trod_struct ht h
  have h1 := hx i f hf
  have hi : i < fs.size := (Array.getElem?_eq_some_iff.1 hf).1
  rw [List.getElem?_eq_getElem (by omega)] at h1
  exact ⟨m, _, h1⟩
theorem intS_cell {n : Nat} {cs : List Value} {y : DataW H × List MemPlace} (h : DataW.trod enc Tryz.prog W 0 sp true n 3 cs = some y) : ∃ x : Int, cs = [.int .i64 x] ∧ goodI x := by
  obtain ⟨x, f, _, hx⟩ := DataW.trod_int Tryz.underlying3 h
  exact ⟨x, f, bounds_i64 hx⟩
theorem ints_of_array {t : TypeId} {n k : Nat} {cs : List Value} {y : DataW H × List MemPlace} (ht : Tryz.prog.underlying t = some (.array n 3)) (h : DataW.trod enc Tryz.prog W 0 sp true k t cs = some y) (i : Nat) (hi : i < n) : ∃ x : Int, cs[i]? = some (.int .i64 x) ∧ goodI x := by
  obtain ⟨xs, m, _, _, _, hl, hx⟩ := DataW.trod_array ht h
  have h1 := hx i hi
  rw [cellsS_int, Nat.mul_one, List.getElem?_eq_getElem (by omega)] at h1
  obtain ⟨x, hc, hg⟩ := intS_cell h1
  refine ⟨x, ?_, hg⟩
  have := congrArg (fun l : List Value => l[0]?) hc
  simpa using this
theorem texts_cell {n : Nat} {cs : List Value} {y : DataW H × List MemPlace} (h : DataW.trod enc Tryz.prog W 0 sp true n 35 cs = some y) :
    ∃ (a : Option Addr) (cap : Nat) (l : List (List UInt8)), cs = [.slice a l.length cap] ∧ l.length ≤ cap ∧ SlX W W.heap.size a l := by
  obtain ⟨a', len', cap', l, hcs, hl, hc, hm, hs⟩ := slr_of_trod (R := txtIs) Tryz.underlying35 (by rw [cells_text]; omega) (fun n cs y hl hy => by
    obtain ⟨s, f, _, hx⟩ := DataW.trod_string Tryz.underlying9 hy
    exact ⟨s.data.toList, f, by rw [Array.length_toList]; exact hx⟩) h
  rw [cells_text] at hs
  exact ⟨a', cap', l, by rw [hcs, hl], by omega, hs⟩
end
def valI : Option Value → Int
  | some (.int _ x) => x
  | _ => 0
set_option maxRecDepth 100000 in
theorem open_rsum {H : Type} {enc : TypeId × Value → H} {W : World} {sp : Nat → Bool} {v : Value} {d : DataW H} {p : List MemPlace} {r : Reach} {base : Nat} (hv : Value.okWide Tryz.prog W r base 39 v) (h : DataW.Trod enc Tryz.prog W 0 sp true 39 v d p) :
    ∃ (F : Nat → Int) (a : Option Addr) (cap : Nat) (R : List (List UInt8)), v = .agg (rowA F (.slice a R.length cap)) ∧ (∀ i, i < 20 → goodI (F i)) ∧ R.length ≤ cap ∧ SlX W W.heap.size a R := by
  obtain ⟨cs, rfl, hsz⟩ := okWide_struct Tryz.underlying39 hv
  obtain ⟨fuel, hf⟩ := h
  have hcell : Tryz.prog.cellsOf 39 = 21 := by kernel_rfl
  have hl : cs.toList.length = 21 := by rw [← hcell]; simpa [Value.cells] using hsz
  simp only [Value.cells] at hf
  obtain ⟨m0, y0, h0⟩ := field_at Tryz.underlying39 hf 0 rfl
  obtain ⟨m1, y1, h1⟩ := field_at Tryz.underlying39 hf 1 rfl
  obtain ⟨m2, y2, h2⟩ := field_at Tryz.underlying39 hf 2 rfl
  obtain ⟨m3, y3, h3⟩ := field_at Tryz.underlying39 hf 3 rfl
  obtain ⟨m4, y4, h4⟩ := field_at Tryz.underlying39 hf 4 rfl
  simp only [List.getElem_toArray, List.getElem_cons_zero, List.getElem_cons_succ] at h0 h1 h2 h3 h4
  rw [show Tryz.prog.cellsOf 27 = 2 by kernel_rfl] at h0 h1
  rw [show Tryz.prog.cellsOf 33 = 11 by kernel_rfl] at h2
  rw [show Tryz.prog.cellsOf 34 = 5 by kernel_rfl] at h3
  rw [show Tryz.prog.cellsOf 35 = 1 by kernel_rfl] at h4
  have g0 := ints_of_array Tryz.underlying27 h0
  have g1 := ints_of_array Tryz.underlying27 h1
  have g2 := ints_of_array Tryz.underlying33 h2
  have g3 := ints_of_array Tryz.underlying34 h3
  obtain ⟨a, cap, R, hc4, hRc, hsx⟩ := texts_cell h4
  have hall : ∀ i, i < 20 → ∃ x : Int, cs.toList[i]? = some (.int .i64 x) ∧ goodI x := fun i hi => by
    by_cases c0 : i < 2
    · obtain ⟨x, hx, hg⟩ := g0 i c0
      exact ⟨x, by rw [List.getElem?_take_of_lt c0, List.getElem?_drop] at hx; simpa using hx, hg⟩
    · by_cases c1 : i < 4
      · obtain ⟨x, hx, hg⟩ := g1 (i - 2) (by omega)
        exact ⟨x, by rw [List.getElem?_take_of_lt (by omega), List.getElem?_drop] at hx; rw [show 2 + (i - 2) = i by omega] at hx; exact hx, hg⟩
      · by_cases c2 : i < 15
        · obtain ⟨x, hx, hg⟩ := g2 (i - 4) (by omega)
          exact ⟨x, by rw [List.getElem?_take_of_lt (by omega), List.getElem?_drop] at hx; rw [show 4 + (i - 4) = i by omega] at hx; exact hx, hg⟩
        · obtain ⟨x, hx, hg⟩ := g3 (i - 15) (by omega)
          exact ⟨x, by rw [List.getElem?_take_of_lt (by omega), List.getElem?_drop] at hx; rw [show 15 + (i - 15) = i by omega] at hx; exact hx, hg⟩
  have h20 : cs.toList[20]? = some (.slice a R.length cap) := by
    have := congrArg (fun l : List Value => l[0]?) hc4
    simp only [List.getElem?_take_of_lt (show 0 < 1 by omega), List.getElem?_drop] at this
    simpa using this
  refine ⟨fun i => valI cs.toList[i]?, a, cap, R, ?_, fun i hi => ?_, hRc, hsx⟩
  · congr 1
    apply Array.ext_getElem?
    intro i
    rw [← Array.getElem?_toList]
    by_cases hi : i < 20
    · obtain ⟨x, hx, _⟩ := hall i hi
      rw [rowA_get _ _ hi, hx]
      rfl
    · by_cases e : i = 20
      · subst e; rw [h20, rowA_sec]
      · rw [List.getElem?_eq_none (by omega), Array.getElem?_eq_none (by rw [rowA_size]; omega)]
  · obtain ⟨x, hx, hg⟩ := hall i hi
    simp only [hx, valI]
    exact hg
end Go.Proofs.YtfgldglelijekaaGreatDoor
