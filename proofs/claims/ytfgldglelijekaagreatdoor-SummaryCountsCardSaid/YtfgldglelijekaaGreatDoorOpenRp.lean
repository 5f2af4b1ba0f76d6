/-
  How the arguments of the laws read: reports.
-/
import Derived.Test.YtfgldglelijekaaGreatDoorOpenS
import Derived.Test.YtfgldglelijekaaGreatDoorRp
namespace Go.Proofs.YtfgldglelijekaaGreatDoor
set_option linter.unusedSimpArgs false
set_option linter.unusedVariables false
set_option linter.unusedSectionVars false
open Go.ChangeShapes Go.WideShapes Go.ChangeAt Go.RowKit Go.Deep
open Go.ChangeMaps (open_string shut_string)

section
variable {H : Type} {enc : TypeId × Value → H} {W : World} {sp : Nat → Bool}
theorem sliceR_cell {t e : TypeId} {n : Nat} {cs : List Value} {y : DataW H × List MemPlace} (ht : Tryz.prog.underlying t = some (.slice e)) (h : DataW.trod enc Tryz.prog W 0 sp true n t cs = some y) : ∃ a len cap, cs = [.slice a len cap] := by
  rcases open_slice ht h with ⟨h1, _⟩ | ⟨a, len, cap, m, n, D, Pl, h1, _⟩
  · exact ⟨_, _, _, h1⟩
  · exact ⟨_, _, _, h1⟩
theorem six_ints {t : TypeId} {fs : Array Field} {n : Nat} {cs : List Value} {y : DataW H × List MemPlace} (ht : Tryz.prog.underlying t = some (.struct fs)) (ho : oneCellFields Tryz.prog fs = true) (hf : fs.toList.map (·.type) = [3, 3, 3, 3, 3, 3]) (hl : cs.length = 6) (h : DataW.trod enc Tryz.prog W 0 sp true n t cs = some y) :
    ∃ a b c d e f : Int, cs = [.int .i64 a, .int .i64 b, .int .i64 c, .int .i64 d, .int .i64 e, .int .i64 f] := by
  obtain ⟨m, hg⟩ := cells_struct [3, 3, 3, 3, 3, 3] ht ho hf h (by simpa using hl)
  obtain ⟨c0, _, e0, g0⟩ := hg 0 _ rfl
  obtain ⟨c1, _, e1, g1⟩ := hg 1 _ rfl
  obtain ⟨c2, _, e2, g2⟩ := hg 2 _ rfl
  obtain ⟨c3, _, e3, g3⟩ := hg 3 _ rfl
  obtain ⟨c4, _, e4, g4⟩ := hg 4 _ rfl
  obtain ⟨c5, _, e5, g5⟩ := hg 5 _ rfl
  obtain ⟨x0, f0, _⟩ := intS_cell g0
  obtain ⟨x1, f1, _⟩ := intS_cell g1
  obtain ⟨x2, f2, _⟩ := intS_cell g2
  obtain ⟨x3, f3, _⟩ := intS_cell g3
  obtain ⟨x4, f4, _⟩ := intS_cell g4
  obtain ⟨x5, f5, _⟩ := intS_cell g5
  simp only [List.cons.injEq, and_true] at f0 f1 f2 f3 f4 f5
  subst f0 f1 f2 f3 f4 f5
  match cs, hl with
  | [_, _, _, _, _, _], _ =>
    simp at e0 e1 e2 e3 e4 e5
    subst e0 e1 e2 e3 e4 e5
    exact ⟨_, _, _, _, _, _, rfl⟩
set_option maxRecDepth 100000 in
theorem open_report {v : Value} {d : DataW H} {p : List MemPlace} {r : Reach} {base : Nat} (hv : Value.okWide Tryz.prog W r base 29 v) (h : DataW.Trod enc Tryz.prog W 0 sp true 29 v d p) :
    ∃ R : Rp, v = R.val ∧ R.Ok W := by
  obtain ⟨cs, rfl, hsz⟩ := okWide_struct Tryz.underlying29 hv
  obtain ⟨fuel, hf⟩ := h
  have hcell : Tryz.prog.cellsOf 29 = 13 := by kernel_rfl
  have hl : cs.toList.length = 13 := by rw [← hcell]; simpa [Value.cells] using hsz
  simp only [Value.cells] at hf
  obtain ⟨m0, y0, h0⟩ := field_at Tryz.underlying29 hf 0 rfl
  obtain ⟨m1, y1, h1⟩ := field_at Tryz.underlying29 hf 1 rfl
  obtain ⟨m2, y2, h2⟩ := field_at Tryz.underlying29 hf 2 rfl
  obtain ⟨m3, y3, h3⟩ := field_at Tryz.underlying29 hf 3 rfl
  obtain ⟨m4, y4, h4⟩ := field_at Tryz.underlying29 hf 4 rfl
  obtain ⟨m5, y5, h5⟩ := field_at Tryz.underlying29 hf 5 rfl
  obtain ⟨m6, y6, h6⟩ := field_at Tryz.underlying29 hf 6 rfl
  simp only [List.getElem_toArray, List.getElem_cons_zero, List.getElem_cons_succ] at h0 h1 h2 h3 h4 h5 h6
  rw [show Tryz.prog.cellsOf 23 = 6 by kernel_rfl] at h0
  rw [show Tryz.prog.cellsOf 24 = 1 by kernel_rfl] at h1
  rw [cellsS_int] at h2 h3
  rw [show Tryz.prog.cellsOf 25 = 1 by kernel_rfl] at h4
  rw [show Tryz.prog.cellsOf 26 = 1 by kernel_rfl] at h5
  rw [show Tryz.prog.cellsOf 27 = 2 by kernel_rfl] at h6
  obtain ⟨x0, x1, x2, x3, x4, x5, e0⟩ := six_ints Tryz.underlying23 (by kernel_rfl) rfl (by simp; omega) h0
  obtain ⟨a1, n1, k1, l1, e1, hl1, _, hk1, hs1⟩ := slr_of_trod (R := fun x cs => cs = recL x) Tryz.underlying24 (by rw [cellsS_rec]; omega) (fun n cs y hl hy => by
    obtain ⟨a, b, c, d, e, f, hc⟩ := six_ints Tryz.underlying42 (by kernel_rfl) rfl (by rw [hl, cellsS_rec]) hy
    exact ⟨⟨a, b, c, d, e, f⟩, hc⟩) h1
  obtain ⟨x7, e2, _⟩ := intS_cell h2
  obtain ⟨x8, e3, _⟩ := intS_cell h3
  obtain ⟨fa, fn, fc, e4⟩ := sliceR_cell Tryz.underlying25 h4
  obtain ⟨a5, n5, k5, l5, e5, hl5, _, _, hs5⟩ := slr_of_trod (R := intIs) Tryz.underlying26 (by rw [cellsS_int]; omega) (fun n cs y hl hy => by
    obtain ⟨x, hc, _⟩ := intS_cell hy
    exact ⟨x, hc⟩) h5
  obtain ⟨z0, e6, _⟩ := ints_of_array Tryz.underlying27 h6 0 (by omega)
  obtain ⟨z1, e7, _⟩ := ints_of_array Tryz.underlying27 h6 1 (by omega)
  rw [cellsS_rec] at hs1
  rw [cellsS_int] at hs5
  refine ⟨⟨x0, x1, x2, x3, x4, x5, a1, l1, k1, x7, x8, fa, fn, fc, a5, l5, k5, z0, z1⟩, ?_, hs1, hs5, by show l1.length ≤ _; omega⟩
  subst hl1 hl5
  obtain ⟨L⟩ := cs
  simp only at hl e0 e1 e2 e3 e4 e5 e6 e7
  match L, hl with
  | [_, _, _, _, _, _, _, _, _, _, _, _, _], _ =>
    simp at e0 e1 e2 e3 e4 e5 e6 e7
    obtain ⟨rfl, rfl, rfl, rfl, rfl, rfl⟩ := e0
    subst e1 e2 e3 e4 e5 e6 e7
    rfl
end
end Go.Proofs.YtfgldglelijekaaGreatDoor
