/-
  How the arguments of the laws read: scenarios.
-/
import Derived.Test.YtfcgdfcekpbliaaGreatDoorOpenB
import Derived.Test.YtfcgdfcekpbliaaGreatDoorLaidH
import Derived.Test.YtfcgdfcekpbliaaGreatDoorLs2
import Derived.Test.YtfcgdfcekpbliaaGreatDoorRows
import Derived.OpenShut
namespace Go.Proofs.YtfcgdfcekpbliaaGreatDoor
set_option linter.unusedSimpArgs false
set_option linter.unusedVariables false
set_option linter.unusedSectionVars false
open Go.ChangeShapes Go.WideShapes Go.ChangeAt Go.RowKit Go.Deep
open Go.ChangeMaps (open_string shut_string)

/-- A scenario's parts. -/
structure Sq where
  sd : Int
  a : Option Addr
  xs : List St
  c : Nat
  wk : Int
  ws : Int
def Sq.val (s : Sq) : Value := .agg #[.int .i64 s.sd, .slice s.a s.xs.length s.c, .int .i64 s.wk, .int .i64 s.ws]
theorem cellsC_Field : Tryz.prog.cellsOf 87 = 3 := by kernel_rfl
theorem cellsC_Setting : Tryz.prog.cellsOf 95 = 2 := by kernel_rfl
theorem cellsC_Step : Tryz.prog.cellsOf 49 = 6 := by kernel_rfl
theorem cellsC_int : Tryz.prog.cellsOf 3 = 1 := by kernel_rfl
section
variable {H : Type} {enc : TypeId × Value → H} {W : World} {sp : Nat → Bool}
theorem fieldC_at {P : Program} {t : TypeId} {fs : Array Field} {n : Nat} {cs : List Value} {x : DataW H × List MemPlace} (ht : P.underlying t = some (.struct fs)) (h : DataW.trod enc P W 0 sp true n t cs = some x) (i : Nat) {f : Field} (hf : fs[i]? = some f) :
    ∃ m y, DataW.trod enc P W 0 sp true m f.type ((cs.drop f.offset).take (P.cellsOf f.type)) = some y := by
  obtain ⟨xs, m, _, _, _, hl, hx⟩ := DataW.trod_struct ht h
  have h1 := hx i f hf
  have hi : i < fs.size := (Array.getElem?_eq_some_iff.1 hf).1
  rw [List.getElem?_eq_getElem (by omega)] at h1
  exact ⟨m, _, h1⟩
set_option maxRecDepth 100000 in
theorem fieldC_is (n : Nat) (cs : List Value) (y : DataW H × List MemPlace) (hl : cs.length = Tryz.prog.cellsOf 87) (h : DataW.trod enc Tryz.prog W 0 sp true n 87 cs = some y) : ∃ x : Fd, x.Is cs := by
  rw [cellsC_Field] at hl
  obtain ⟨m, hf⟩ := cells_struct [9, 9, 4] Tryz.underlying87 (by kernel_rfl) rfl h hl
  obtain ⟨c0, _, e0, g0⟩ := hf 0 _ rfl
  obtain ⟨c1, _, e1, g1⟩ := hf 1 _ rfl
  obtain ⟨c2, _, e2, g2⟩ := hf 2 _ rfl
  obtain ⟨s0, f0, _, m0⟩ := DataW.trod_string Tryz.underlying9 g0
  obtain ⟨s1, f1, _, m1⟩ := DataW.trod_string Tryz.underlying9 g1
  obtain ⟨b2, f2, _⟩ := DataW.trod_bool Tryz.underlying4 g2
  simp only [List.cons.injEq, and_true] at f0 f1 f2
  subst f0 f1 f2
  refine ⟨⟨s0.data.toList, s1.data.toList, b2⟩, ?_, by rw [Array.length_toList]; exact m0, by rw [Array.length_toList]; exact m1⟩
  match cs, hl with
  | [c0, c1, c2], _ =>
    simp at e0 e1 e2
    subst e0 e1 e2
    rfl
theorem intC_cell {n : Nat} {cs : List Value} {y : DataW H × List MemPlace} (h : DataW.trod enc Tryz.prog W 0 sp true n 3 cs = some y) : ∃ x : Int, cs = [.int .i64 x] := by
  obtain ⟨x, f, _, hx⟩ := DataW.trod_int Tryz.underlying3 h
  exact ⟨x, f⟩
theorem settingC_is {n : Nat} {cs : List Value} {y : DataW H × List MemPlace} (hl : cs.length = 2) (h : DataW.trod enc Tryz.prog W 0 sp true n 95 cs = some y) : ∃ x : Int × Int, seIs x cs := by
  obtain ⟨m, hg⟩ := cells_struct [3, 3] Tryz.underlying95 (by kernel_rfl) rfl h hl
  obtain ⟨c0, _, e0, g0⟩ := hg 0 _ rfl
  obtain ⟨c1, _, e1, g1⟩ := hg 1 _ rfl
  obtain ⟨x0, f0⟩ := intC_cell g0
  obtain ⟨x1, f1⟩ := intC_cell g1
  simp only [List.cons.injEq, and_true] at f0 f1
  subst f0 f1
  refine ⟨(x0, x1), ?_⟩
  match cs, hl with
  | [_, _], _ =>
    simp at e0 e1
    subst e0 e1
    rfl
set_option maxRecDepth 100000 in
theorem stepC_is (n : Nat) (cs : List Value) (y : DataW H × List MemPlace) (hl : cs.length = Tryz.prog.cellsOf 49) (h : DataW.trod enc Tryz.prog W 0 sp true n 49 cs = some y) : ∃ x : St, stIs W x cs := by
  rw [cellsC_Step] at hl
  obtain ⟨m, hf⟩ := cells_struct [3, 3, 3, 4, 46, 47] Tryz.underlying49 (by kernel_rfl) rfl h hl
  obtain ⟨c0, _, e0, g0⟩ := hf 0 _ rfl
  obtain ⟨c1, _, e1, g1⟩ := hf 1 _ rfl
  obtain ⟨c2, _, e2, g2⟩ := hf 2 _ rfl
  obtain ⟨c3, _, e3, g3⟩ := hf 3 _ rfl
  obtain ⟨c4, _, e4, g4⟩ := hf 4 _ rfl
  obtain ⟨c5, _, e5, g5⟩ := hf 5 _ rfl
  obtain ⟨x0, f0⟩ := intC_cell g0
  obtain ⟨x1, f1⟩ := intC_cell g1
  obtain ⟨x2, f2⟩ := intC_cell g2
  obtain ⟨b3, f3, _⟩ := DataW.trod_bool Tryz.underlying4 g3
  obtain ⟨fa, fn, fc, fl, f4, hl4, _, _, hs4⟩ := slr_of_trod (R := Fd.Is) Tryz.underlying46 (by rw [cellsC_Field]; omega) (fun n cs y hl hy => fieldC_is n cs y hl hy) g4
  obtain ⟨sa, sn, sc, sl, f5, hl5, _, _, hs5⟩ := slr_of_trod (R := seIs) Tryz.underlying47 (by rw [cellsC_Setting]; omega) (fun n cs y hl hy => settingC_is (by rw [hl, cellsC_Setting]) hy) g5
  rw [cellsC_Field] at hs4
  rw [cellsC_Setting] at hs5
  simp only [List.cons.injEq, and_true] at f0 f1 f2 f3 f4 f5
  subst f0 f1 f2 f3 f4 f5 hl4 hl5
  refine ⟨⟨x0, x1, x2, b3, fl, sl⟩, fa, fc, sa, sc, ?_, hs4, hs5⟩
  match cs, hl with
  | [_, _, _, _, _, _], _ =>
    simp at e0 e1 e2 e3 e4 e5
    subst e0 e1 e2 e3 e4 e5
    rfl
set_option maxRecDepth 100000 in
theorem open_scn {v : Value} {d : DataW H} {p : List MemPlace} {r : Reach} {base : Nat} (hv : Value.okWide Tryz.prog W r base 26 v) (h : DataW.Trod enc Tryz.prog W 0 sp true 26 v d p) :
    ∃ R : Sq, v = R.val ∧ SlSt W W W.heap.size R.a R.xs := by
  obtain ⟨cs, rfl, hsz⟩ := okWide_struct Tryz.underlying26 hv
  obtain ⟨fuel, hf⟩ := h
  have hcell : Tryz.prog.cellsOf 26 = 4 := by kernel_rfl
  have hl : cs.toList.length = 4 := by rw [← hcell]; simpa [Value.cells] using hsz
  simp only [Value.cells] at hf
  obtain ⟨m0, y0, h0⟩ := fieldC_at Tryz.underlying26 hf 0 rfl
  obtain ⟨m1, y1, h1⟩ := fieldC_at Tryz.underlying26 hf 1 rfl
  obtain ⟨m2, y2, h2⟩ := fieldC_at Tryz.underlying26 hf 2 rfl
  simp only [List.getElem_toArray, List.getElem_cons_zero, List.getElem_cons_succ] at h0 h1 h2
  rw [cellsC_int] at h0
  rw [show Tryz.prog.cellsOf 22 = 1 by kernel_rfl] at h1
  rw [show Tryz.prog.cellsOf 24 = 2 by kernel_rfl] at h2
  obtain ⟨x0, e0⟩ := intC_cell h0
  obtain ⟨a1, n1, k1, l1, e1, hl1, _, _, hs1⟩ := slr_of_trod (R := stIs W) Tryz.underlying22 (by rw [cellsC_Step]; omega) (fun n cs y hl hy => stepC_is n cs y hl hy) h1
  rw [cellsC_Step] at hs1
  obtain ⟨m, hg⟩ := cells_struct [3, 3] Tryz.underlying24 (by kernel_rfl) rfl h2 (by simp; omega)
  obtain ⟨c2, _, e2, g2⟩ := hg 0 _ rfl
  obtain ⟨c3, _, e3, g3⟩ := hg 1 _ rfl
  obtain ⟨x2, f2⟩ := intC_cell g2
  obtain ⟨x3, f3⟩ := intC_cell g3
  simp only [List.cons.injEq, and_true] at f2 f3
  subst f2 f3 hl1
  refine ⟨⟨x0, a1, l1, k1, x2, x3⟩, ?_, hs1⟩
  obtain ⟨L⟩ := cs
  simp only at hl e0 e1 e2 e3
  match L, hl with
  | [_, _, _, _], _ =>
    simp at e0 e1 e2 e3
    subst e0 e1 e2 e3
    rfl
end
theorem sceneTexts_of (R : Sq) (W : World) (hE : Env W) (hd : Hd W) (hR : SlSt W W W.heap.size R.a R.xs) :
    Calls Tryz.prog 3 #[R.val] W fun e w' => e = .returned (.bool true) ∧ ∃ j, w' = W.more j := (sceneTexts_law R.sd R.wk R.ws R.xs R.a R.c W hE hd hR).mono fun _ _ h => h
end Go.Proofs.YtfcgdfcekpbliaaGreatDoor
