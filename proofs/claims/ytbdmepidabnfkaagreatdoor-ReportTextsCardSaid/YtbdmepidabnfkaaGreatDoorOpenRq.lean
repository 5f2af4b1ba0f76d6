/-
  How the arguments of the laws read: reports, with their faults.
-/
import Derived.Test.YtbdmepidabnfkaaGreatDoorOpenB
import Derived.Test.YtbdmepidabnfkaaGreatDoorRepA
import Derived.Test.YtbdmepidabnfkaaGreatDoorRows
import Derived.OpenShut
namespace Go.Proofs.YtbdmepidabnfkaaGreatDoor
set_option linter.unusedSimpArgs false
set_option linter.unusedVariables false
set_option linter.unusedSectionVars false
open Go.ChangeShapes Go.WideShapes Go.ChangeAt Go.RowKit Go.Deep
open Go.ChangeMaps (open_string shut_string)

/-- A report's parts. -/
structure Rq where
  c0 : Int
  c1 : Int
  c2 : Int
  c3 : Int
  c4 : Int
  c5 : Int
  a : Option Addr
  l : List Rec
  c : Nat
  v : Int
  t : Int
  fa : Option Addr
  fs : List Fl
  fc : Nat
  ua : Option Addr
  us : List Int
  uc : Nat
  f0 : Int
  f1 : Int
def Rq.val (r : Rq) : Value := .agg #[.int .i64 r.c0, .int .i64 r.c1, .int .i64 r.c2, .int .i64 r.c3, .int .i64 r.c4, .int .i64 r.c5, .slice r.a r.l.length r.c, .int .i64 r.v, .int .i64 r.t, .slice r.fa r.fs.length r.fc, .slice r.ua r.us.length r.uc, .int .i64 r.f0, .int .i64 r.f1]
structure Rq.Ok (W : World) (r : Rq) : Prop where
  ok : RpOk W r.a r.l r.c r.fa r.fs r.ua r.us
  gt : goodI r.t
  g0 : goodI r.f0
  g1 : goodI r.f1
theorem cells_Fault : Tryz.prog.cellsOf 88 = 2 := by kernel_rfl
theorem bounds_i64 {n : Int} (h : (Lit.int .i64 n).wf = true) : goodI n := by
  simp [Lit.wf, IntKind.min, IntKind.max, IntKind.signed, IntKind.bits] at h
  unfold goodI
  omega
theorem cellsS_int : Tryz.prog.cellsOf 3 = 1 := by kernel_rfl
theorem cellsS_rec : Tryz.prog.cellsOf 44 = 6 := by kernel_rfl
section
variable {H : Type} {enc : TypeId × Value → H} {W : World} {sp : Nat → Bool}
theorem field_at {P : Program} {t : TypeId} {fs : Array Field} {n : Nat} {cs : List Value} {x : DataW H × List MemPlace} (ht : P.underlying t = some (.struct fs)) (h : DataW.trod enc P W 0 sp true n t cs = some x) (i : Nat) {f : Field} (hf : fs[i]? = some f) :
    ∃ m y, DataW.trod enc P W 0 sp true m f.type ((cs.drop f.offset).take (P.cellsOf f.type)) = some y := by
  obtain ⟨xs, m, _, _, _, hl, hx⟩ := DataW.trod_struct ht h
  have h1 := hx i f hf
  have hi : i < fs.size := (Array.getElem?_eq_some_iff.1 hf).1
  rw [List.getElem?_eq_getElem (by omega)] at h1
  exact ⟨m, _, h1⟩
theorem intS_cell {n : Nat} {cs : List Value} {y : DataW H × List MemPlace} (h : DataW.trod enc Tryz.prog W 0 sp true n 3 cs = some y) : ∃ x : Int, cs = [.int .i64 x] ∧ goodI x := by
  obtain ⟨x, f, _, hx⟩ := DataW.trod_int Tryz.underlying3 h
  exact ⟨x, f, bounds_i64 hx⟩
theorem ints_of_array {t : TypeId} {n k : Nat} {cs : List Value} {y : DataW H × List MemPlace} (ht : Tryz.prog.underlying t = some (.array n 3)) (h : DataW.trod enc Tryz.prog W 0 sp true k t cs = some y) (i : Nat) (hi : i < n) : ∃ x : Int, cs[i]? = some (.int .i64 x) ∧ goodI x := by
  obtain ⟨xs, m, _, _, _, hl, hx⟩ := DataW.trod_array ht h
  have h1 := hx i hi
  rw [cellsS_int, Nat.mul_one, List.getElem?_eq_getElem (by omega)] at h1
  obtain ⟨x, hc, hg⟩ := intS_cell h1
  refine ⟨x, ?_, hg⟩
  have := congrArg (fun l : List Value => l[0]?) hc
  simpa using this
theorem int_cellF {n : Nat} {c : Value} {y : DataW H × List MemPlace} (h : DataW.trod enc Tryz.prog W 0 sp true n 3 [c] = some y) : ∃ x : Int, c = .int .i64 x := by
  obtain ⟨x, f, _, hx⟩ := DataW.trod_int Tryz.underlying3 h
  simp only [List.cons.injEq, and_true] at f
  exact ⟨x, f⟩
theorem fault_cells {n : Nat} {cs : List Value} {y : DataW H × List MemPlace} (hl : cs.length = 2) (h : DataW.trod enc Tryz.prog W 0 sp true n 88 cs = some y) : ∃ x : Fl, cs = Fl.cells x := by
  obtain ⟨m, hg⟩ := cells_struct [3, 3] Tryz.underlying88 (by kernel_rfl) rfl h hl
  obtain ⟨c0, _, e0, g0⟩ := hg 0 _ rfl
  obtain ⟨c1, _, e1, g1⟩ := hg 1 _ rfl
  obtain ⟨x0, rfl⟩ := int_cellF g0
  obtain ⟨x1, rfl⟩ := int_cellF g1
  refine ⟨⟨x0, x1⟩, ?_⟩
  match cs, hl with
  | [_, _], _ =>
    simp at e0 e1
    subst e0 e1
    rfl
theorem six_ints {t : TypeId} {fs : Array Field} {n : Nat} {cs : List Value} {y : DataW H × List MemPlace} (ht : Tryz.prog.underlying t = some (.struct fs)) (ho : oneCellFields Tryz.prog fs = true) (hf : fs.toList.map (·.type) = [3, 3, 3, 3, 3, 3]) (hl : cs.length = 6) (h : DataW.trod enc Tryz.prog W 0 sp true n t cs = some y) :
    ∃ a b c d e f : Int, cs = [.int .i64 a, .int .i64 b, .int .i64 c, .int .i64 d, .int .i64 e, .int .i64 f] := by
  obtain ⟨m, hg⟩ := cells_struct [3, 3, 3, 3, 3, 3] ht ho hf h (by simpa using hl)
  obtain ⟨c0, _, e0, g0⟩ := hg 0 _ rfl
  obtain ⟨c1, _, e1, g1⟩ := hg 1 _ rfl
  obtain ⟨c2, _, e2, g2⟩ := hg 2 _ rfl
  obtain ⟨c3, _, e3, g3⟩ := hg 3 _ rfl
  obtain ⟨c4, _, e4, g4⟩ := hg 4 _ rfl
  obtain ⟨c5, _, e5, g5⟩ := hg 5 _ rfl
  obtain ⟨x0, f0, _⟩ := intS_cell g0
  obtain ⟨x1, f1, _⟩ := intS_cell g1
  obtain ⟨x2, f2, _⟩ := intS_cell g2
  obtain ⟨x3, f3, _⟩ := intS_cell g3
  obtain ⟨x4, f4, _⟩ := intS_cell g4
  obtain ⟨x5, f5, _⟩ := intS_cell g5
  simp only [List.cons.injEq, and_true] at f0 f1 f2 f3 f4 f5
  subst f0 f1 f2 f3 f4 f5
  match cs, hl with
  | [_, _, _, _, _, _], _ =>
    simp at e0 e1 e2 e3 e4 e5
    subst e0 e1 e2 e3 e4 e5
    exact ⟨_, _, _, _, _, _, rfl⟩
set_option maxRecDepth 100000 in
theorem open_report {v : Value} {d : DataW H} {p : List MemPlace} {r : Reach} {base : Nat} (hv : Value.okWide Tryz.prog W r base 29 v) (h : DataW.Trod enc Tryz.prog W 0 sp true 29 v d p) :
    ∃ R : Rq, v = R.val ∧ R.Ok W := by
  obtain ⟨cs, rfl, hsz⟩ := okWide_struct Tryz.underlying29 hv
  obtain ⟨fuel, hf⟩ := h
  have hcell : Tryz.prog.cellsOf 29 = 13 := by kernel_rfl
  have hl : cs.toList.length = 13 := by rw [← hcell]; simpa [Value.cells] using hsz
  simp only [Value.cells] at hf
  obtain ⟨m0, y0, h0⟩ := field_at Tryz.underlying29 hf 0 rfl
  obtain ⟨m1, y1, h1⟩ := field_at Tryz.underlying29 hf 1 rfl
  obtain ⟨m2, y2, h2⟩ := field_at Tryz.underlying29 hf 2 rfl
  obtain ⟨m3, y3, h3⟩ := field_at Tryz.underlying29 hf 3 rfl
  obtain ⟨m4, y4, h4⟩ := field_at Tryz.underlying29 hf 4 rfl
  obtain ⟨m5, y5, h5⟩ := field_at Tryz.underlying29 hf 5 rfl
  obtain ⟨m6, y6, h6⟩ := field_at Tryz.underlying29 hf 6 rfl
  simp only [List.getElem_toArray, List.getElem_cons_zero, List.getElem_cons_succ] at h0 h1 h2 h3 h4 h5 h6
  rw [show Tryz.prog.cellsOf 23 = 6 by kernel_rfl] at h0
  rw [show Tryz.prog.cellsOf 24 = 1 by kernel_rfl] at h1
  rw [cellsS_int] at h2 h3
  rw [show Tryz.prog.cellsOf 25 = 1 by kernel_rfl] at h4
  rw [show Tryz.prog.cellsOf 26 = 1 by kernel_rfl] at h5
  rw [show Tryz.prog.cellsOf 27 = 2 by kernel_rfl] at h6
  obtain ⟨x0, x1, x2, x3, x4, x5, e0⟩ := six_ints Tryz.underlying23 (by kernel_rfl) rfl (by simp; omega) h0
  obtain ⟨a1, n1, k1, l1, e1, hl1, hq1, hk1, hs1⟩ := slr_of_trod (R := fun x cs => cs = recL x) Tryz.underlying24 (by rw [cellsS_rec]; omega) (fun n cs y hl hy => by
    obtain ⟨a, b, c, d, e, f, hc⟩ := six_ints Tryz.underlying44 (by kernel_rfl) rfl (by rw [hl, cellsS_rec]) hy
    exact ⟨⟨a, b, c, d, e, f⟩, hc⟩) h1
  obtain ⟨x7, e2, _⟩ := intS_cell h2
  obtain ⟨x8, e3, g8⟩ := intS_cell h3
  obtain ⟨fa, fn, fc, fl, e4, hl4, hk4, _, hs4⟩ := slr_of_trod (R := fun (x : Fl) cs => cs = Fl.cells x) Tryz.underlying25 (by rw [cells_Fault]; omega) (fun n cs y hl hy => fault_cells (by rw [hl, cells_Fault]) hy) h4
  obtain ⟨a5, n5, k5, l5, e5, hl5, _, _, hs5⟩ := slr_of_trod (R := intIs) Tryz.underlying26 (by rw [cellsS_int]; omega) (fun n cs y hl hy => by
    obtain ⟨x, hc, _⟩ := intS_cell hy
    exact ⟨x, hc⟩) h5
  obtain ⟨z0, e6, gz0⟩ := ints_of_array Tryz.underlying27 h6 0 (by omega)
  obtain ⟨z1, e7, gz1⟩ := ints_of_array Tryz.underlying27 h6 1 (by omega)
  rw [cellsS_rec] at hs1
  rw [cellsS_int] at hs5
  rw [cells_Fault] at hs4
  refine ⟨⟨x0, x1, x2, x3, x4, x5, a1, l1, k1, x7, x8, fa, fl, fc, a5, l5, k5, z0, z1⟩, ?_, ⟨hs1, hs4, hs5, by show l1.length ≤ k1; omega⟩, g8, gz0, gz1⟩
  subst hl1 hl4 hl5
  obtain ⟨L⟩ := cs
  simp only at hl e0 e1 e2 e3 e4 e5 e6 e7
  match L, hl with
  | [_, _, _, _, _, _, _, _, _, _, _, _, _], _ =>
    simp at e0 e1 e2 e3 e4 e5 e6 e7
    obtain ⟨rfl, rfl, rfl, rfl, rfl, rfl⟩ := e0
    subst e1 e2 e3 e4 e5 e6 e7
    rfl
end
theorem reportSame_of (x y : Rq) (m : Int) (w : World) (hK : EnvK0 w) (hF : FN w) (hx : x.Ok w) (hy : y.Ok w) (hM : w.cell? MaxA = some (.int .i64 m)) :
    Calls Tryz.prog 3 #[x.val, y.val] w fun e w' => e = .returned (.bool true) ∧ ∃ j, w' = w.more j :=
  reportSame_law x.c0 x.c1 x.c2 x.c3 x.c4 x.c5 x.a x.l x.c x.v x.t x.fa x.fs x.fc x.ua x.us x.uc x.f0 x.f1 y.c0 y.c1 y.c2 y.c3 y.c4 y.c5 y.a y.l y.c y.v y.t y.fa y.fs y.fc y.ua y.us y.uc y.f0 y.f1 m w ⟨hK, hF⟩ hM hx.ok hy.ok
end Go.Proofs.YtbdmepidabnfkaaGreatDoor
