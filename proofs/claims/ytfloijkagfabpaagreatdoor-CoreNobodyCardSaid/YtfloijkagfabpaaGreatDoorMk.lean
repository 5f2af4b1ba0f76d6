/-
  Parts of the proof, one behind the other: contracts of the program and plain laws; no condition of their own.
-/
import Derived.Test.YtfloijkagfabpaaGreatDoorMc
import Derived.Test.YtfloijkagfabpaaGreatDoorMd
import Derived.Test.YtfloijkagfabpaaGreatDoorRows
/-
  How the arguments of the laws read: bytes, texts.
-/
namespace Go.Proofs.YtfloijkagfabpaaGreatDoor
set_option linter.unusedSimpArgs false
set_option linter.unusedVariables false
set_option linter.unusedSectionVars false
open Go.ChangeShapes Go.WideShapes Go.ChangeAt Go.RowKit Go.Deep
open Go.ChangeMaps (open_string shut_string)

theorem bounds_u8 {n : Int} (h : (Lit.int .u8 n).wf = true) : 0 ≤ n ∧ n ≤ 255 := by
  simp [Lit.wf, IntKind.min, IntKind.max, IntKind.signed, IntKind.bits] at h
  omega
theorem cells_u8 : Tryz.prog.cellsOf 5 = 1 := by kernel_rfl
theorem cells_text : Tryz.prog.cellsOf 9 = 1 := by kernel_rfl
section
variable {H : Type} {enc : TypeId × Value → H} {W : World} {sp : Nat → Bool}
set_option maxRecDepth 100000 in
theorem open_bytes {v : Value} {d : DataW H} {p : List MemPlace} {r : Reach} {base : Nat} (hv : Value.okWide Tryz.prog W r base 54 v) (h : DataW.Trod enc Tryz.prog W 0 sp true 54 v d p) :
    ∃ (a : Option Addr) (cap : Nat) (l : List UInt8), v = .slice a l.length cap ∧ l.length ≤ maxLen ∧ SlB W W.heap.size a l := by
  obtain ⟨a, len, cap, rfl⟩ := okWide_slice Tryz.underlying54 hv
  obtain ⟨fuel, hf⟩ := h
  obtain ⟨a', len', cap', l, hcs, hl, hc, hm, hs⟩ := slr_of_trod (R := byteIs) Tryz.underlying54 (by rw [cells_u8]; omega) (fun n cs y hl hy => by
    obtain ⟨x, f, _, hx⟩ := DataW.trod_int Tryz.underlying5 hy
    have hb := bounds_u8 hx
    refine ⟨UInt8.ofNat x.toNat, ?_⟩
    unfold byteIs
    rw [f]
    have : ((UInt8.ofNat x.toNat).toNat : Int) = x := by rw [UInt8.toNat_ofNat']; omega
    rw [this]) hf
  simp only [Value.cells, List.cons.injEq, Value.slice.injEq, and_true] at hcs
  obtain ⟨rfl, rfl, rfl⟩ := hcs
  rw [cells_u8] at hs
  exact ⟨a, cap, l, by rw [hl], by omega, hs⟩
set_option maxRecDepth 100000 in
theorem open_texts {v : Value} {d : DataW H} {p : List MemPlace} {r : Reach} {base : Nat} (hv : Value.okWide Tryz.prog W r base 357 v) (h : DataW.Trod enc Tryz.prog W 0 sp true 357 v d p) :
    ∃ (a : Option Addr) (cap : Nat) (l : List (List UInt8)), v = .slice a l.length cap ∧ l.length ≤ cap ∧ l.length ≤ maxLen ∧ SlX W W.heap.size a l := by
  obtain ⟨a, len, cap, rfl⟩ := okWide_slice Tryz.underlying357 hv
  obtain ⟨fuel, hf⟩ := h
  obtain ⟨a', len', cap', l, hcs, hl, hc, hm, hs⟩ := slr_of_trod (R := txtIs) Tryz.underlying357 (by rw [cells_text]; omega) (fun n cs y hl hy => by
    obtain ⟨s, f, _, hx⟩ := DataW.trod_string Tryz.underlying9 hy
    exact ⟨s.data.toList, f, by rw [Array.length_toList]; exact hx⟩) hf
  simp only [Value.cells, List.cons.injEq, Value.slice.injEq, and_true] at hcs
  obtain ⟨rfl, rfl, rfl⟩ := hcs
  rw [cells_text] at hs
  exact ⟨a, cap, l, by rw [hl], by omega, by omega, hs⟩
end
end Go.Proofs.YtfloijkagfabpaaGreatDoor
/-
  How the arguments of the laws read: numbers.
-/
namespace Go.Proofs.YtfloijkagfabpaaGreatDoor
set_option linter.unusedSimpArgs false
set_option linter.unusedVariables false
set_option linter.unusedSectionVars false
open Go.ChangeShapes Go.WideShapes Go.ChangeAt Go.RowKit Go.Deep
open Go.ChangeMaps (open_string shut_string)

theorem cells_int : Tryz.prog.cellsOf 3 = 1 := by kernel_rfl
section
variable {H : Type} {enc : TypeId × Value → H} {W : World} {sp : Nat → Bool}
set_option maxRecDepth 100000 in
theorem open_ints {v : Value} {d : DataW H} {p : List MemPlace} {r : Reach} {base : Nat} (hv : Value.okWide Tryz.prog W r base 46 v) (h : DataW.Trod enc Tryz.prog W 0 sp true 46 v d p) :
    ∃ (a : Option Addr) (cap : Nat) (l : List Int), v = .slice a l.length cap ∧ l.length ≤ cap ∧ l.length ≤ maxLen ∧ (∀ n ∈ l, goodI n) ∧ SlI W W.heap.size a l := by
  obtain ⟨a, len, cap, rfl⟩ := okWide_slice Tryz.underlying46 hv
  obtain ⟨fuel, hf⟩ := h
  obtain ⟨a', len', cap', l, hcs, hl, hc, hm, hs⟩ := slr_of_trod (R := fun x cs => intIs x cs ∧ goodI x) Tryz.underlying46 (by rw [cells_int]; omega) (fun n cs y hl hy => by
    obtain ⟨x, f, _, hx⟩ := DataW.trod_int Tryz.underlying3 hy
    exact ⟨x, f, bounds_i64 hx⟩) hf
  simp only [Value.cells, List.cons.injEq, Value.slice.injEq, and_true] at hcs
  obtain ⟨rfl, rfl, rfl⟩ := hcs
  rw [cells_int] at hs
  refine ⟨a, cap, l, by rw [hl], by omega, by omega, fun n hn => ?_, hs.mono (Nat.le_refl _) (fun _ _ _ h => h.1)⟩
  obtain ⟨k, hk, rfl⟩ := List.getElem_of_mem hn
  obtain ⟨_, _, _, _, _, hr, _⟩ := hs k hk
  exact hr.2
end
end Go.Proofs.YtfloijkagfabpaaGreatDoor
/-
  How the arguments of the laws read: records, frames, outcomes.
-/
namespace Go.Proofs.YtfloijkagfabpaaGreatDoor
set_option linter.unusedSimpArgs false
set_option linter.unusedVariables false
set_option linter.unusedSectionVars false
open Go.ChangeShapes Go.WideShapes Go.ChangeAt Go.RowKit Go.Deep
open Go.ChangeMaps (open_string shut_string)

theorem cells_Raw : Tryz.prog.cellsOf 56 = 6 := by kernel_rfl
section
variable {H : Type} {enc : TypeId × Value → H} {W : World} {sp : Nat → Bool}
theorem int_cell {n : Nat} {c : Value} {y : DataW H × List MemPlace} (h : DataW.trod enc Tryz.prog W 0 sp true n 3 [c] = some y) : ∃ x : Int, c = .int .i64 x ∧ goodI x := by
  obtain ⟨x, f, _, hx⟩ := DataW.trod_int Tryz.underlying3 h
  simp only [List.cons.injEq, and_true] at f
  exact ⟨x, f, bounds_i64 hx⟩
theorem slice_cell {t e : TypeId} {n : Nat} {c : Value} {y : DataW H × List MemPlace} (ht : Tryz.prog.underlying t = some (.slice e)) (h : DataW.trod enc Tryz.prog W 0 sp true n t [c] = some y) : ∃ a len cap, c = .slice a len cap := by
  rcases open_slice ht h with ⟨h1, _⟩ | ⟨a, len, cap, m, n, D, Pl, h1, _⟩
  · simp only [List.cons.injEq, and_true] at h1
    exact ⟨_, _, _, h1⟩
  · simp only [List.cons.injEq, and_true] at h1
    exact ⟨_, _, _, h1⟩
theorem bytes_cell {n : Nat} {c : Value} {y : DataW H × List MemPlace} (h : DataW.trod enc Tryz.prog W 0 sp true n 54 [c] = some y) :
    ∃ (a : Option Addr) (cap : Nat) (l : List UInt8), c = .slice a l.length cap ∧ l.length ≤ maxLen ∧ SlB W W.heap.size a l := by
  obtain ⟨a', len', cap', l, hcs, hl, hc, hm, hs⟩ := slr_of_trod (R := byteIs) Tryz.underlying54 (by rw [cells_u8]; omega) (fun n cs y hl hy => by
    obtain ⟨x, f, _, hx⟩ := DataW.trod_int Tryz.underlying5 hy
    have hb := bounds_u8 hx
    refine ⟨UInt8.ofNat x.toNat, ?_⟩
    unfold byteIs
    rw [f]
    have : ((UInt8.ofNat x.toNat).toNat : Int) = x := by rw [UInt8.toNat_ofNat']; omega
    rw [this]) h
  simp only [List.cons.injEq, and_true] at hcs
  rw [cells_u8] at hs
  exact ⟨a', cap', l, by rw [hcs, hl], by omega, hs⟩
set_option maxRecDepth 100000 in
theorem open_raw {v : Value} {d : DataW H} {p : List MemPlace} {r : Reach} {base : Nat} (hv : Value.okWide Tryz.prog W r base 56 v) (h : DataW.Trod enc Tryz.prog W 0 sp true 56 v d p) :
    ∃ (x0 x1 x2 x3 : Int) (rs : Bool) (a : Option Addr) (cap : Nat) (l : List UInt8), v = .agg #[.int .i64 x0, .int .i64 x1, .int .i64 x2, .int .i64 x3, .bool rs, .slice a l.length cap] ∧ (goodI x0 ∧ goodI x1 ∧ goodI x2 ∧ goodI x3) ∧ l.length ≤ maxLen ∧ SlB W W.heap.size a l := by
  obtain ⟨cs, rfl, hsz⟩ := okWide_struct Tryz.underlying56 hv
  obtain ⟨fuel, hf⟩ := h
  have hl : cs.toList.length = 6 := by rw [← cells_Raw]; simpa [Value.cells] using hsz
  obtain ⟨m, hg⟩ := cells_struct [3, 3, 3, 3, 4, 54] Tryz.underlying56 (by kernel_rfl) rfl hf (by simpa [Value.cells] using hl)
  obtain ⟨c0, _, e0, g0⟩ := hg 0 _ rfl
  obtain ⟨c1, _, e1, g1⟩ := hg 1 _ rfl
  obtain ⟨c2, _, e2, g2⟩ := hg 2 _ rfl
  obtain ⟨c3, _, e3, g3⟩ := hg 3 _ rfl
  obtain ⟨c4, _, e4, g4⟩ := hg 4 _ rfl
  obtain ⟨c5, _, e5, g5⟩ := hg 5 _ rfl
  obtain ⟨x0, rfl, b0⟩ := int_cell g0
  obtain ⟨x1, rfl, b1⟩ := int_cell g1
  obtain ⟨x2, rfl, b2⟩ := int_cell g2
  obtain ⟨x3, rfl, b3⟩ := int_cell g3
  obtain ⟨rs, f4, _⟩ := DataW.trod_bool Tryz.underlying4 g4
  simp only [List.cons.injEq, and_true] at f4
  subst f4
  obtain ⟨a, cap, l, rfl, hm, hs⟩ := bytes_cell g5
  refine ⟨x0, x1, x2, x3, rs, a, cap, l, ?_, ⟨b0, b1, b2, b3⟩, hm, hs⟩
  obtain ⟨L⟩ := cs
  simp only [Value.cells] at e0 e1 e2 e3 e4 e5 hl
  match L, hl with
  | [_, _, _, _, _, _], _ =>
    simp at e0 e1 e2 e3 e4 e5
    subst e0 e1 e2 e3 e4 e5
    rfl
end
end Go.Proofs.YtfloijkagfabpaaGreatDoor
/-
  A raw frame handed in, with its capacity.
-/
namespace Go.Proofs.YtfloijkagfabpaaGreatDoor
set_option linter.unusedSimpArgs false
set_option linter.unusedVariables false
set_option linter.unusedSectionVars false
open Go.ChangeShapes Go.WideShapes Go.ChangeAt Go.RowKit Go.Deep
section
variable {H : Type} {enc : TypeId × Value → H} {W : World} {sp : Nat → Bool}
theorem bytes_cellc {n : Nat} {c : Value} {y : DataW H × List MemPlace} (h : DataW.trod enc Tryz.prog W 0 sp true n 54 [c] = some y) :
    ∃ (a : Option Addr) (cap : Nat) (l : List UInt8), c = .slice a l.length cap ∧ l.length ≤ cap ∧ l.length ≤ maxLen ∧ SlB W W.heap.size a l := by
  obtain ⟨a', len', cap', l, hcs, hl, hc, hm, hs⟩ := slr_of_trod (R := byteIs) Tryz.underlying54 (by rw [cells_u8]; omega) (fun n cs y hl hy => by
    obtain ⟨x, f, _, hx⟩ := DataW.trod_int Tryz.underlying5 hy
    have hb := bounds_u8 hx
    refine ⟨UInt8.ofNat x.toNat, ?_⟩
    unfold byteIs
    rw [f]
    have : ((UInt8.ofNat x.toNat).toNat : Int) = x := by rw [UInt8.toNat_ofNat']; omega
    rw [this]) h
  simp only [List.cons.injEq, and_true] at hcs
  rw [cells_u8] at hs
  exact ⟨a', cap', l, by rw [hcs, hl], by omega, by omega, hs⟩
set_option maxRecDepth 100000 in
theorem open_rawc {v : Value} {d : DataW H} {p : List MemPlace} {r : Reach} {base : Nat} (hv : Value.okWide Tryz.prog W r base 56 v) (h : DataW.Trod enc Tryz.prog W 0 sp true 56 v d p) :
    ∃ (x0 x1 x2 x3 : Int) (rs : Bool) (a : Option Addr) (cap : Nat) (l : List UInt8), v = .agg #[.int .i64 x0, .int .i64 x1, .int .i64 x2, .int .i64 x3, .bool rs, .slice a l.length cap] ∧ (goodI x0 ∧ goodI x1 ∧ goodI x2 ∧ goodI x3) ∧ l.length ≤ cap ∧ l.length ≤ maxLen ∧ SlB W W.heap.size a l := by
  obtain ⟨cs, rfl, hsz⟩ := okWide_struct Tryz.underlying56 hv
  obtain ⟨fuel, hf⟩ := h
  have hl : cs.toList.length = 6 := by rw [← cells_Raw]; simpa [Value.cells] using hsz
  obtain ⟨m, hg⟩ := cells_struct [3, 3, 3, 3, 4, 54] Tryz.underlying56 (by kernel_rfl) rfl hf (by simpa [Value.cells] using hl)
  obtain ⟨c0, _, e0, g0⟩ := hg 0 _ rfl
  obtain ⟨c1, _, e1, g1⟩ := hg 1 _ rfl
  obtain ⟨c2, _, e2, g2⟩ := hg 2 _ rfl
  obtain ⟨c3, _, e3, g3⟩ := hg 3 _ rfl
  obtain ⟨c4, _, e4, g4⟩ := hg 4 _ rfl
  obtain ⟨c5, _, e5, g5⟩ := hg 5 _ rfl
  obtain ⟨x0, rfl, b0⟩ := int_cell g0
  obtain ⟨x1, rfl, b1⟩ := int_cell g1
  obtain ⟨x2, rfl, b2⟩ := int_cell g2
  obtain ⟨x3, rfl, b3⟩ := int_cell g3
  obtain ⟨rs, f4, _⟩ := DataW.trod_bool Tryz.underlying4 g4
  simp only [List.cons.injEq, and_true] at f4
  subst f4
  obtain ⟨a, cap, l, rfl, hc, hm, hs⟩ := bytes_cellc g5
  refine ⟨x0, x1, x2, x3, rs, a, cap, l, ?_, ⟨b0, b1, b2, b3⟩, hc, hm, hs⟩
  obtain ⟨L⟩ := cs
  simp only [Value.cells] at e0 e1 e2 e3 e4 e5 hl
  match L, hl with
  | [_, _, _, _, _, _], _ =>
    simp at e0 e1 e2 e3 e4 e5
    subst e0 e1 e2 e3 e4 e5
    rfl
end
end Go.Proofs.YtfloijkagfabpaaGreatDoor
/-
  An event handed in: a raw frame, a number, a mark.
-/
namespace Go.Proofs.YtfloijkagfabpaaGreatDoor
set_option linter.unusedSimpArgs false
set_option linter.unusedVariables false
set_option linter.unusedSectionVars false
open Go.ChangeShapes Go.WideShapes Go.ChangeAt Go.RowKit Go.Deep
section
variable {H : Type} {enc : TypeId × Value → H} {W : World} {sp : Nat → Bool}
set_option maxRecDepth 100000 in
theorem raw_cells {n : Nat} {cs : List Value} {y : DataW H × List MemPlace} (h : DataW.trod enc Tryz.prog W 0 sp true n 56 cs = some y) (hl : cs.length = 6) :
    ∃ (x0 x1 x2 x3 : Int) (rs : Bool) (a : Option Addr) (cap : Nat) (l : List UInt8), cs = [.int .i64 x0, .int .i64 x1, .int .i64 x2, .int .i64 x3, .bool rs, .slice a l.length cap] ∧ (goodI x0 ∧ goodI x1 ∧ goodI x2 ∧ goodI x3) ∧ l.length ≤ cap ∧ l.length ≤ maxLen ∧ SlB W W.heap.size a l := by
  obtain ⟨m, hg⟩ := cells_struct [3, 3, 3, 3, 4, 54] Tryz.underlying56 (by kernel_rfl) rfl h (by simpa using hl)
  obtain ⟨c0, _, e0, g0⟩ := hg 0 _ rfl
  obtain ⟨c1, _, e1, g1⟩ := hg 1 _ rfl
  obtain ⟨c2, _, e2, g2⟩ := hg 2 _ rfl
  obtain ⟨c3, _, e3, g3⟩ := hg 3 _ rfl
  obtain ⟨c4, _, e4, g4⟩ := hg 4 _ rfl
  obtain ⟨c5, _, e5, g5⟩ := hg 5 _ rfl
  obtain ⟨x0, rfl, b0⟩ := int_cell g0
  obtain ⟨x1, rfl, b1⟩ := int_cell g1
  obtain ⟨x2, rfl, b2⟩ := int_cell g2
  obtain ⟨x3, rfl, b3⟩ := int_cell g3
  obtain ⟨rs, f4, _⟩ := DataW.trod_bool Tryz.underlying4 g4
  simp only [List.cons.injEq, and_true] at f4
  subst f4
  obtain ⟨a, cap, l, rfl, hc, hm, hs⟩ := bytes_cellc g5
  refine ⟨x0, x1, x2, x3, rs, a, cap, l, ?_, ⟨b0, b1, b2, b3⟩, hc, hm, hs⟩
  match cs, hl with
  | [_, _, _, _, _, _], _ =>
    simp at e0 e1 e2 e3 e4 e5
    subst e0 e1 e2 e3 e4 e5
    rfl
theorem field_atE {P : Program} {t : TypeId} {fs : Array Field} {n : Nat} {cs : List Value} {x : DataW H × List MemPlace} (ht : P.underlying t = some (.struct fs)) (h : DataW.trod enc P W 0 sp true n t cs = some x) (i : Nat) {f : Field} (hf : fs[i]? = some f) :
    ∃ m y, DataW.trod enc P W 0 sp true m f.type ((cs.drop f.offset).take (P.cellsOf f.type)) = some y := by
  obtain ⟨xs, m, _, _, _, hl, hx⟩ := DataW.trod_struct ht h
  have h1 := hx i f hf
  have hi : i < fs.size := (Array.getElem?_eq_some_iff.1 hf).1
  rw [List.getElem?_eq_getElem (by omega)] at h1
  exact ⟨m, _, h1⟩
set_option maxRecDepth 100000 in
theorem event_cells {n : Nat} {cs : List Value} {y : DataW H × List MemPlace} (h : DataW.trod enc Tryz.prog W 0 sp true n 58 cs = some y) (hl : cs.length = 8) :
    ∃ (x0 x1 x2 x3 : Int) (rs : Bool) (a : Option Addr) (cap : Nat) (l : List UInt8) (wh : Int) (kp : Bool), cs = [.int .i64 x0, .int .i64 x1, .int .i64 x2, .int .i64 x3, .bool rs, .slice a l.length cap, .int .u8 wh, .bool kp] ∧ (goodI x0 ∧ goodI x1 ∧ goodI x2 ∧ goodI x3) ∧ l.length ≤ cap ∧ l.length ≤ maxLen ∧ SlB W W.heap.size a l ∧ (0 ≤ wh ∧ wh ≤ 255) := by
  obtain ⟨m0, y0, h0⟩ := field_atE Tryz.underlying58 h 0 rfl
  obtain ⟨m1, y1, h1⟩ := field_atE Tryz.underlying58 h 1 rfl
  obtain ⟨m2, y2, h2⟩ := field_atE Tryz.underlying58 h 2 rfl
  simp only [List.getElem_toArray, List.getElem_cons_zero, List.getElem_cons_succ] at h0 h1 h2
  rw [show Tryz.prog.cellsOf 56 = 6 by kernel_rfl] at h0
  rw [cells_u8] at h1
  rw [show Tryz.prog.cellsOf 4 = 1 by kernel_rfl] at h2
  obtain ⟨x0, x1, x2, x3, rs, a, cap, l, e0, hg, hc, hm, hs⟩ := raw_cells h0 (by simp; omega)
  obtain ⟨wh, e1, _, hx⟩ := DataW.trod_int Tryz.underlying5 h1
  obtain ⟨kp, e2, _⟩ := DataW.trod_bool Tryz.underlying4 h2
  refine ⟨x0, x1, x2, x3, rs, a, cap, l, wh, kp, ?_, hg, hc, hm, hs, bounds_u8 hx⟩
  match cs, hl with
  | [_, _, _, _, _, _, _, _], _ =>
    simp at e0 e1 e2
    obtain ⟨q0, q1, q2, q3, q4, q5⟩ := e0
    subst q0 q1 q2 q3 q4 q5 e1 e2
    rfl
set_option maxRecDepth 100000 in
theorem open_event {v : Value} {d : DataW H} {p : List MemPlace} {r : Reach} {base : Nat} (hv : Value.okWide Tryz.prog W r base 58 v) (h : DataW.Trod enc Tryz.prog W 0 sp true 58 v d p) :
    ∃ (x0 x1 x2 x3 : Int) (rs : Bool) (a : Option Addr) (cap : Nat) (l : List UInt8) (wh : Int) (kp : Bool), v = .agg #[.int .i64 x0, .int .i64 x1, .int .i64 x2, .int .i64 x3, .bool rs, .slice a l.length cap, .int .u8 wh, .bool kp] := by
  obtain ⟨cs, rfl, hsz⟩ := okWide_struct Tryz.underlying58 hv
  obtain ⟨fuel, hf⟩ := h
  have hcell : Tryz.prog.cellsOf 58 = 8 := by kernel_rfl
  have hl : cs.toList.length = 8 := by rw [← hcell]; simpa [Value.cells] using hsz
  obtain ⟨x0, x1, x2, x3, rs, a, cap, l, wh, kp, e, _⟩ := event_cells hf hl
  exact ⟨x0, x1, x2, x3, rs, a, cap, l, wh, kp, by
    obtain ⟨L⟩ := cs
    have e2 : L = _ := e
    rw [e2]⟩
end
end Go.Proofs.YtfloijkagfabpaaGreatDoor
