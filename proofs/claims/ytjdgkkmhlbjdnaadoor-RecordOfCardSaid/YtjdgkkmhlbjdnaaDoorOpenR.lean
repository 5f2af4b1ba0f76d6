/-
  How the arguments of the laws read: records, frames, outcomes.
-/
import Derived.Test.YtjdgkkmhlbjdnaaDoorOpenI
namespace Go.Proofs.YtjdgkkmhlbjdnaaDoor
set_option linter.unusedSimpArgs false
set_option linter.unusedVariables false
set_option linter.unusedSectionVars false
open Go.ChangeShapes Go.WideShapes Go.ChangeAt Go.RowKit Go.Deep
open Go.ChangeMaps (open_string shut_string)

theorem cells_Rec : Tryd.prog.cellsOf 32 = 6 := by kernel_rfl
theorem cells_Raw : Tryd.prog.cellsOf 24 = 6 := by kernel_rfl
theorem cells_Outcome : Tryd.prog.cellsOf 29 = 4 := by kernel_rfl
section
variable {H : Type} {enc : TypeId × Value → H} {W : World} {sp : Nat → Bool}
theorem int_cell {n : Nat} {c : Value} {y : DataW H × List MemPlace} (h : DataW.trod enc Tryd.prog W 0 sp true n 3 [c] = some y) : ∃ x : Int, c = .int .i64 x ∧ goodI x := by
  obtain ⟨x, f, _, hx⟩ := DataW.trod_int Tryd.underlying3 h
  simp only [List.cons.injEq, and_true] at f
  exact ⟨x, f, bounds_i64 hx⟩
theorem slice_cell {t e : TypeId} {n : Nat} {c : Value} {y : DataW H × List MemPlace} (ht : Tryd.prog.underlying t = some (.slice e)) (h : DataW.trod enc Tryd.prog W 0 sp true n t [c] = some y) : ∃ a len cap, c = .slice a len cap := by
  rcases open_slice ht h with ⟨h1, _⟩ | ⟨a, len, cap, m, n, D, Pl, h1, _⟩
  · simp only [List.cons.injEq, and_true] at h1
    exact ⟨_, _, _, h1⟩
  · simp only [List.cons.injEq, and_true] at h1
    exact ⟨_, _, _, h1⟩
theorem bytes_cell {n : Nat} {c : Value} {y : DataW H × List MemPlace} (h : DataW.trod enc Tryd.prog W 0 sp true n 22 [c] = some y) :
    ∃ (a : Option Addr) (cap : Nat) (l : List UInt8), c = .slice a l.length cap ∧ l.length ≤ maxLen ∧ SlB W W.heap.size a l := by
  obtain ⟨a', len', cap', l, hcs, hl, hc, hm, hs⟩ := slr_of_trod (R := byteIs) Tryd.underlying22 (by rw [cells_u8]; omega) (fun n cs y hl hy => by
    obtain ⟨x, f, _, hx⟩ := DataW.trod_int Tryd.underlying5 hy
    have hb := bounds_u8 hx
    refine ⟨UInt8.ofNat x.toNat, ?_⟩
    unfold byteIs
    rw [f]
    have : ((UInt8.ofNat x.toNat).toNat : Int) = x := by rw [UInt8.toNat_ofNat']; omega
    rw [this]) h
  simp only [List.cons.injEq, and_true] at hcs
  rw [cells_u8] at hs
  exact ⟨a', cap', l, by rw [hcs, hl], by omega, hs⟩
set_option maxRecDepth 100000 in
theorem open_rec {v : Value} {d : DataW H} {p : List MemPlace} {r : Reach} {base : Nat} (hv : Value.okWide Tryd.prog W r base 32 v) (h : DataW.Trod enc Tryd.prog W 0 sp true 32 v d p) :
    ∃ a b c e f g : Int, v = .agg #[.int .i64 a, .int .i64 b, .int .i64 c, .int .i64 e, .int .i64 f, .int .i64 g] ∧ (goodI a ∧ goodI b ∧ goodI c ∧ goodI e ∧ goodI f ∧ goodI g) := by
  obtain ⟨cs, rfl, hsz⟩ := okWide_struct Tryd.underlying32 hv
  obtain ⟨fuel, hf⟩ := h
  have hl : cs.toList.length = 6 := by rw [← cells_Rec]; simpa [Value.cells] using hsz
  obtain ⟨m, hg⟩ := cells_struct [3, 3, 3, 3, 3, 3] Tryd.underlying32 (by kernel_rfl) rfl hf (by simpa [Value.cells] using hl)
  obtain ⟨c0, _, e0, g0⟩ := hg 0 _ rfl
  obtain ⟨c1, _, e1, g1⟩ := hg 1 _ rfl
  obtain ⟨c2, _, e2, g2⟩ := hg 2 _ rfl
  obtain ⟨c3, _, e3, g3⟩ := hg 3 _ rfl
  obtain ⟨c4, _, e4, g4⟩ := hg 4 _ rfl
  obtain ⟨c5, _, e5, g5⟩ := hg 5 _ rfl
  obtain ⟨x0, rfl, b0⟩ := int_cell g0
  obtain ⟨x1, rfl, b1⟩ := int_cell g1
  obtain ⟨x2, rfl, b2⟩ := int_cell g2
  obtain ⟨x3, rfl, b3⟩ := int_cell g3
  obtain ⟨x4, rfl, b4⟩ := int_cell g4
  obtain ⟨x5, rfl, b5⟩ := int_cell g5
  refine ⟨x0, x1, x2, x3, x4, x5, ?_, b0, b1, b2, b3, b4, b5⟩
  obtain ⟨L⟩ := cs
  simp only [Value.cells] at e0 e1 e2 e3 e4 e5 hl
  match L, hl with
  | [_, _, _, _, _, _], _ =>
    simp at e0 e1 e2 e3 e4 e5
    subst e0 e1 e2 e3 e4 e5
    rfl
set_option maxRecDepth 100000 in
theorem open_raw {v : Value} {d : DataW H} {p : List MemPlace} {r : Reach} {base : Nat} (hv : Value.okWide Tryd.prog W r base 24 v) (h : DataW.Trod enc Tryd.prog W 0 sp true 24 v d p) :
    ∃ (x0 x1 x2 x3 : Int) (rs : Bool) (a : Option Addr) (cap : Nat) (l : List UInt8), v = .agg #[.int .i64 x0, .int .i64 x1, .int .i64 x2, .int .i64 x3, .bool rs, .slice a l.length cap] ∧ (goodI x0 ∧ goodI x1 ∧ goodI x2 ∧ goodI x3) ∧ l.length ≤ maxLen ∧ SlB W W.heap.size a l := by
  obtain ⟨cs, rfl, hsz⟩ := okWide_struct Tryd.underlying24 hv
  obtain ⟨fuel, hf⟩ := h
  have hl : cs.toList.length = 6 := by rw [← cells_Raw]; simpa [Value.cells] using hsz
  obtain ⟨m, hg⟩ := cells_struct [3, 3, 3, 3, 4, 22] Tryd.underlying24 (by kernel_rfl) rfl hf (by simpa [Value.cells] using hl)
  obtain ⟨c0, _, e0, g0⟩ := hg 0 _ rfl
  obtain ⟨c1, _, e1, g1⟩ := hg 1 _ rfl
  obtain ⟨c2, _, e2, g2⟩ := hg 2 _ rfl
  obtain ⟨c3, _, e3, g3⟩ := hg 3 _ rfl
  obtain ⟨c4, _, e4, g4⟩ := hg 4 _ rfl
  obtain ⟨c5, _, e5, g5⟩ := hg 5 _ rfl
  obtain ⟨x0, rfl, b0⟩ := int_cell g0
  obtain ⟨x1, rfl, b1⟩ := int_cell g1
  obtain ⟨x2, rfl, b2⟩ := int_cell g2
  obtain ⟨x3, rfl, b3⟩ := int_cell g3
  obtain ⟨rs, f4, _⟩ := DataW.trod_bool Tryd.underlying4 g4
  simp only [List.cons.injEq, and_true] at f4
  subst f4
  obtain ⟨a, cap, l, rfl, hm, hs⟩ := bytes_cell g5
  refine ⟨x0, x1, x2, x3, rs, a, cap, l, ?_, ⟨b0, b1, b2, b3⟩, hm, hs⟩
  obtain ⟨L⟩ := cs
  simp only [Value.cells] at e0 e1 e2 e3 e4 e5 hl
  match L, hl with
  | [_, _, _, _, _, _], _ =>
    simp at e0 e1 e2 e3 e4 e5
    subst e0 e1 e2 e3 e4 e5
    rfl
set_option maxRecDepth 100000 in
theorem open_outcome {v : Value} {d : DataW H} {p : List MemPlace} {r : Reach} {base : Nat} (hv : Value.okWide Tryd.prog W r base 29 v) (h : DataW.Trod enc Tryd.prog W 0 sp true 29 v d p) :
    ∃ (x0 : Int) (a1 : Option Addr) (n1 k1 : Nat) (a2 : Option Addr) (n2 k2 : Nat) (a3 : Option Addr) (n3 k3 : Nat), v = .agg #[.int .i64 x0, .slice a1 n1 k1, .slice a2 n2 k2, .slice a3 n3 k3] ∧ goodI x0 := by
  obtain ⟨cs, rfl, hsz⟩ := okWide_struct Tryd.underlying29 hv
  obtain ⟨fuel, hf⟩ := h
  have hl : cs.toList.length = 4 := by rw [← cells_Outcome]; simpa [Value.cells] using hsz
  obtain ⟨m, hg⟩ := cells_struct [3, 25, 26, 27] Tryd.underlying29 (by kernel_rfl) rfl hf (by simpa [Value.cells] using hl)
  obtain ⟨c0, _, e0, g0⟩ := hg 0 _ rfl
  obtain ⟨c1, _, e1, g1⟩ := hg 1 _ rfl
  obtain ⟨c2, _, e2, g2⟩ := hg 2 _ rfl
  obtain ⟨c3, _, e3, g3⟩ := hg 3 _ rfl
  obtain ⟨x0, rfl, b0⟩ := int_cell g0
  obtain ⟨a1, n1, k1, rfl⟩ := slice_cell Tryd.underlying25 g1
  obtain ⟨a2, n2, k2, rfl⟩ := slice_cell Tryd.underlying26 g2
  obtain ⟨a3, n3, k3, rfl⟩ := slice_cell Tryd.underlying27 g3
  refine ⟨x0, a1, n1, k1, a2, n2, k2, a3, n3, k3, ?_, b0⟩
  obtain ⟨L⟩ := cs
  simp only [Value.cells] at e0 e1 e2 e3 hl
  match L, hl with
  | [_, _, _, _], _ =>
    simp at e0 e1 e2 e3
    subst e0 e1 e2 e3
    rfl
end
end Go.Proofs.YtjdgkkmhlbjdnaaDoor
