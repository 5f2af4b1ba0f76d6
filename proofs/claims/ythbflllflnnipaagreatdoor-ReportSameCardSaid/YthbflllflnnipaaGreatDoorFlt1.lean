/-
  Faults: how they lie in memory; compared; small functions.
-/
import Derived.Test.YthbflllflnnipaaGreatDoorMa
import Derived.Shelf.SlSortCmp.WholeK
import Derived.Lib.SlicesCompact
import Derived.Laws.StructEq
import Derived.Laws.IdiomCopy
namespace Go.Proofs.YthbflllflnnipaaGreatDoor
set_option linter.unusedSimpArgs false
set_option linter.unusedVariables false
set_option linter.unusedSectionVars false
open Go.ChangeShapes Go.WideShapes Go.ChangeAt Go.RowKit Go.Deep Go.Shelf

instance : Inhabited Fl := ⟨⟨0, 0⟩⟩
abbrev FlT : TypeId := 88
theorem fl_fields : Tryz.prog.underlying FlT = some (.struct (Tryz.prog.fieldsOf FlT)) := by kernel_rfl
theorem fl_plain : Tryz.prog.stoodInHeld FlT = false := by kernel_rfl
def flEq (a b : Fl) : Bool := decide (a = b)
set_option maxRecDepth 100000 in
theorem fl_eql (x y : Fl) (w : World) : (binOp .eql FlT (.agg #[.int .i64 x.scope, .int .i64 x.code]) (.agg #[.int .i64 y.scope, .int .i64 y.code])).run Tryz.prog w = .ok (.bool (flEq x y)) w := by
  obtain ⟨a, b⟩ := x
  obtain ⟨c, d⟩ := y
  have u3 := Tryz.underlying3
  have ag := Tryz.isAgg3
  have z3 := Tryz.sizeOf3
  rw [run_eql_struct, show (10000 : Nat) = 9999 + 1 from rfl, run_equalIn_agg w 9999 FlT _ _ fl_fields fl_plain]
  simp only [Program.fieldsOf, Tryz.underlying88]
  go_simp
  unfold flEq
  repeat' split
  all_goals simp_all
set_option maxRecDepth 100000 in
theorem fl_neq (x y : Fl) (w : World) : (binOp .neq FlT (.agg #[.int .i64 x.scope, .int .i64 x.code]) (.agg #[.int .i64 y.scope, .int .i64 y.code])).run Tryz.prog w = .ok (.bool (!flEq x y)) w := by
  obtain ⟨a, b⟩ := x
  obtain ⟨c, d⟩ := y
  have u3 := Tryz.underlying3
  have ag := Tryz.isAgg3
  have z3 := Tryz.sizeOf3
  rw [run_neq_struct, show (10000 : Nat) = 9999 + 1 from rfl, run_equalIn_agg w 9999 FlT _ _ fl_fields fl_plain]
  simp only [Program.fieldsOf, Tryz.underlying88]
  go_simp
  unfold flEq
  repeat' split
  all_goals simp_all

/-! A row of faults in a block. -/
def RowFl (w : World) (g : Nat) (d : Array Fl) : Prop := ∀ i, i < d.size → w.cell? ⟨g, i * 2, none⟩ = some (.int .i64 d[i]!.scope) ∧ w.cell? ⟨g, i * 2 + 1, none⟩ = some (.int .i64 d[i]!.code) ∧ w.frozen? ⟨g, i * 2, none⟩ = false ∧ w.frozen? ⟨g, i * 2 + 1, none⟩ = false
theorem rowFl_holds {w : World} {g : Nat} {d : Array Fl} (h : RowFl w g d) : Go.Sort.HoldsK Fl.cells 2 w g 0 d := by
  intro t ht
  rw [Go.Sort.size_flatK] at ht
  rw [Go.Sort.get_flatK _ _ _ _ ht]
  obtain ⟨h1, h2, h3, h4⟩ := h (t / 2) (by omega)
  rcases Nat.mod_two_eq_zero_or_one t with e | e
  · have e2 : 0 + t = t / 2 * 2 := by omega
    rw [e, e2]
    exact ⟨h1, h3⟩
  · have e2 : 0 + t = t / 2 * 2 + 1 := by omega
    rw [e, e2]
    exact ⟨h2, h4⟩
theorem holds_rowFl {w : World} {g : Nat} {d : Array Fl} (h : Go.Sort.HoldsK Fl.cells 2 w g 0 d) : RowFl w g d := by
  intro i hi
  have h0 := h.cell hi (show 0 < 2 by omega)
  have h1 := h.cell hi (show 1 < 2 by omega)
  rw [Nat.zero_add, Nat.add_zero] at h0
  rw [Nat.zero_add] at h1
  exact ⟨h0.1, h1.1, h0.2, h1.2⟩
theorem RowFl.drew {w : World} {g : Nat} {d : Array Fl} (h : RowFl w g d) : RowFl w.drew g d := h
theorem RowFl.drewN {w : World} {g : Nat} {d : Array Fl} (h : RowFl w g d) (n : Nat) : RowFl (w.drewN n) g d := h
theorem RowFl.below {w w' : World} {g : Nat} {d : Array Fl} (h : RowFl w g d) (hb : Below w.heap.size w w') (hg : g < w.heap.size) : RowFl w' g d := fun i hi => by
  obtain ⟨h1, h2, h3, h4⟩ := h i hi
  exact ⟨(hb.cell (p := ⟨g, _, none⟩) hg).trans h1, (hb.cell (p := ⟨g, _, none⟩) hg).trans h2, (hb.frozen (p := ⟨g, _, none⟩) hg).trans h3, (hb.frozen (p := ⟨g, _, none⟩) hg).trans h4⟩
theorem RowFl.set {w : World} {g : Nat} {d : Array Fl} (h : RowFl w g d) {k : Nat} (hk : k < d.size) (u : Fl) : RowFl ((w.setCell ⟨g, k * 2, none⟩ (.int .i64 u.scope)).setCell ⟨g, k * 2 + 1, none⟩ (.int .i64 u.code)) g (d.setIfInBounds k u) := by
  intro i hi
  have hi' : i < d.size := by simpa using hi
  obtain ⟨h1, h2, h3, h4⟩ := h i hi'
  by_cases e : i = k
  · subst e
    rw [Go.Sort.getElem!_set_same d i u hi']
    refine ⟨?_, ?_, by simpa using h3, by simpa using h4⟩
    · rw [World.cell?_setCell_other _ _ _ _ (by simp)]
      exact World.cell?_setCell_same _ _ _ h1
    · refine World.cell?_setCell_same _ _ _ (u := .int .i64 d[i]!.code) ?_
      rw [World.cell?_setCell_other _ _ _ _ (by simp)]
      exact h2
  · rw [Go.Sort.getElem!_set_other d k i u e]
    refine ⟨?_, ?_, by simpa using h3, by simpa using h4⟩
    · rw [World.cell?_setCell_other _ _ _ _ (by simp <;> omega), World.cell?_setCell_other _ _ _ _ (by simp <;> omega)]
      exact h1
    · rw [World.cell?_setCell_other _ _ _ _ (by simp <;> omega), World.cell?_setCell_other _ _ _ _ (by simp <;> omega)]
      exact h2
theorem RowFl.clear {w : World} {g : Nat} {d : Array Fl} (h : RowFl w g d) {k : Nat} (vs : List Value) : RowFl (w.setCells g (k * 2) vs) g (d.extract 0 k) := by
  intro i hi
  have hi' : i < d.size ∧ i < k := by simp at hi; omega
  obtain ⟨h1, h2, h3, h4⟩ := h i hi'.1
  have e : (d.extract 0 k)[i]! = d[i]! := by
    rw [getElem!_pos _ i hi, getElem!_pos d i hi'.1]; simp
  rw [e]
  refine ⟨?_, ?_, ?_, ?_⟩
  · rw [World.cell?_setCells_out _ _ _ _ _ (fun _ _ => .inl (by show i * 2 < k * 2; omega))]; exact h1
  · rw [World.cell?_setCells_out _ _ _ _ _ (fun _ _ => .inl (by show i * 2 + 1 < k * 2; omega))]; exact h2
  · rw [World.frozen?_setCells]; exact h3
  · rw [World.frozen?_setCells]; exact h4
theorem below_setCells (B g : Nat) : ∀ (vs : List Value) (o : Nat) (w0 w : World), Below B w0 w → B ≤ g → Below B w0 (w.setCells g o vs)
  | [], _, _, _, h, _ => h
  | v :: r, o, w0, w, h, hg => below_setCells B g r (o + 1) w0 _ (h.setCell (p := ⟨g, o, none⟩) hg v) hg
def flC (f : Fl) : List Value := f.cells
theorem run_clear_fl (w : World) (ty : TypeId) (g k n c : Nat) (hn : 0 < n) (hc : ∀ j, j < n * 2 → (w.cell? ⟨g, k * 2 + j, none⟩).isSome = true) (hf : ∀ j, j < n * 2 → w.frozen? ⟨g, k * 2 + j, none⟩ = false) :
    (Builtin.clear_ #[25] ty #[.slice (some ⟨g, k * 2, none⟩) n c]).run Tryz.prog w = .ok (.tuple #[]) (w.setCells g (k * 2) (List.replicate (n * 2) (.int .i64 0))) := by
  have hz : ∀ w, (zeroValue FlT).run Tryz.prog w = .ok (.agg #[.int .i64 0, .int .i64 0]) w := fun w => by kernel_rfl
  have hzc : (Builtin.zeroCells (Value.agg #[.int .i64 0, .int .i64 0]).cells n).toList = List.replicate (n * 2) (.int .i64 0) := by
    apply List.ext_getElem
    · simp [Builtin.zeroCells, Value.cells]
    · intro i h1 h2
      simp [Builtin.zeroCells, Value.cells]
      rcases Nat.mod_two_eq_zero_or_one i with e | e <;> rw [e] <;> rfl
  have hst := run_storeCells_cells (P := Tryz.prog) g (k * 2) (List.replicate (n * 2) (.int .i64 0)) 0 w (by simpa using hc) (by simpa using hf) (by intro v hv'; rw [List.eq_of_mem_replicate hv']; rfl)
  simp only [Nat.add_zero] at hst
  obtain ⟨m, rfl⟩ : ∃ m, n = m + 1 := ⟨n - 1, by omega⟩
  simp [Builtin.clear_, run_underlying Tryz.underlying25, hz, hzc, hst]
end Go.Proofs.YthbflllflnnipaaGreatDoor
