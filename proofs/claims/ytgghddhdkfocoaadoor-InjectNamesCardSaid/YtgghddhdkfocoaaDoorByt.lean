/-
  Bytes of a call's own: appended to, read, turned into a text.
-/
import Derived.Test.YtgghddhdkfocoaaDoorBase
import Derived.Test.YtgghddhdkfocoaaDoorMore
import Derived.Test.YtgghddhdkfocoaaDoorShelf
import Derived.Test.YtgghddhdkfocoaaDoorApp2
import Derived.Lib.SlBytesRow
import Derived.Lib.BufferRead
namespace Go.Proofs.YtgghddhdkfocoaaDoor
set_option linter.unusedSimpArgs false
set_option linter.unusedVariables false
set_option linter.unusedSectionVars false
open Go.ChangeShapes Go.WideShapes Go.ChangeAt Go.RowKit Go.Deep

theorem byteCells_snoc (l : List UInt8) (c : UInt8) : Lib.byteCells (l ++ [c]) = Lib.byteCells l ++ [.int .u8 (c.toNat : Int)] := by
  rw [Lib.byteCells, Lib.byteCells, List.map_append]; rfl
theorem byteCells_len (l : List UInt8) : (Lib.byteCells l).length = l.length := by simp [Lib.byteCells]
theorem st_bytes : SliceTy Tryd.prog 35 5 (.int .u8 0) 1 1 := .mk' Tryd.underlying35 (by kernel_rfl) rfl (by omega)
def OwnB (B : Nat) (w : World) (v : Value) (l : List UInt8) : Prop := w.ownsRow B 5 1 v l.length (Lib.byteCells l)
theorem OwnB.nil (B : Nat) (w : World) : OwnB B w (.slice none 0 0) [] := World.ownsRow_nil _ _ _ _
theorem OwnB.alloc {B : Nat} {w : World} {v : Value} {l : List UInt8} (h : OwnB B w v l) (o : Obj) : OwnB B (w.alloc o) v l := World.ownsRow.alloc h o
theorem OwnB.below {B C : Nat} {w w' : World} {v : Value} {l : List UInt8} (h : OwnB B w v l) (hb : Below C w w') (hC : w.heap.size ≤ C) : OwnB B w' v l := own_below h hb hC
theorem OwnB.more {B : Nat} {w : World} {v : Value} {l : List UInt8} (h : OwnB B w v l) (j : Junk) : OwnB B (w.more j) v l := h.below (C := w.heap.size) (Below.moreS (Below.refl _ _) j) (Nat.le_refl _)
theorem app_byte {ops : Array Oper} {rest : List Oper} {o : Oper} {a : Act} {Q : Exit → Act → World → Prop} {w : World}
    (s x : Operand) (hgd : o.guard = none) (ho : o.op = .call { callee := .builtin .append, args := #[s, x], argTypes := #[35, 35] })
    {B : Nat} {v : Value} {l : List UInt8} {c : UInt8} (hs : a.eval s = v) (hown : OwnB B w v l)
    {g cc : Nat} {e' : TypeId} (hx : a.eval x = .slice (some ⟨g, 0, none⟩) 1 cc) (hb : Blk w g e' #[.int .u8 (c.toNat : Int)])
    (hl : l.length + 1 ≤ 140737488355328) (hB : B ≤ w.heap.size)
    (h : ∀ v' w', OwnB B w' v' (l ++ [c]) → Below B w w' → wpList Tryd.prog ops Q rest (a.put o.dst v') w') : wpList Tryd.prog ops Q (o :: rest) a w := by
  refine wpList_app st_bytes s x hgd ho hs hown hx hb rfl (by intro u hu; simp at hu; subst hu; rfl) (by unfold maxLen; omega) (by omega) hB (fun v' w' h1 h2 => h v' w' ?_ (own_grown (Below.refl B w) hown h2 (Nat.le_refl _) hB))
  unfold OwnB
  rw [byteCells_snoc, List.length_append]
  exact h1
theorem OwnB.bytes {B : Nat} {w : World} {v : Value} {l : List UInt8} (h : OwnB B w v l) : (v = .slice none 0 0 ∧ l = []) ∨ ∃ g cap, v = .slice (some ⟨g, 0, none⟩) l.length cap ∧ B ≤ g ∧ g < w.heap.size ∧ Lib.Bytes w g 0 ⟨l.toArray⟩ := by
  rcases h.2 with ⟨rfl, hn⟩ | ⟨g, cap, cur, rfl, hg, hh, h3, h4, h5, h6⟩
  · exact .inl ⟨rfl, List.eq_nil_of_length_eq_zero hn⟩
  · refine .inr ⟨g, cap, rfl, hg, (World.ownsRow.lt h g rfl).2, fun i hi => ?_⟩
    have hi' : i < l.length := hi
    have := World.ownsRow.cells h (g := g) rfl i (.int .u8 (l[i].toNat : Int)) (by simp [Lib.byteCells, hi'])
    have e1 : (⟨g, 0, none⟩ : Addr).add i = ⟨g, 0 + i, none⟩ := by unfold Addr.add; by_cases hj : i = 0 <;> simp [hj]
    rw [e1] at this
    exact this
theorem OwnB.text {B : Nat} {w : World} {v : Value} {l : List UInt8} (h : OwnB B w v l) : (convert 35 9 v).run Tryd.prog w = .ok (bstr l) w := by
  rcases h.bytes with ⟨rfl, rfl⟩ | ⟨g, cap, rfl, _, _, hb⟩
  · exact Lib.run_convert_nil_bytes w _ _ _ 0 Tryd.underlying35 Tryd.underlying5 Tryd.underlying9
  · exact Lib.run_convert_whole w _ _ _ Tryd.underlying35 Tryd.underlying5 Tryd.underlying9 g 0 ⟨l.toArray⟩ hb cap
theorem OwnB.len {B : Nat} {w : World} {v : Value} {l : List UInt8} (h : OwnB B w v l) : ∃ a cap, v = .slice a l.length cap := by
  rcases h.bytes with ⟨rfl, rfl⟩ | ⟨g, cap, rfl, _⟩
  · exact ⟨none, 0, rfl⟩
  · exact ⟨_, cap, rfl⟩

/-! Bytes that are read. -/
def byteIs (x : UInt8) (cs : List Value) : Prop := cs = [.int .u8 (x.toNat : Int)]
abbrev SlB (w : World) (B : Nat) (a : Option Addr) (l : List UInt8) : Prop := SlR w B 1 byteIs a l
theorem SlR.atB {w : World} {B : Nat} {a : Option Addr} {l : List UInt8} (h : SlR w B 1 byteIs a l) {k : Nat} (hk : k < l.length) : ∃ b off, a = some ⟨b, off, none⟩ ∧ b < B ∧ w.cell? ⟨b, off + k, none⟩ = some (.int .u8 (l[k].toNat : Int)) := by
  obtain ⟨b, off, cs, ha, hb, rfl, hc⟩ := h k hk
  have := hc 0 _ rfl
  rw [Nat.mul_one, Nat.add_zero] at this
  exact ⟨b, off, ha, hb, this⟩
theorem OwnB.read {B : Nat} {w : World} {v : Value} {l : List UInt8} (h : OwnB B w v l) : ∃ a cap, v = .slice a l.length cap ∧ SlB w w.heap.size a l := by
  rcases h.bytes with ⟨rfl, rfl⟩ | ⟨g, cap, rfl, _, hlt, hb⟩
  · exact ⟨none, 0, rfl, .nil⟩
  · refine ⟨_, cap, rfl, fun k hk => ⟨g, 0, _, rfl, hlt, rfl, fun j u hu => ?_⟩⟩
    match j, hu with
    | 0, hu =>
      simp at hu
      subst hu
      rw [Nat.mul_one, Nat.add_zero]
      exact hb k hk

theorem OwnB.drew {B : Nat} {w : World} {v : Value} {l : List UInt8} (h : OwnB B w v l) : OwnB B w.drew v l := h
/-- An appended byte as a step of a region that draws its order. -/
theorem step_byte {ops : Array Oper} {o : Oper} {a : Act} {K : Act → World → Prop} {Q : Exit → Act → World → Prop} {E : Prop} {w : World}
    (s x : Operand) (hgd : o.guard = none) (ho : o.op = .call { callee := .builtin .append, args := #[s, x], argTypes := #[35, 35] })
    {B : Nat} {v : Value} {l : List UInt8} {c : UInt8} (hs : a.eval s = v) (hown : OwnB B w v l)
    {g cc : Nat} {e' : TypeId} (hx : a.eval x = .slice (some ⟨g, 0, none⟩) 1 cc) (hb : Blk w g e' #[.int .u8 (c.toNat : Int)])
    (hl : l.length + 1 ≤ 140737488355328) (hB : B ≤ w.heap.size)
    (h : ∀ v' w', OwnB B w' v' (l ++ [c]) → Below B w w' → K (a.put o.dst v') w') : if Region.wanted o (yielded ops a.tmps) = true then Oper.wp Tryd.prog o a w K Q else E := by
  refine step_app st_bytes s x hgd ho hs hown hx hb rfl (by intro u hu; simp at hu; subst hu; rfl) (by unfold maxLen; omega) (by omega) hB (fun v' w' h1 h2 => h v' w' ?_ (own_grown (Below.refl B w) hown h2 (Nat.le_refl _) hB))
  unfold OwnB
  rw [byteCells_snoc, List.length_append]
  exact h1
