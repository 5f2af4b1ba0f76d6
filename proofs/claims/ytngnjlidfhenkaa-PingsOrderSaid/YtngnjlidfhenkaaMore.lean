/-
  A world that has grown: what a callee leaves behind that only makes memory. With these rules the walk keeps the blocks of its own written out across calls.
-/
import Derived.Test.YtngnjlidfhenkaaBase
namespace Go
structure Junk where
  heap : Array Obj
  drawn : Nat
def World.more (w : World) (j : Junk) : World := { w with heap := w.heap ++ j.heap, drawn := j.drawn }
section
variable {w : World} {j k : Junk}
@[simp, go_sem] theorem World.size_more : (w.more j).heap.size = w.heap.size + j.heap.size := by simp [World.more]
@[simp, go_sem] theorem World.tape_more : (w.more j).tape = w.tape := rfl
theorem World.heap_more (n : Nat) (hn : n < w.heap.size) : (w.more j).heap[n]? = w.heap[n]? := by
  show (w.heap ++ j.heap)[n]? = _
  rw [Array.getElem?_append_left hn]
@[go_sem] theorem World.cell?_more (n i : Nat) (s : Option Nat) (hn : n < w.heap.size) : (w.more j).cell? ⟨n, i, s⟩ = w.cell? ⟨n, i, s⟩ := by
  unfold World.cell?; rw [World.heap_more n hn]
@[go_sem] theorem World.frozen?_more (n i : Nat) (s : Option Nat) (hn : n < w.heap.size) : (w.more j).frozen? ⟨n, i, s⟩ = w.frozen? ⟨n, i, s⟩ := by
  unfold World.frozen?; rw [World.heap_more n hn]
@[go_sem] theorem World.setCell_more (n i : Nat) (s : Option Nat) (v : Value) (hn : n < w.heap.size) : (w.more j).setCell ⟨n, i, s⟩ v = (w.setCell ⟨n, i, s⟩ v).more j := by
  unfold World.setCell World.more
  congr 1
  apply Array.ext_getElem?
  intro q
  simp only [Array.getElem?_modify, Array.getElem?_append, Array.size_modify]
  by_cases hq : n = q
  · subst hq; simp [hn]
  · simp [hq]
@[go_sem] theorem World.more_drew : w.drew.more j = w.more j := rfl
@[go_sem] theorem World.more_drewN (n : Nat) : (w.drewN n).more j = w.more j := rfl
@[go_sem] theorem World.more_more : (w.more j).more k = w.more ⟨j.heap ++ k.heap, k.drawn⟩ := by
  simp [World.more, Array.append_assoc]
@[go_sem] theorem lt_new1 {a c0 : Nat} : (a < a + 1 + c0) = True := eq_true (by omega)
@[go_sem] theorem lt_old1 {a b c0 : Nat} (h : a < b) : (a < b + c0) = True := eq_true (by omega)
@[go_sem] theorem lt_new2 {a c0 c1 : Nat} : (a < a + 1 + c0 + c1) = True := eq_true (by omega)
@[go_sem] theorem lt_old2 {a b c0 c1 : Nat} (h : a < b) : (a < b + c0 + c1) = True := eq_true (by omega)
@[go_sem] theorem lt_new3 {a c0 c1 c2 : Nat} : (a < a + 1 + c0 + c1 + c2) = True := eq_true (by omega)
@[go_sem] theorem lt_old3 {a b c0 c1 c2 : Nat} (h : a < b) : (a < b + c0 + c1 + c2) = True := eq_true (by omega)
@[go_sem] theorem lt_new4 {a c0 c1 c2 c3 : Nat} : (a < a + 1 + c0 + c1 + c2 + c3) = True := eq_true (by omega)
@[go_sem] theorem lt_old4 {a b c0 c1 c2 c3 : Nat} (h : a < b) : (a < b + c0 + c1 + c2 + c3) = True := eq_true (by omega)
@[go_sem] theorem lt_new5 {a c0 c1 c2 c3 c4 : Nat} : (a < a + 1 + c0 + c1 + c2 + c3 + c4) = True := eq_true (by omega)
@[go_sem] theorem lt_old5 {a b c0 c1 c2 c3 c4 : Nat} (h : a < b) : (a < b + c0 + c1 + c2 + c3 + c4) = True := eq_true (by omega)
@[go_sem] theorem lt_new6 {a c0 c1 c2 c3 c4 c5 : Nat} : (a < a + 1 + c0 + c1 + c2 + c3 + c4 + c5) = True := eq_true (by omega)
@[go_sem] theorem lt_old6 {a b c0 c1 c2 c3 c4 c5 : Nat} (h : a < b) : (a < b + c0 + c1 + c2 + c3 + c4 + c5) = True := eq_true (by omega)
@[go_sem] theorem lt_new7 {a c0 c1 c2 c3 c4 c5 c6 : Nat} : (a < a + 1 + c0 + c1 + c2 + c3 + c4 + c5 + c6) = True := eq_true (by omega)
@[go_sem] theorem lt_old7 {a b c0 c1 c2 c3 c4 c5 c6 : Nat} (h : a < b) : (a < b + c0 + c1 + c2 + c3 + c4 + c5 + c6) = True := eq_true (by omega)
@[go_sem] theorem lt_new8 {a c0 c1 c2 c3 c4 c5 c6 c7 : Nat} : (a < a + 1 + c0 + c1 + c2 + c3 + c4 + c5 + c6 + c7) = True := eq_true (by omega)
@[go_sem] theorem lt_old8 {a b c0 c1 c2 c3 c4 c5 c6 c7 : Nat} (h : a < b) : (a < b + c0 + c1 + c2 + c3 + c4 + c5 + c6 + c7) = True := eq_true (by omega)
@[go_sem] theorem lt_new9 {a c0 c1 c2 c3 c4 c5 c6 c7 c8 : Nat} : (a < a + 1 + c0 + c1 + c2 + c3 + c4 + c5 + c6 + c7 + c8) = True := eq_true (by omega)
@[go_sem] theorem lt_old9 {a b c0 c1 c2 c3 c4 c5 c6 c7 c8 : Nat} (h : a < b) : (a < b + c0 + c1 + c2 + c3 + c4 + c5 + c6 + c7 + c8) = True := eq_true (by omega)
@[go_sem] theorem lt_new10 {a c0 c1 c2 c3 c4 c5 c6 c7 c8 c9 : Nat} : (a < a + 1 + c0 + c1 + c2 + c3 + c4 + c5 + c6 + c7 + c8 + c9) = True := eq_true (by omega)
@[go_sem] theorem lt_old10 {a b c0 c1 c2 c3 c4 c5 c6 c7 c8 c9 : Nat} (h : a < b) : (a < b + c0 + c1 + c2 + c3 + c4 + c5 + c6 + c7 + c8 + c9) = True := eq_true (by omega)
@[go_sem] theorem lt_new11 {a c0 c1 c2 c3 c4 c5 c6 c7 c8 c9 c10 : Nat} : (a < a + 1 + c0 + c1 + c2 + c3 + c4 + c5 + c6 + c7 + c8 + c9 + c10) = True := eq_true (by omega)
@[go_sem] theorem lt_old11 {a b c0 c1 c2 c3 c4 c5 c6 c7 c8 c9 c10 : Nat} (h : a < b) : (a < b + c0 + c1 + c2 + c3 + c4 + c5 + c6 + c7 + c8 + c9 + c10) = True := eq_true (by omega)
@[go_sem] theorem lt_new12 {a c0 c1 c2 c3 c4 c5 c6 c7 c8 c9 c10 c11 : Nat} : (a < a + 1 + c0 + c1 + c2 + c3 + c4 + c5 + c6 + c7 + c8 + c9 + c10 + c11) = True := eq_true (by omega)
@[go_sem] theorem lt_old12 {a b c0 c1 c2 c3 c4 c5 c6 c7 c8 c9 c10 c11 : Nat} (h : a < b) : (a < b + c0 + c1 + c2 + c3 + c4 + c5 + c6 + c7 + c8 + c9 + c10 + c11) = True := eq_true (by omega)
@[go_sem] theorem lt_new13 {a c0 c1 c2 c3 c4 c5 c6 c7 c8 c9 c10 c11 c12 : Nat} : (a < a + 1 + c0 + c1 + c2 + c3 + c4 + c5 + c6 + c7 + c8 + c9 + c10 + c11 + c12) = True := eq_true (by omega)
@[go_sem] theorem lt_old13 {a b c0 c1 c2 c3 c4 c5 c6 c7 c8 c9 c10 c11 c12 : Nat} (h : a < b) : (a < b + c0 + c1 + c2 + c3 + c4 + c5 + c6 + c7 + c8 + c9 + c10 + c11 + c12) = True := eq_true (by omega)
@[go_sem] theorem lt_new14 {a c0 c1 c2 c3 c4 c5 c6 c7 c8 c9 c10 c11 c12 c13 : Nat} : (a < a + 1 + c0 + c1 + c2 + c3 + c4 + c5 + c6 + c7 + c8 + c9 + c10 + c11 + c12 + c13) = True := eq_true (by omega)
@[go_sem] theorem lt_old14 {a b c0 c1 c2 c3 c4 c5 c6 c7 c8 c9 c10 c11 c12 c13 : Nat} (h : a < b) : (a < b + c0 + c1 + c2 + c3 + c4 + c5 + c6 + c7 + c8 + c9 + c10 + c11 + c12 + c13) = True := eq_true (by omega)
@[go_sem] theorem lt_new15 {a c0 c1 c2 c3 c4 c5 c6 c7 c8 c9 c10 c11 c12 c13 c14 : Nat} : (a < a + 1 + c0 + c1 + c2 + c3 + c4 + c5 + c6 + c7 + c8 + c9 + c10 + c11 + c12 + c13 + c14) = True := eq_true (by omega)
@[go_sem] theorem lt_old15 {a b c0 c1 c2 c3 c4 c5 c6 c7 c8 c9 c10 c11 c12 c13 c14 : Nat} (h : a < b) : (a < b + c0 + c1 + c2 + c3 + c4 + c5 + c6 + c7 + c8 + c9 + c10 + c11 + c12 + c13 + c14) = True := eq_true (by omega)
@[go_sem] theorem lt_new16 {a c0 c1 c2 c3 c4 c5 c6 c7 c8 c9 c10 c11 c12 c13 c14 c15 : Nat} : (a < a + 1 + c0 + c1 + c2 + c3 + c4 + c5 + c6 + c7 + c8 + c9 + c10 + c11 + c12 + c13 + c14 + c15) = True := eq_true (by omega)
@[go_sem] theorem lt_old16 {a b c0 c1 c2 c3 c4 c5 c6 c7 c8 c9 c10 c11 c12 c13 c14 c15 : Nat} (h : a < b) : (a < b + c0 + c1 + c2 + c3 + c4 + c5 + c6 + c7 + c8 + c9 + c10 + c11 + c12 + c13 + c14 + c15) = True := eq_true (by omega)
end
namespace RowKit
theorem Below.ofMore {B : Nat} {a w : World} (h : Below B a w) (hB : B ≤ w.heap.size) (j : Junk) : Below B a (w.more j) :=
  h.trans ⟨rfl, rfl, rfl, by simp, fun k hk => World.heap_more k (by omega)⟩
theorem Below.junk {w w' : World} (h : Below w.heap.size w w') : ∃ j, w' = w.more j := by
  refine ⟨⟨w'.heap.extract w.heap.size w'.heap.size, w'.drawn⟩, ?_⟩
  have e : w'.heap = w.heap ++ w'.heap.extract w.heap.size w'.heap.size := by
    apply Array.ext_getElem?
    intro k
    rw [Array.getElem?_append]
    split
    · rename_i hk; exact h.block k hk
    · rename_i hk
      rw [Array.getElem?_extract]
      have := h.size
      by_cases hk2 : k < w'.heap.size
      · rw [if_pos (by omega)]; congr 1; omega
      · rw [if_neg (by omega), Array.getElem?_eq_none (by omega)]
  cases w'
  cases w
  obtain ⟨h1, h2, h3, h4, h5⟩ := h
  simp only at h1 h2 h3 e
  subst h1 h2 h3
  simp only [World.more]
  exact congrArg (fun x => ({ heap := x, tape := _, drawn := _, os := _, output := _ } : World)) e
theorem Below.allocS {a w : World} (h : Below a.heap.size a w) (o : Obj) : Below a.heap.size a (w.alloc o) := h.alloc h.size o
theorem Below.moreS {a w : World} (h : Below a.heap.size a w) (j : Junk) : Below a.heap.size a (w.more j) := h.ofMore h.size j
theorem outs {P : Program} {f : Nat} {args : Array Value} {w : World} {v : Value} (h : Calls P f args w fun e w' => e = .returned v ∧ Below w.heap.size w w') : Calls P f args w fun e w' => e = .returned v ∧ ∃ j, w' = w.more j :=
  h.mono fun _ _ ⟨he, hb⟩ => ⟨he, hb.junk⟩
end RowKit
end Go
namespace Go.Proofs.Ytngnjlidfhenkaa
set_option linter.unusedSimpArgs false
set_option linter.unusedVariables false
set_option linter.unusedSectionVars false
open Go.ChangeShapes Go.WideShapes Go.ChangeAt Go.RowKit Go.Deep
theorem Blk.more {w : World} {g : Nat} {t : TypeId} {cs : Array Value} (h : Blk w g t cs) (j : Junk) : Blk (w.more j) g t cs := (World.heap_more g h.lt).trans h
end Go.Proofs.Ytngnjlidfhenkaa
