/-
  Parts of the proof, one behind the other: contracts of the program and plain laws; no condition of their own.
-/
import Derived.Test.YtfloijkagfabpaaGreatDoorBase
import Derived.Deep.QuietTactic
import Derived.BigQuiet
import Derived.OrdersHeld
import Derived.Deep.RegionHeld3
import Derived.Deep.MidRow
import Derived.Laws.Tables
import Derived.LoopN
import Derived.BigGuardPart
import Derived.Maps.AppendAt
import Derived.Deep.AppendLies
/-
  A world that has grown: what a callee leaves behind that only makes memory. With these rules the walk keeps the blocks of its own written out across calls.
-/
namespace Go
structure Junk where
  heap : Array Obj
  drawn : Nat
def World.more (w : World) (j : Junk) : World := { w with heap := w.heap ++ j.heap, drawn := j.drawn }
section
variable {w : World} {j k : Junk}
@[simp, go_sem] theorem World.size_more : (w.more j).heap.size = w.heap.size + j.heap.size := by simp [World.more]
@[simp, go_sem] theorem World.tape_more : (w.more j).tape = w.tape := rfl
theorem World.heap_more (n : Nat) (hn : n < w.heap.size) : (w.more j).heap[n]? = w.heap[n]? := by
  show (w.heap ++ j.heap)[n]? = _
  rw [Array.getElem?_append_left hn]
@[go_sem] theorem World.cell?_more (n i : Nat) (s : Option Nat) (hn : n < w.heap.size) : (w.more j).cell? ⟨n, i, s⟩ = w.cell? ⟨n, i, s⟩ := by
  unfold World.cell?; rw [World.heap_more n hn]
@[go_sem] theorem World.frozen?_more (n i : Nat) (s : Option Nat) (hn : n < w.heap.size) : (w.more j).frozen? ⟨n, i, s⟩ = w.frozen? ⟨n, i, s⟩ := by
  unfold World.frozen?; rw [World.heap_more n hn]
@[go_sem] theorem World.setCell_more (n i : Nat) (s : Option Nat) (v : Value) (hn : n < w.heap.size) : (w.more j).setCell ⟨n, i, s⟩ v = (w.setCell ⟨n, i, s⟩ v).more j := by
  unfold World.setCell World.more
  congr 1
  apply Array.ext_getElem?
  intro q
  simp only [Array.getElem?_modify, Array.getElem?_append, Array.size_modify]
  by_cases hq : n = q
  · subst hq; simp [hn]
  · simp [hq]
@[go_sem] theorem World.more_drew : w.drew.more j = w.more j := rfl
@[go_sem] theorem World.more_drewN (n : Nat) : (w.drewN n).more j = w.more j := rfl
@[go_sem] theorem World.more_more : (w.more j).more k = w.more ⟨j.heap ++ k.heap, k.drawn⟩ := by
  simp [World.more, Array.append_assoc]
@[go_sem] theorem lt_new1 {a c0 : Nat} : (a < a + 1 + c0) = True := eq_true (by omega)
@[go_sem] theorem lt_old1 {a b c0 : Nat} (h : a < b) : (a < b + c0) = True := eq_true (by omega)
@[go_sem] theorem lt_new2 {a c0 c1 : Nat} : (a < a + 1 + c0 + c1) = True := eq_true (by omega)
@[go_sem] theorem lt_old2 {a b c0 c1 : Nat} (h : a < b) : (a < b + c0 + c1) = True := eq_true (by omega)
@[go_sem] theorem lt_new3 {a c0 c1 c2 : Nat} : (a < a + 1 + c0 + c1 + c2) = True := eq_true (by omega)
@[go_sem] theorem lt_old3 {a b c0 c1 c2 : Nat} (h : a < b) : (a < b + c0 + c1 + c2) = True := eq_true (by omega)
@[go_sem] theorem lt_new4 {a c0 c1 c2 c3 : Nat} : (a < a + 1 + c0 + c1 + c2 + c3) = True := eq_true (by omega)
@[go_sem] theorem lt_old4 {a b c0 c1 c2 c3 : Nat} (h : a < b) : (a < b + c0 + c1 + c2 + c3) = True := eq_true (by omega)
@[go_sem] theorem lt_new5 {a c0 c1 c2 c3 c4 : Nat} : (a < a + 1 + c0 + c1 + c2 + c3 + c4) = True := eq_true (by omega)
@[go_sem] theorem lt_old5 {a b c0 c1 c2 c3 c4 : Nat} (h : a < b) : (a < b + c0 + c1 + c2 + c3 + c4) = True := eq_true (by omega)
@[go_sem] theorem lt_new6 {a c0 c1 c2 c3 c4 c5 : Nat} : (a < a + 1 + c0 + c1 + c2 + c3 + c4 + c5) = True := eq_true (by omega)
@[go_sem] theorem lt_old6 {a b c0 c1 c2 c3 c4 c5 : Nat} (h : a < b) : (a < b + c0 + c1 + c2 + c3 + c4 + c5) = True := eq_true (by omega)
@[go_sem] theorem lt_new7 {a c0 c1 c2 c3 c4 c5 c6 : Nat} : (a < a + 1 + c0 + c1 + c2 + c3 + c4 + c5 + c6) = True := eq_true (by omega)
@[go_sem] theorem lt_old7 {a b c0 c1 c2 c3 c4 c5 c6 : Nat} (h : a < b) : (a < b + c0 + c1 + c2 + c3 + c4 + c5 + c6) = True := eq_true (by omega)
@[go_sem] theorem lt_new8 {a c0 c1 c2 c3 c4 c5 c6 c7 : Nat} : (a < a + 1 + c0 + c1 + c2 + c3 + c4 + c5 + c6 + c7) = True := eq_true (by omega)
@[go_sem] theorem lt_old8 {a b c0 c1 c2 c3 c4 c5 c6 c7 : Nat} (h : a < b) : (a < b + c0 + c1 + c2 + c3 + c4 + c5 + c6 + c7) = True := eq_true (by omega)
@[go_sem] theorem lt_new9 {a c0 c1 c2 c3 c4 c5 c6 c7 c8 : Nat} : (a < a + 1 + c0 + c1 + c2 + c3 + c4 + c5 + c6 + c7 + c8) = True := eq_true (by omega)
@[go_sem] theorem lt_old9 {a b c0 c1 c2 c3 c4 c5 c6 c7 c8 : Nat} (h : a < b) : (a < b + c0 + c1 + c2 + c3 + c4 + c5 + c6 + c7 + c8) = True := eq_true (by omega)
@[go_sem] theorem lt_new10 {a c0 c1 c2 c3 c4 c5 c6 c7 c8 c9 : Nat} : (a < a + 1 + c0 + c1 + c2 + c3 + c4 + c5 + c6 + c7 + c8 + c9) = True := eq_true (by omega)
@[go_sem] theorem lt_old10 {a b c0 c1 c2 c3 c4 c5 c6 c7 c8 c9 : Nat} (h : a < b) : (a < b + c0 + c1 + c2 + c3 + c4 + c5 + c6 + c7 + c8 + c9) = True := eq_true (by omega)
@[go_sem] theorem lt_new11 {a c0 c1 c2 c3 c4 c5 c6 c7 c8 c9 c10 : Nat} : (a < a + 1 + c0 + c1 + c2 + c3 + c4 + c5 + c6 + c7 + c8 + c9 + c10) = True := eq_true (by omega)
@[go_sem] theorem lt_old11 {a b c0 c1 c2 c3 c4 c5 c6 c7 c8 c9 c10 : Nat} (h : a < b) : (a < b + c0 + c1 + c2 + c3 + c4 + c5 + c6 + c7 + c8 + c9 + c10) = True := eq_true (by omega)
@[go_sem] theorem lt_new12 {a c0 c1 c2 c3 c4 c5 c6 c7 c8 c9 c10 c11 : Nat} : (a < a + 1 + c0 + c1 + c2 + c3 + c4 + c5 + c6 + c7 + c8 + c9 + c10 + c11) = True := eq_true (by omega)
@[go_sem] theorem lt_old12 {a b c0 c1 c2 c3 c4 c5 c6 c7 c8 c9 c10 c11 : Nat} (h : a < b) : (a < b + c0 + c1 + c2 + c3 + c4 + c5 + c6 + c7 + c8 + c9 + c10 + c11) = True := eq_true (by omega)
@[go_sem] theorem lt_new13 {a c0 c1 c2 c3 c4 c5 c6 c7 c8 c9 c10 c11 c12 : Nat} : (a < a + 1 + c0 + c1 + c2 + c3 + c4 + c5 + c6 + c7 + c8 + c9 + c10 + c11 + c12) = True := eq_true (by omega)
@[go_sem] theorem lt_old13 {a b c0 c1 c2 c3 c4 c5 c6 c7 c8 c9 c10 c11 c12 : Nat} (h : a < b) : (a < b + c0 + c1 + c2 + c3 + c4 + c5 + c6 + c7 + c8 + c9 + c10 + c11 + c12) = True := eq_true (by omega)
@[go_sem] theorem lt_new14 {a c0 c1 c2 c3 c4 c5 c6 c7 c8 c9 c10 c11 c12 c13 : Nat} : (a < a + 1 + c0 + c1 + c2 + c3 + c4 + c5 + c6 + c7 + c8 + c9 + c10 + c11 + c12 + c13) = True := eq_true (by omega)
@[go_sem] theorem lt_old14 {a b c0 c1 c2 c3 c4 c5 c6 c7 c8 c9 c10 c11 c12 c13 : Nat} (h : a < b) : (a < b + c0 + c1 + c2 + c3 + c4 + c5 + c6 + c7 + c8 + c9 + c10 + c11 + c12 + c13) = True := eq_true (by omega)
@[go_sem] theorem lt_new15 {a c0 c1 c2 c3 c4 c5 c6 c7 c8 c9 c10 c11 c12 c13 c14 : Nat} : (a < a + 1 + c0 + c1 + c2 + c3 + c4 + c5 + c6 + c7 + c8 + c9 + c10 + c11 + c12 + c13 + c14) = True := eq_true (by omega)
@[go_sem] theorem lt_old15 {a b c0 c1 c2 c3 c4 c5 c6 c7 c8 c9 c10 c11 c12 c13 c14 : Nat} (h : a < b) : (a < b + c0 + c1 + c2 + c3 + c4 + c5 + c6 + c7 + c8 + c9 + c10 + c11 + c12 + c13 + c14) = True := eq_true (by omega)
@[go_sem] theorem lt_new16 {a c0 c1 c2 c3 c4 c5 c6 c7 c8 c9 c10 c11 c12 c13 c14 c15 : Nat} : (a < a + 1 + c0 + c1 + c2 + c3 + c4 + c5 + c6 + c7 + c8 + c9 + c10 + c11 + c12 + c13 + c14 + c15) = True := eq_true (by omega)
@[go_sem] theorem lt_old16 {a b c0 c1 c2 c3 c4 c5 c6 c7 c8 c9 c10 c11 c12 c13 c14 c15 : Nat} (h : a < b) : (a < b + c0 + c1 + c2 + c3 + c4 + c5 + c6 + c7 + c8 + c9 + c10 + c11 + c12 + c13 + c14 + c15) = True := eq_true (by omega)
end
namespace RowKit
theorem Below.ofMore {B : Nat} {a w : World} (h : Below B a w) (hB : B ≤ w.heap.size) (j : Junk) : Below B a (w.more j) :=
  h.trans ⟨rfl, rfl, rfl, by simp, fun k hk => World.heap_more k (by omega)⟩
theorem Below.junk {w w' : World} (h : Below w.heap.size w w') : ∃ j, w' = w.more j := by
  refine ⟨⟨w'.heap.extract w.heap.size w'.heap.size, w'.drawn⟩, ?_⟩
  have e : w'.heap = w.heap ++ w'.heap.extract w.heap.size w'.heap.size := by
    apply Array.ext_getElem?
    intro k
    rw [Array.getElem?_append]
    split
    · rename_i hk; exact h.block k hk
    · rename_i hk
      rw [Array.getElem?_extract]
      have := h.size
      by_cases hk2 : k < w'.heap.size
      · rw [if_pos (by omega)]; congr 1; omega
      · rw [if_neg (by omega), Array.getElem?_eq_none (by omega)]
  cases w'
  cases w
  obtain ⟨h1, h2, h3, h4, h5⟩ := h
  simp only at h1 h2 h3 e
  subst h1 h2 h3
  simp only [World.more]
  exact congrArg (fun x => ({ heap := x, tape := _, drawn := _, os := _, output := _ } : World)) e
theorem Below.allocS {a w : World} (h : Below a.heap.size a w) (o : Obj) : Below a.heap.size a (w.alloc o) := h.alloc h.size o
theorem Below.moreS {a w : World} (h : Below a.heap.size a w) (j : Junk) : Below a.heap.size a (w.more j) := h.ofMore h.size j
theorem outs {P : Program} {f : Nat} {args : Array Value} {w : World} {v : Value} (h : Calls P f args w fun e w' => e = .returned v ∧ Below w.heap.size w w') : Calls P f args w fun e w' => e = .returned v ∧ ∃ j, w' = w.more j :=
  h.mono fun _ _ ⟨he, hb⟩ => ⟨he, hb.junk⟩
end RowKit
end Go
namespace Go.Proofs.YtfloijkagfabpaaGreatDoor
set_option linter.unusedSimpArgs false
set_option linter.unusedVariables false
set_option linter.unusedSectionVars false
open Go.ChangeShapes Go.WideShapes Go.ChangeAt Go.RowKit Go.Deep
theorem Blk.more {w : World} {g : Nat} {t : TypeId} {cs : Array Value} (h : Blk w g t cs) (j : Junk) : Blk (w.more j) g t cs := (World.heap_more g h.lt).trans h
/-! Short words: what a walk asks of a grown world. -/
theorem bel {B : Nat} {a w : World} (h : Below B a w := by repeat (first | (with_reducible exact Below.refl _ _) | (with_reducible refine Below.allocS ?_ _) | (with_reducible refine Below.moreS ?_ _) | (with_reducible refine Below.drew ?_) | (with_reducible refine below_drewN ?_ _))) : Below B a w := h
theorem blk {w : World} {g : Nat} {t : TypeId} {cs : Array Value} (h : Blk w g t cs := by repeat (first | ((with_reducible apply Blk.at_); (simp; done)) | (with_reducible apply Blk.alloc) | (with_reducible apply Blk.more) | (with_reducible apply Blk.drew))) : Blk w g t cs := h
theorem mo {P : Program} {f : FuncId} {args : Array Value} {w : World} {v : Value} {Q : Ending → World → Prop} (h : Calls P f args w fun e w' => e = .returned v ∧ ∃ j, w' = w.more j) (k : ∀ j, Q (.returned v) (w.more j)) : Calls P f args w Q :=
  h.mono fun _ _ ⟨he, j, hj⟩ => he ▸ hj ▸ k j
theorem mq {P : Program} {f : FuncId} {args : Array Value} {w : World} {v : Value} {Q : Ending → World → Prop} (h : Calls P f args w fun e w' => e = .returned v ∧ w = w') (k : Q (.returned v) w) : Calls P f args w Q :=
  h.mono fun _ _ ⟨he, hj⟩ => he ▸ hj ▸ k
end Go.Proofs.YtfloijkagfabpaaGreatDoor
/-
  A region that draws its order, whose operations read, or call what only makes memory: walked once, over grown worlds.
-/
namespace Go.Proofs.YtfloijkagfabpaaGreatDoor
set_option linter.unusedSimpArgs false
set_option linter.unusedVariables false
set_option linter.unusedSectionVars false
open Go.ChangeShapes Go.WideShapes Go.ChangeAt Go.RowKit Go.Deep

instance : Inhabited Junk := ⟨⟨#[], 0⟩⟩
theorem more_self (w : World) : w = w.more ⟨#[], w.drawn⟩ := by simp [World.more]
theorem wp_region_more {P : Program} {id : Nat} {Q : Exit → Act → World → Prop} {a : Act} {w : World} {l : List Oper} (hm : P.follows .mixedOrders = true) (hB : Region.lexB .any l.toArray = true)
    (h : wpQuiet P l.toArray (fun w' => ∃ j : Junk, w' = w.more j) (fun a' => ∀ w', (∃ j : Junk, w' = w.more j) → Q .normal a' w') l a) : (Code.region id l.toArray true).wp P Q a w :=
  wp_region_quiet (C := fun w' => ∃ j : Junk, w' = w.more j) hm hB ⟨⟨#[], w.drawn + 1⟩, by simp [World.more]⟩ (by simpa using h)
theorem more_of {P : Program} {f : FuncId} {args : Array Value} {w : World} {j : Junk} {v : Value}
    (h : Calls P f args (w.more j) fun e w' => e = .returned v ∧ ∃ k, w' = (w.more j).more k) : Calls P f args (w.more j) fun e w'' => e = .returned v ∧ ∃ k, w'' = w.more k :=
  h.mono fun _ _ ⟨he, k, hk⟩ => ⟨he, ⟨j.heap ++ k.heap, k.drawn⟩, by rw [hk, World.more_more]⟩
theorem more_of_same {P : Program} {f : FuncId} {args : Array Value} {w : World} {j : Junk} {v : Value}
    (h : Calls P f args (w.more j) fun e w' => e = .returned v ∧ w.more j = w') : Calls P f args (w.more j) fun e w'' => e = .returned v ∧ ∃ k, w'' = w.more k :=
  h.mono fun _ _ ⟨he, hk⟩ => ⟨he, j, hk.symm⟩
end Go.Proofs.YtfloijkagfabpaaGreatDoor
/-
  Short words for regions that draw their order: an operation that only reads is taken, the frame in its plain form.
-/
namespace Go.Proofs.YtfloijkagfabpaaGreatDoor
set_option linter.unusedSimpArgs false
set_option linter.unusedVariables false
set_option linter.unusedSectionVars false
open Go.ChangeShapes Go.WideShapes Go.ChangeAt Go.RowKit Go.Deep

section
variable {P : Program} {ops : Array Oper} {Q : Exit → Act → World → Prop} {md : Region.Mode} {S : World → Prop} {oi : Oper} {v : Value} {fuel : Nat} {listed l' : Array Bool} {a a' : Act} {w : World}
/-- The world gets a name. -/
theorem wnm {c : Code} (h : ∀ wz, wz = w → Code.wp P c Q a wz) : Code.wp P c Q a w := h w rfl
theorem nfa {α : Type} {l : List α} {i : Nat} (h : i < l.toArray.size) : l.toArray[i] = l[i]'(by simpa using h) := by simp
theorem nfb {α : Type} {a : α} {l : List α} {i : Nat} (h : i + 1 < (a :: l).length) : (a :: l)[i + 1] = l[i]'(by simpa using h) := rfl
theorem nfc {α : Type} {a : α} {l : List α} (h : 0 < (a :: l).length) : (a :: l)[0] = a := rfl
theorem nfd {α : Type} {l : List α} {i : Nat} {a : α} : l.toArray.setIfInBounds i a = (l.set i a).toArray := by simp
theorem tk (i : Nat) (h : wpAnyH P md ops Q S fuel l' a' w)
    (hi : ops[i]? = some oi := by exact rfl)
    (hs : Region.noSelect ops = true := by kernel_rfl) (hf : Region.free md ops listed i = true := by kernel_rfl) (hr : (Region.ready md ops listed).contains i = true := by kernel_rfl)
    (hQ : ∀ c a w, Q (.panic c) (a.put oi.dst v) w → Q (.panic c) a w := by exact fun _ _ _ h => h)
    (hy : YieldsIf P ops S oi v a := by (refine Or.inl ⟨by first | kernel_rfl | rfl, ?_⟩; intro wS hSw; (try have hSc := hSw.cell); clear hSw; go_simp; try with_reducible rfl))
    (hS : S w := by first | exact Below.refl _ _ | exact trivial | exact ⟨rfl, rfl, rfl, Nat.le_refl _, fun _ _ _ => rfl⟩)
    (hl : listed.setIfInBounds i true = l' := by ((try simp only [List.setIfInBounds_toArray, List.set_cons_zero, List.set_cons_succ]); all_goals exact rfl))
    (ha : a.put oi.dst v = a' := by ((try simp only [Act.put, List.getElem_toArray, List.getElem_cons_succ, List.getElem_cons_zero, List.setIfInBounds_toArray, List.set_cons_zero, List.set_cons_succ]); all_goals exact rfl)) :
    wpAnyH P md ops Q S (fuel + 1) listed a w := by
  subst hl ha
  exact wpAnyH_take hi hs hf hr hQ hy hS h
theorem tkc (i : Nat) (h : wpAnyH P md ops Q S fuel l' a' w)
    (hi : ops[i]? = some oi := by exact rfl)
    (hs : Region.noSelect ops = true := by kernel_rfl) (hf : Region.free md ops listed i = true := by kernel_rfl) (hr : (Region.ready md ops listed).contains i = true := by kernel_rfl)
    (hQ : ∀ c a w, Q (.panic c) (a.put oi.dst v) w → Q (.panic c) a w := by exact fun _ _ _ h => h)
    (hy : YieldsIf P ops S oi v a := by (refine Or.inl ⟨by first | kernel_rfl | rfl, ?_⟩; intro wS hSw; (try have hSc := hSw.cell); clear hSw; go_simp; first | (with_reducible rfl) | (rw [if_neg (by first | omega | (simp only [List.length_append, List.length_cons, List.length_nil]; omega))])))
    (hS : S w := by first | exact Below.refl _ _ | exact trivial | exact ⟨rfl, rfl, rfl, Nat.le_refl _, fun _ _ _ => rfl⟩)
    (hl : listed.setIfInBounds i true = l' := by ((try simp only [List.setIfInBounds_toArray, List.set_cons_zero, List.set_cons_succ]); all_goals exact rfl))
    (ha : a.put oi.dst v = a' := by ((try simp only [Act.put, List.getElem_toArray, List.getElem_cons_succ, List.getElem_cons_zero, List.setIfInBounds_toArray, List.set_cons_zero, List.set_cons_succ]); all_goals exact rfl)) :
    wpAnyH P md ops Q S (fuel + 1) listed a w := by
  subst hl ha
  exact wpAnyH_take hi hs hf hr hQ hy hS h
theorem tks (i : Nat) (h : wpAnyH P md ops Q S fuel l' a' w)
    (hi : ops[i]? = some oi := by exact rfl)
    (hs : Region.noSelect ops = true := by kernel_rfl) (hf : Region.free md ops listed i = true := by kernel_rfl) (hr : (Region.ready md ops listed).contains i = true := by kernel_rfl)
    (hQ : ∀ c a w, Q (.panic c) (a.put oi.dst v) w → Q (.panic c) a w := by exact fun _ _ _ h => h)
    (hy : YieldsIf P ops S oi v a := by exact Or.inr ⟨by kernel_rfl, rfl⟩)
    (hS : S w := by first | exact Below.refl _ _ | exact trivial | exact ⟨rfl, rfl, rfl, Nat.le_refl _, fun _ _ _ => rfl⟩)
    (hl : listed.setIfInBounds i true = l' := by ((try simp only [List.setIfInBounds_toArray, List.set_cons_zero, List.set_cons_succ]); all_goals exact rfl))
    (ha : a.put oi.dst v = a' := by ((try simp only [Act.put, List.getElem_toArray, List.getElem_cons_succ, List.getElem_cons_zero, List.setIfInBounds_toArray, List.set_cons_zero, List.set_cons_succ]); all_goals exact rfl)) :
    wpAnyH P md ops Q S (fuel + 1) listed a w := by
  subst hl ha
  exact wpAnyH_take hi hs hf hr hQ hy hS h
theorem tke (i : Nat) {E : World → Prop} (hE : ∀ wS, S wS → E wS) (h : wpAnyH P md ops Q S fuel l' a' w)
    (hi : ops[i]? = some oi := by exact rfl)
    (hs : Region.noSelect ops = true := by kernel_rfl) (hf : Region.free md ops listed i = true := by kernel_rfl) (hr : (Region.ready md ops listed).contains i = true := by kernel_rfl)
    (hQ : ∀ c a w, Q (.panic c) (a.put oi.dst v) w → Q (.panic c) a w := by exact fun _ _ _ h => h)
    (hw : Region.wanted oi (yielded ops a.tmps) = true := by first | kernel_rfl | rfl)
    (hy : ∀ wS, E wS → (execOp a.eval oi).run P wS = .ok (.value v) wS := by (intro wS hSc; go_simp; try with_reducible rfl))
    (hS : S w := by first | exact Below.refl _ _ | exact trivial | exact ⟨rfl, rfl, rfl, Nat.le_refl _, fun _ _ _ => rfl⟩)
    (hl : listed.setIfInBounds i true = l' := by ((try simp only [List.setIfInBounds_toArray, List.set_cons_zero, List.set_cons_succ]); all_goals exact rfl))
    (ha : a.put oi.dst v = a' := by ((try simp only [Act.put, List.getElem_toArray, List.getElem_cons_succ, List.getElem_cons_zero, List.setIfInBounds_toArray, List.set_cons_zero, List.set_cons_succ]); all_goals exact rfl)) :
    wpAnyH P md ops Q S (fuel + 1) listed a w := by
  subst hl ha
  exact wpAnyH_take hi hs hf hr hQ (.inl ⟨hw, fun wS hs => hy wS (hE wS hs)⟩) hS h
/-- A whole row is loaded, that stays as long as S. -/
theorem tkl (i : Nat) {b : Nat} {t : TypeId} {cs : Array Value} (hb : ∀ wS, S wS → Blk wS b t cs) {ty : TypeId} {x : Operand} {d : TypeDesc} (hu : P.underlying ty = some d) (h : wpAnyH P md ops Q S fuel l' a' w)
    (hi : ops[i]? = some oi := by exact rfl)
    (hs : Region.noSelect ops = true := by kernel_rfl) (hf : Region.free md ops listed i = true := by kernel_rfl) (hr : (Region.ready md ops listed).contains i = true := by kernel_rfl)
    (hQ : ∀ c a w, Q (.panic c) (a.put oi.dst (.agg cs)) w → Q (.panic c) a w := by exact fun _ _ _ h => h)
    (hw : Region.wanted oi (yielded ops a.tmps) = true := by first | kernel_rfl | rfl) (ho : oi.op = .load ty x := by exact rfl) (hx : a.eval x = .pointer (some ⟨b, 0, none⟩) := by exact rfl)
    (hd : d.isRow = true := by exact rfl) (hsz : (P.info? ty).map (·.size) = some cs.size := by kernel_rfl)
    (hS : S w := by first | exact Below.refl _ _ | exact trivial | exact ⟨rfl, rfl, rfl, Nat.le_refl _, fun _ _ _ => rfl⟩)
    (hl : listed.setIfInBounds i true = l' := by ((try simp only [List.setIfInBounds_toArray, List.set_cons_zero, List.set_cons_succ]); all_goals exact rfl))
    (ha : a.put oi.dst (.agg cs) = a' := by ((try simp only [Act.put, List.getElem_toArray, List.getElem_cons_succ, List.getElem_cons_zero, List.setIfInBounds_toArray, List.set_cons_zero, List.set_cons_succ]); all_goals exact rfl)) :
    wpAnyH P md ops Q S (fuel + 1) listed a w := by
  subst hl ha
  refine wpAnyH_take hi hs hf hr hQ ?_ hS h
  have := yieldsIf_load_mid (P := P) (ops := ops) (S := S) (op := oi) (a := a) hw ty x ho b 0 hx cs.toList d (fun w' hw' j v hj => by
    rw [Nat.zero_add, (hb w' hw').cell j, ← Array.getElem?_toList]
    exact hj) hu hd (by simpa using hsz)
  simpa using this
/-! Any relation between worlds that may be held. -/
theorem gg_mono {S S' : World → Prop} (hS : ∀ w, S' w → S w) : ∀ (fuel : Nat) (listed : Array Bool) (a : Act) (w : World), wpAnyH P md ops Q S' fuel listed a w → wpAnyH P md ops Q S fuel listed a w
  | 0, _, _, _, h => h
  | fuel + 1, listed, a, w, h => ⟨h.1, fun i hi => wpOp_mono (fun a' w' h' => ⟨hS _ h'.1, gg_mono hS fuel _ a' w' h'.2⟩) (h.2 i hi)⟩
theorem gg_start {id : Nat} (G : World → World → Prop) (hr : ∀ w, G w w) (hm : P.follows .mixedOrders = true := by kernel_rfl)
    (h : wpAnyH P .any ops Q (G w.drew) ops.size (Array.replicate ops.size false) a w.drew) : (Code.region id ops true).wp P Q a w :=
  wp_region_held_drew hm (hr _) (fun _ => h)
theorem gg_step {G : World → World → Prop} (ht : ∀ a b c, G a b → G b c → G a c) (i : Nat) {o : Oper} (hr : Region.ready md ops listed = [i]) (ho : ops[i]? = some o)
    (h : ∀ K' : Act → World → Prop, Shut (∀ a' w', G w w' → wpAnyH P md ops Q (G w') fuel (listed.setIfInBounds i true) a' w' → K' a' w') → if Region.wanted o (yielded ops a.tmps) = true then Oper.wp P o a w K' Q else K' (a.put o.dst undef) w) :
    wpAnyH P md ops Q (G w) (fuel + 1) listed a w :=
  wpAnyH_ready hr (by simp) (AllReadyH.cons ho (fun K' hK => h K' (fun a' w' hg hw => hK.out a' w' hg (fun _ => gg_mono (fun w2 h2 => ht _ _ _ hg h2) _ _ _ _ hw))) AllReadyH.nil)
end
end Go.Proofs.YtfloijkagfabpaaGreatDoor
/-
  A connection's parts, new: the constructors.
-/
namespace Go.Proofs.YtfloijkagfabpaaGreatDoor
set_option linter.unusedSimpArgs false
set_option linter.unusedVariables false
set_option linter.unusedSectionVars false
open Go.ChangeShapes Go.WideShapes Go.ChangeAt Go.RowKit Go.Deep

/-- A new block of some type and cells, to which a pointer is returned. -/
def NewP (t : TypeId) (cs : Array Value) (w : World) (e : Ending) (w' : World) : Prop := ∃ g, e = .returned (.pointer (some ⟨g, 0, none⟩)) ∧ w.heap.size ≤ g ∧ Blk w' g t cs ∧ ∃ j, w' = w.more j
def NewE (t : TypeId) (cs : Array Value) (w : World) (e : Ending) (w' : World) : Prop := ∃ g, e = .returned (.tuple #[.pointer (some ⟨g, 0, none⟩), .int .i64 0]) ∧ w.heap.size ≤ g ∧ Blk w' g t cs ∧ ∃ j, w' = w.more j
abbrev fmZ : Array Value := #[.int .i64 0, .int .i64 0, .int .i64 0, .int .i64 0, .slice none 0 0, .slice none 0 0, .int .i64 0, .int .i64 0, .bool false, .int .i64 0, .int .i64 0, .int .i64 0, .int .i64 0]
set_option maxRecDepth 100000 in
theorem block_New (n : Int) (h : 0 ≤ n) (w : World) : Calls Tryz.prog 29 #[.int .i64 n] w (NewP 166 #[.int .i64 n, .bool false, .int .i64 0, .int .i64 0, .int .i64 0, .int .i64 0, .slice none 0 0, .slice none 0 0, .int .i64 0, .int .i64 0, .bool false, .int .i64 0, .int .i64 0, .int .i64 0, .int .i64 0, .slice none 0 0] w) := by
  have hm : (if n < 0 then (0 : Int) else n) = n := if_neg (by omega)
  have h2 : ¬ n < 0 := by omega
  go_enter Tryz.func29, Tryz.ntmps29
  go_wp2_with fail
  go_ret
  exact ⟨w.heap.size, rfl, Nat.le_refl _, blk, Below.junk bel⟩
set_option maxRecDepth 100000 in
theorem grace_New (n : Int) (h : 0 ≤ n) (w : World) : Calls Tryz.prog 32 #[.int .i64 n] w (NewP 175 #[.int .i64 n, .map none, .map none, .slice none 0 0] w) := by
  have h2 : ¬ n < 0 := by omega
  go_enter Tryz.func32, Tryz.ntmps32
  go_wp2_with fail
  go_ret
  exact ⟨w.heap.size, rfl, Nat.le_refl _, blk, Below.junk bel⟩
set_option maxRecDepth 100000 in
theorem roster_New (n : Int) (h : 0 ≤ n) (w : World) : Calls Tryz.prog 28 #[.int .i64 n] w (NewP 164 #[.int .i64 n, .slice none 0 0, .map none, .int .i64 0, .int .i64 0] w) := by
  have h2 : ¬ n < 0 := by omega
  go_enter Tryz.func28, Tryz.ntmps28
  go_wp2_with fail
  go_ret
  exact ⟨w.heap.size, rfl, Nat.le_refl _, blk, Below.junk bel⟩
set_option maxRecDepth 100000 in
theorem pending_New (w : World) : Calls Tryz.prog 31 #[] w (NewP 173 #[.slice none 0 0, .int .i64 0, .int .i64 0] w) := by
  go_enter Tryz.func31, Tryz.ntmps31
  go_wp2_with fail
  go_ret
  exact ⟨w.heap.size, rfl, Nat.le_refl _, blk, Below.junk bel⟩
set_option maxRecDepth 100000 in
theorem dyntab_may (n : Int) (h : 0 ≤ n) (h2 : n ≤ 2147483647) (w : World) : Calls Tryz.prog 143 #[.int .i64 n] w fun e w' => e = .returned (.bool true) ∧ w = w' := by
  have h3 : decide (n ≥ 0) = true := by simpa using h
  have h4 : decide (n ≤ 2147483647) = true := by simpa using h2
  go_enter Tryz.func143, Tryz.ntmps143
  go_wp2_with fail
  go_ret
  exact ⟨rfl, rfl⟩
set_option maxRecDepth 100000 in
theorem dyntab_New (n : Int) (h : 0 ≤ n) (h2 : n ≤ 2147483647) (w : World) : Calls Tryz.prog 72 #[.int .i64 n] w (NewE 250 #[.slice none 0 0, .int .i64 0, .int .i64 n] w) := by
  have H := Lib.hid (dyntab_may n h h2)
  go_enter Tryz.func72, Tryz.ntmps72
  go_wp2_with (go_at_call 143; (with_reducible refine (H.out _).mono ?_); rintro e w' ⟨rfl, rfl⟩)
  go_ret2
  exact ⟨w.heap.size, rfl, Nat.le_refl _, blk, Below.junk bel⟩
/-- A new decoder: its block, and its table's. -/
def NewD (n : Int) (w : World) (e : Ending) (w' : World) : Prop := ∃ g t, e = .returned (.tuple #[.pointer (some ⟨g, 0, none⟩), .int .i64 0]) ∧ w.heap.size ≤ t ∧ t < g ∧ Blk w' g 171 #[.pointer (some ⟨t, 0, none⟩)] ∧ Blk w' t 250 #[.slice none 0 0, .int .i64 0, .int .i64 n] ∧ ∃ j, w' = w.more j
set_option maxRecDepth 100000 in
theorem decoder_New (n : Int) (h : 0 ≤ n) (h2 : n ≤ 2147483647) (w : World) : Calls Tryz.prog 30 #[.int .i64 n] w (NewD n w) := by
  have H : Hid (∀ W, Calls Tryz.prog 72 #[.int .i64 n] W (NewE 250 #[.slice none 0 0, .int .i64 0, .int .i64 n] W)) := dyntab_New n h h2
  go_enter Tryz.func30, Tryz.ntmps30
  go_wp2_with fail
  refine (H.out _).mono ?_
  rintro e w' ⟨g, rfl, hg, hb, j, rfl⟩
  have HB := Lib.hid hb
  have hlt := hb.lt
  clear hb
  go_wp2_with fail
  go_ret2
  exact ⟨_, g, rfl, hg, by simpa using hlt, blk, HB.out.alloc _, Below.junk bel⟩
end Go.Proofs.YtfloijkagfabpaaGreatDoor
/-
  An append whose source is a slice that is known element by element; slices of slices.
-/
namespace Go.Proofs.YtfloijkagfabpaaGreatDoor
set_option linter.unusedSimpArgs false
set_option linter.unusedVariables false
set_option linter.unusedSectionVars false
open Go.ChangeShapes Go.WideShapes Go.ChangeAt Go.RowKit Go.Deep

theorem run_append_nil {P : Program} (w : World) (base : Nat) (t ty e : TypeId) (i : TypeInfo) (size : Nat) (ht : P.underlying t = some (.slice e)) (hi : P.info? e = some i)
    (v : Value) (n : Nat) (xs : List Value) (hown : w.ownsRow base e size v n xs) (A : Option Addr) (c : Nat) (hA : A = none) : (Builtin.append_ #[t, t] ty #[v, .slice A 0 c]).run P w = .ok v w := by
  subst hA
  rcases hown.2 with ⟨rfl, rfl⟩ | ⟨g, cap, cur, rfl, _, _, hnc, _⟩
  · simp [Builtin.append_, run_underlying ht, sizeOf, typeInfo, hi, Builtin.lenOf, Builtin.firstCells]
  · simp [Builtin.append_, run_underlying ht, sizeOf, typeInfo, hi, Builtin.lenOf, Builtin.firstCells, hnc, storeCells]

/-- One append: onto a row of the call's own, from a slice that reads as ms. -/
theorem wpList_app_sl {α : Type} {P : Program} {ops : Array Oper} {rest : List Oper} {o : Oper} {a : Act} {Q : Exit → Act → World → Prop} {w : World} {t e : TypeId} {z : Value} {size bytes : Nat} (hT : SliceTy P t e z size bytes)
    (s x : Operand) (hgd : o.guard = none) (ho : o.op = .call { callee := .builtin .append, args := #[s, x], argTypes := #[t, t] })
    {base n : Nat} {v : Value} {xs : List Value} (hs : a.eval s = v) (hown : w.ownsRow base e size v n xs)
    {A : Option Addr} {m c B : Nat} {R : α → List Value → Prop} {cf : α → List Value} {ms : List α} (hx : a.eval x = .slice A m c) (hm : ms.length = m) (hr : SlR w B size R A ms) (hR : ∀ y ∈ ms, ∀ cs, R y cs → cs = cf y) (hc : ∀ y ∈ ms, (cf y).length = size) (h1 : ∀ y ∈ ms, ∀ u ∈ cf y, u.oneCell' = true)
    (h63 : n + m ≤ maxLen) (hbytes : (n + m) * bytes ≤ 140737488355328) (hbase : base ≤ w.heap.size)
    (h : ∀ v' w', w'.ownsRow base e size v' (n + m) (xs ++ ms.flatMap cf) → w.grownBy w' v.ownBlock → wpList P ops Q rest (a.put o.dst v') w') : wpList P ops Q (o :: rest) a w := by
  subst hm
  obtain ⟨i, ht, hi, hz, hsz, hby, hzs, h0⟩ := hT
  rcases A with _ | ad
  · have hms : ms = [] := by
      rcases Nat.eq_zero_or_pos ms.length with hn | hp
      · exact List.eq_nil_of_length_eq_zero hn
      · obtain ⟨_, _, _, hA, _⟩ := hr 0 hp
        cases hA
    subst hms
    refine wpList_plain hgd fun _ hK => ?_
    unfold Oper.wp execOp
    simp only [ho, resolve, invoke, builtin, Sem.run_bind, Sem.run_pure, Result.andThen_ok, List.map_toArray, List.map_cons, List.map_nil, hs, hx, run_append_nil (P := P) w base t o.type e i size ht hi v n xs hown none c rfl, List.length_nil]
    exact hK _ _ (h v w (by simpa using hown) (World.grownBy.refl w _))
  · have hlen : (ms.flatMap cf).length = ms.length * size := by
      clear h hr hR h1 h63 hbytes hx
      induction ms with
      | nil => simp
      | cons y r ih =>
        simp only [List.flatMap_cons, List.length_append, List.length_cons, Nat.add_mul, Nat.one_mul]
        rw [ih (fun z hz => hc z (by simp [hz])), hc y (by simp)]
        omega
    refine wpList_append_own w hgd s x t ho base e i z size bytes ht hi hz hsz hby hzs h0 v n xs hs hown ad ms.length c (ms.flatMap cf) hx hlen ?_ ?_ h63 hbytes hbase (fun v' w' h2 h3 _ => h v' w' h2 h3)
    · intro j u hu
      have hj : j < ms.length * size := by rw [← hlen]; exact (List.getElem?_eq_some_iff.1 hu).1
      have hk : j / size < ms.length := Nat.div_lt_of_lt_mul (by rw [Nat.mul_comm]; exact hj)
      obtain ⟨b, off, cs, hA, _, hRk, hcell⟩ := hr _ hk
      injection hA with hA
      subst hA
      have hcs := hR _ (List.getElem_mem hk) _ hRk
      subst hcs
      have hjr : j % size < (cf ms[j / size]).length := by rw [hc _ (List.getElem_mem hk)]; exact Nat.mod_lt _ h0
      have hj2 : j / size * size + j % size = j := by rw [Nat.mul_comm]; exact Nat.div_add_mod j size
      have hu2 := flat_get ms hc _ hk _ _ (List.getElem?_eq_getElem hjr)
      rw [hj2, hu] at hu2
      have := hcell (j % size) _ (List.getElem?_eq_getElem hjr)
      rw [Nat.add_assoc, hj2] at this
      have e1 : (⟨b, off, none⟩ : Addr).add j = ⟨b, off + j, none⟩ := by unfold Addr.add; by_cases hz : j = 0 <;> simp [hz]
      rw [e1, this, hu2]
    · intro u hu
      obtain ⟨y, hy, hu⟩ := List.mem_flatMap.1 hu
      exact h1 y hy u hu

theorem SlR.take {α : Type} {w : World} {B size : Nat} {R : α → List Value → Prop} {a : Option Addr} {l : List α} (h : SlR w B size R a l) (n : Nat) : SlR w B size R a (l.take n) := by
  intro k hk
  have hk' : k < l.length := by simp at hk; omega
  obtain ⟨b, off, cs, ha, hb, hr, hc⟩ := h k hk'
  exact ⟨b, off, cs, ha, hb, by simpa using hr, hc⟩
theorem SlR.drop {α : Type} {w : World} {B size : Nat} {R : α → List Value → Prop} {a : Option Addr} {l : List α} (h : SlR w B size R a l) (n : Nat) : SlR w B size R (a.map (·.add (n * size))) (l.drop n) := by
  intro k hk
  have hk' : n + k < l.length := by simp at hk; omega
  obtain ⟨b, off, cs, ha, hb, hr, hc⟩ := h (n + k) hk'
  subst ha
  have e1 : (⟨b, off, none⟩ : Addr).add (n * size) = ⟨b, off + n * size, none⟩ := by unfold Addr.add; by_cases hz : n * size = 0 <;> simp [hz]
  refine ⟨b, off + n * size, cs, by simp [e1], hb, by simpa using hr, fun j u hu => ?_⟩
  have := hc j u hu
  rw [Nat.add_mul] at this
  rw [← this]
  congr 2
  omega
theorem SlR.drop_if {α : Type} {w : World} {B size cap : Nat} {R : α → List Value → Prop} {a : Option Addr} {l : List α} (h : SlR w B size R a l) (n : Nat) (hc : l.length ≤ cap) : SlR w B size R (if cap = n then a else a.map (·.add (n * size))) (l.drop n) := by
  split
  · rename_i hn
    rw [List.drop_of_length_le (by omega)]
    exact .nil
  · exact h.drop n
theorem fd_cells : ∀ (y : Fd) (cs : List Value), y.Is cs → cs = y.cells := fun _ _ h => h.1
end Go.Proofs.YtfloijkagfabpaaGreatDoor
/-
  An append as one step of a region that draws its order.
-/
namespace Go.Proofs.YtfloijkagfabpaaGreatDoor
set_option linter.unusedSimpArgs false
set_option linter.unusedVariables false
set_option linter.unusedSectionVars false
open Go.ChangeShapes Go.WideShapes Go.ChangeAt Go.RowKit Go.Deep

theorem step_core {P : Program} {ops : Array Oper} {o : Oper} {a : Act} {K : Act → World → Prop} {Q : Exit → Act → World → Prop} {E : Prop} {w w' : World} {t : TypeId} {v V v' : Value} (hgd : o.guard = none) (s x : Operand)
    (ho : o.op = .call { callee := .builtin .append, args := #[s, x], argTypes := #[t, t] }) (hs : a.eval s = v) (hx : a.eval x = V)
    (hrun : (Builtin.append_ #[t, t] o.type #[v, V]).run P w = .ok v' w') (h : K (a.put o.dst v') w') : if Region.wanted o (yielded ops a.tmps) = true then Oper.wp P o a w K Q else E := by
  have hw : Region.wanted o (yielded ops a.tmps) = true := by simp [Region.wanted, hgd]
  rw [if_pos hw]
  unfold Oper.wp
  simp [execOp, ho, resolve, invoke, builtin, hs, hx, hrun, Result.andThen]
  exact h

theorem run_app_sl {α : Type} {P : Program} {w : World} {t e ty : TypeId} {z : Value} {size bytes : Nat} (hT : SliceTy P t e z size bytes)
    {base n : Nat} {v : Value} {xs : List Value} (hown : w.ownsRow base e size v n xs)
    {A : Option Addr} {c B : Nat} {R : α → List Value → Prop} {cf : α → List Value} {ms : List α} (hr : SlR w B size R A ms) (hR : ∀ y ∈ ms, ∀ cs, R y cs → cs = cf y) (hc : ∀ y ∈ ms, (cf y).length = size) (h1 : ∀ y ∈ ms, ∀ u ∈ cf y, u.oneCell' = true)
    (h63 : n + ms.length ≤ maxLen) (hbytes : (n + ms.length) * bytes ≤ 140737488355328) (hbase : base ≤ w.heap.size) :
    ∃ v' w', (Builtin.append_ #[t, t] ty #[v, .slice A ms.length c]).run P w = .ok v' w' ∧ w'.ownsRow base e size v' (n + ms.length) (xs ++ ms.flatMap cf) ∧ w.grownBy w' v.ownBlock := by
  obtain ⟨i, ht, hi, hz, hsz, hby, hzs, h0⟩ := hT
  rcases A with _ | ad
  · have hms : ms = [] := by
      rcases Nat.eq_zero_or_pos ms.length with hn | hp
      · exact List.eq_nil_of_length_eq_zero hn
      · obtain ⟨_, _, _, hA, _⟩ := hr 0 hp
        cases hA
    subst hms
    exact ⟨v, w, run_append_nil (P := P) w base t ty e i size ht hi v n xs hown none c rfl, by simpa using hown, World.grownBy.refl w _⟩
  · have hlen : (ms.flatMap cf).length = ms.length * size := by
      clear hr hR h1 h63 hbytes
      induction ms with
      | nil => simp
      | cons y r ih =>
        simp only [List.flatMap_cons, List.length_append, List.length_cons, Nat.add_mul, Nat.one_mul]
        rw [ih (fun z hz => hc z (by simp [hz])), hc y (by simp)]
        omega
    obtain ⟨v', w', e1, e2, e3, _⟩ := run_append_own w base t ty e i z size bytes ht hi hz hsz hby hzs h0 v n xs hown ad ms.length c (ms.flatMap cf) hlen (by
      intro j u hu
      have hj : j < ms.length * size := by rw [← hlen]; exact (List.getElem?_eq_some_iff.1 hu).1
      have hk : j / size < ms.length := Nat.div_lt_of_lt_mul (by rw [Nat.mul_comm]; exact hj)
      obtain ⟨b, off, cs, hA, _, hRk, hcell⟩ := hr _ hk
      injection hA with hA
      subst hA
      have hcs := hR _ (List.getElem_mem hk) _ hRk
      subst hcs
      have hjr : j % size < (cf ms[j / size]).length := by rw [hc _ (List.getElem_mem hk)]; exact Nat.mod_lt _ h0
      have hj2 : j / size * size + j % size = j := by rw [Nat.mul_comm]; exact Nat.div_add_mod j size
      have hu2 := flat_get ms hc _ hk _ _ (List.getElem?_eq_getElem hjr)
      rw [hj2, hu] at hu2
      have := hcell (j % size) _ (List.getElem?_eq_getElem hjr)
      rw [Nat.add_assoc, hj2] at this
      have e1 : (⟨b, off, none⟩ : Addr).add j = ⟨b, off + j, none⟩ := by unfold Addr.add; by_cases hz : j = 0 <;> simp [hz]
      rw [e1, this, hu2]) (by
      intro u hu
      obtain ⟨y, hy, hu⟩ := List.mem_flatMap.1 hu
      exact h1 y hy u hu) h63 hbytes hbase
    exact ⟨v', w', e1, e2, e3⟩

/-- One append, from a slice that reads as ms. -/
theorem step_app_sl {α : Type} {P : Program} {ops : Array Oper} {o : Oper} {a : Act} {K : Act → World → Prop} {Q : Exit → Act → World → Prop} {E : Prop} {w : World} {t e : TypeId} {z : Value} {size bytes : Nat} (hT : SliceTy P t e z size bytes)
    (s x : Operand) (hgd : o.guard = none) (ho : o.op = .call { callee := .builtin .append, args := #[s, x], argTypes := #[t, t] })
    {base n : Nat} {v : Value} {xs : List Value} (hs : a.eval s = v) (hown : w.ownsRow base e size v n xs)
    {A : Option Addr} {m c B : Nat} {R : α → List Value → Prop} {cf : α → List Value} {ms : List α} (hx : a.eval x = .slice A m c) (hm : ms.length = m) (hr : SlR w B size R A ms) (hR : ∀ y ∈ ms, ∀ cs, R y cs → cs = cf y) (hc : ∀ y ∈ ms, (cf y).length = size) (h1 : ∀ y ∈ ms, ∀ u ∈ cf y, u.oneCell' = true)
    (h63 : n + m ≤ maxLen) (hbytes : (n + m) * bytes ≤ 140737488355328) (hbase : base ≤ w.heap.size)
    (h : ∀ v' w', w'.ownsRow base e size v' (n + m) (xs ++ ms.flatMap cf) → w.grownBy w' v.ownBlock → K (a.put o.dst v') w') : if Region.wanted o (yielded ops a.tmps) = true then Oper.wp P o a w K Q else E := by
  subst hm
  obtain ⟨v', w', e1, e2, e3⟩ := run_app_sl (ty := o.type) (c := c) hT hown hr hR hc h1 h63 hbytes hbase
  exact step_core hgd s x ho hs hx e1 (h v' w' e2 e3)

/-- One append, from a block. -/
theorem step_app {P : Program} {ops : Array Oper} {o : Oper} {a : Act} {K : Act → World → Prop} {Q : Exit → Act → World → Prop} {E : Prop} {w : World} {t e : TypeId} {z : Value} {size bytes : Nat} (hT : SliceTy P t e z size bytes)
    (s x : Operand) (hgd : o.guard = none) (ho : o.op = .call { callee := .builtin .append, args := #[s, x], argTypes := #[t, t] })
    {base n : Nat} {v : Value} {xs : List Value} (hs : a.eval s = v) (hown : w.ownsRow base e size v n xs)
    {g m c : Nat} {e' : TypeId} {news : Array Value} (hx : a.eval x = .slice (some ⟨g, 0, none⟩) m c) (hb : Blk w g e' news) (hl : news.size = m * size) (h1 : ∀ u ∈ news.toList, u.oneCell' = true)
    (h63 : n + m ≤ maxLen) (hbytes : (n + m) * bytes ≤ 140737488355328) (hbase : base ≤ w.heap.size)
    (h : ∀ v' w', w'.ownsRow base e size v' (n + m) (xs ++ news.toList) → w.grownBy w' v.ownBlock → K (a.put o.dst v') w') : if Region.wanted o (yielded ops a.tmps) = true then Oper.wp P o a w K Q else E := by
  obtain ⟨i, ht, hi, hz, hsz, hby, hzs, h0⟩ := hT
  obtain ⟨v', w', e1, e2, e3, _⟩ := run_append_own w base t o.type e i z size bytes ht hi hz hsz hby hzs h0 v n xs hown ⟨g, 0, none⟩ m c news.toList (by simpa using hl) (by
    intro j u hu
    have e1 : (⟨g, 0, none⟩ : Addr).add j = ⟨g, j, none⟩ := by unfold Addr.add; by_cases hj : j = 0 <;> simp [hj]
    rw [e1, hb.cell j]
    simpa using hu) h1 h63 hbytes hbase
  exact step_core hgd s x ho hs hx e1 (h v' w' e2 e3)
end Go.Proofs.YtfloijkagfabpaaGreatDoor
