/-
  A slice of a call's own, of elements of a fixed number of cells: appended to, read.
-/
import Derived.Test.YtngnjlidfhenkaaApp2
import Derived.Test.YtngnjlidfhenkaaMore
namespace Go.Proofs.Ytngnjlidfhenkaa
set_option linter.unusedSimpArgs false
set_option linter.unusedVariables false
set_option linter.unusedSectionVars false
open Go.ChangeShapes Go.WideShapes Go.ChangeAt Go.RowKit Go.Deep

section
variable {α : Type} {e : TypeId} {size : Nat} {c : α → List Value}
def OwnC (e : TypeId) (size : Nat) (c : α → List Value) (B : Nat) (w : World) (v : Value) (l : List α) : Prop := w.ownsRow B e size v l.length (l.flatMap c)
theorem OwnC.nil (B : Nat) (w : World) : OwnC e size c B w (.slice none 0 0) [] := World.ownsRow_nil _ _ _ _
theorem OwnC.alloc {B : Nat} {w : World} {v : Value} {l : List α} (h : OwnC e size c B w v l) (o : Obj) : OwnC e size c B (w.alloc o) v l := World.ownsRow.alloc h o
theorem OwnC.below {B C : Nat} {w w' : World} {v : Value} {l : List α} (h : OwnC e size c B w v l) (hb : Below C w w') (hC : w.heap.size ≤ C) : OwnC e size c B w' v l := own_below h hb hC
theorem OwnC.more {B : Nat} {w : World} {v : Value} {l : List α} (h : OwnC e size c B w v l) (j : Junk) : OwnC e size c B (w.more j) v l := h.below (C := w.heap.size) (Below.moreS (Below.refl _ _) j) (Nat.le_refl _)
theorem OwnC.drew {B : Nat} {w : World} {v : Value} {l : List α} (h : OwnC e size c B w v l) : OwnC e size c B w.drew v l := h
theorem OwnC.read {B : Nat} {w : World} {v : Value} {l : List α} (h : OwnC e size c B w v l) (hc : ∀ x, (c x).length = size) : ∃ a cap, v = .slice a l.length cap ∧ SlR w w.heap.size size (fun x cs => cs = c x) a l := own_slr h (fun x _ => hc x)
theorem OwnC.cap {B : Nat} {w : World} {v : Value} {l : List α} (h : OwnC e size c B w v l) : ∃ a cap, v = .slice a l.length cap ∧ l.length ≤ cap := by
  rcases h.2 with ⟨rfl, hn⟩ | ⟨g, cap, cur, rfl, hg, hh, h3, h4, h5, h6⟩
  · have : l = [] := List.eq_nil_of_length_eq_zero hn
    subst this
    exact ⟨none, 0, rfl, Nat.le_refl _⟩
  · exact ⟨_, cap, rfl, h3⟩
theorem app_c {P : Program} {ops : Array Oper} {rest : List Oper} {o : Oper} {a : Act} {Q : Exit → Act → World → Prop} {w : World} {t : TypeId} {z : Value} {bytes : Nat} (hT : SliceTy P t e z size bytes) (hc : ∀ x, (c x).length = size) (h1 : ∀ x, ∀ u ∈ c x, u.oneCell' = true) (hby : bytes ≤ 1000)
    (s x : Operand) (hgd : o.guard = none) (ho : o.op = .call { callee := .builtin .append, args := #[s, x], argTypes := #[t, t] })
    {B : Nat} {v : Value} {l : List α} {y : α} (hs : a.eval s = v) (hown : OwnC e size c B w v l)
    {g cc : Nat} {e' : TypeId} {news : Array Value} (hx : a.eval x = .slice (some ⟨g, 0, none⟩) 1 cc) (hb : Blk w g e' news) (hn : news.toList = c y)
    (hl : l.length + 1 ≤ 1048576) (hB : B ≤ w.heap.size)
    (h : ∀ v' w', OwnC e size c B w' v' (l ++ [y]) → Below B w w' → wpList P ops Q rest (a.put o.dst v') w') : wpList P ops Q (o :: rest) a w := by
  have hsz : news.size = 1 * size := by rw [Nat.one_mul, ← Array.length_toList, hn, hc]
  refine wpList_app hT s x hgd ho hs hown hx hb hsz (by rw [hn]; exact h1 y) (by unfold maxLen; omega) (by
    have : (l.length + 1) * bytes ≤ 1048576 * 1000 := Nat.mul_le_mul hl hby
    omega) hB (fun v' w' g1 g2 => h v' w' ?_ (own_grown (Below.refl B w) hown g2 (Nat.le_refl _) hB))
  unfold OwnC
  rw [List.flatMap_append, List.length_append, List.flatMap_singleton, ← hn]
  exact g1
end
end Go.Proofs.Ytngnjlidfhenkaa
