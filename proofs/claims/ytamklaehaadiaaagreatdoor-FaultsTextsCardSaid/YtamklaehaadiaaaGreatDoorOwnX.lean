/-
  Rows of texts that the call itself has built.
-/
import Derived.Test.YtamklaehaadiaaaGreatDoorLine1
import Derived.Test.YtamklaehaadiaaaGreatDoorApp2
namespace Go.Proofs.YtamklaehaadiaaaGreatDoor
set_option linter.unusedSimpArgs false
set_option linter.unusedVariables false
set_option linter.unusedSectionVars false
open Go.ChangeShapes Go.WideShapes Go.ChangeAt Go.RowKit Go.Deep Go.Shelf

theorem st_texts : SliceTy Tryz.prog 42 9 (.string .empty) 1 16 := .mk' Tryz.underlying42 (by kernel_rfl) rfl (by omega)
def OwnX (B : Nat) (w : World) (v : Value) (l : List (List UInt8)) : Prop := w.ownsRow B 9 1 v l.length (l.map bstr)
theorem OwnX.nil (B : Nat) (w : World) : OwnX B w (.slice none 0 0) [] := World.ownsRow_nil _ _ _ _
theorem OwnX.alloc {B : Nat} {w : World} {v : Value} {l : List (List UInt8)} (h : OwnX B w v l) (o : Obj) : OwnX B (w.alloc o) v l := World.ownsRow.alloc h o
theorem OwnX.below {B C : Nat} {w w' : World} {v : Value} {l : List (List UInt8)} (h : OwnX B w v l) (hb : Below C w w') (hC : w.heap.size ≤ C) : OwnX B w' v l := own_below h hb hC
theorem OwnX.read {B : Nat} {w : World} {v : Value} {l : List (List UInt8)} (h : OwnX B w v l) (hl : ∀ x ∈ l, x.length ≤ maxLen) : ∃ a cap, v = .slice a l.length cap ∧ SlX w w.heap.size a l := by
  have e : l.map bstr = l.flatMap (fun s => [bstr s]) := by clear h hl; induction l <;> simp_all
  unfold OwnX at h
  rw [e] at h
  obtain ⟨a, cap, hv, hs⟩ := own_slr h (fun _ _ => rfl)
  exact ⟨a, cap, hv, hs.mono (Nat.le_refl _) (fun x hx cs hc => ⟨hc, hl x hx⟩)⟩
theorem OwnX.cap {B : Nat} {w : World} {v : Value} {l : List (List UInt8)} (h : OwnX B w v l) : ∃ a cap, v = .slice a l.length cap ∧ l.length ≤ cap := by
  have h0 : w.ownsRow B 9 1 v l.length (l.map bstr) := h
  rcases h0.2 with ⟨rfl, hn⟩ | ⟨g, cap, cur, rfl, hg, hh, h3, h4, h5, h6⟩
  · have : l = [] := List.eq_nil_of_length_eq_zero hn
    subst this
    exact ⟨none, 0, rfl, Nat.le_refl _⟩
  · exact ⟨_, cap, rfl, h3⟩
theorem app_text {ops : Array Oper} {rest : List Oper} {o : Oper} {a : Act} {Q : Exit → Act → World → Prop} {w : World}
    (s x : Operand) (hgd : o.guard = none) (ho : o.op = .call { callee := .builtin .append, args := #[s, x], argTypes := #[42, 42] })
    {B : Nat} {v : Value} {l : List (List UInt8)} {c : List UInt8} (hs : a.eval s = v) (hown : OwnX B w v l)
    {g cc : Nat} {e' : TypeId} (hx : a.eval x = .slice (some ⟨g, 0, none⟩) 1 cc) (hb : Blk w g e' #[bstr c])
    (hl : l.length + 1 ≤ 1048576) (hB : B ≤ w.heap.size)
    (h : ∀ v' w', OwnX B w' v' (l ++ [c]) → Below B w w' → wpList Tryz.prog ops Q rest (a.put o.dst v') w') : wpList Tryz.prog ops Q (o :: rest) a w := by
  refine wpList_app st_texts s x hgd ho hs hown hx hb rfl (by intro u hu; simp at hu; subst hu; rfl) (by unfold maxLen; omega) (by omega) hB (fun v' w' h1 h2 => h v' w' ?_ (own_grown (Below.refl B w) hown h2 (Nat.le_refl _) hB))
  unfold OwnX
  rw [List.map_append, List.length_append]
  exact h1
theorem pre_pre (p q : List UInt8) (l : List (List UInt8)) : preF p (preF q l) = preF (p ++ q) l := by cases l <;> simp [preF]
end Go.Proofs.YtamklaehaadiaaaGreatDoor
