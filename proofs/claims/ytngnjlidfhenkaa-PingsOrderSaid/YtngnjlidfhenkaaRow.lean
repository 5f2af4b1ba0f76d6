/-
  Rows of any elements: whole rows and single elements appended, all other blocks kept.
-/
import Derived.Test.YtngnjlidfhenkaaOwn
namespace Go.Proofs.Ytngnjlidfhenkaa
set_option linter.unusedSimpArgs false
set_option linter.unusedVariables false
set_option linter.unusedSectionVars false
open Go.ChangeShapes Go.WideShapes Go.ChangeAt Go.RowKit Go.Deep

section
variable {α : Type} {e : TypeId} {size : Nat} {c : α → List Value}
theorem OwnC.empty (w : World) : OwnC e size c w.heap.size (w.alloc (.cells #[] e)) (.slice (some ⟨w.heap.size, 0, none⟩) 0 0) [] :=
  World.ownsRow_made (base := w.heap.size) (size := size) (e := e) w _ _ (Nat.le_refl _) (by unfold maxLen; omega) (by simp)
theorem OwnC.grown {B : Nat} {w w' : World} {v : Value} {l : List α} {row : Option Nat} (h : OwnC e size c B w v l) (hg : w.grownBy w' row) (hne : v.ownBlock = none ∨ v.ownBlock ≠ row) : OwnC e size c B w' v l := World.ownsRow.kept h hg hne
theorem OwnC.lt {B : Nat} {w : World} {v : Value} {l : List α} (h : OwnC e size c B w v l) : ∀ k, v.ownBlock = some k → B ≤ k ∧ k < w.heap.size := World.ownsRow.lt h
theorem OwnC.base {B B' : Nat} {w : World} {v : Value} {l : List α} (h : OwnC e size c B w v l) (hB : B' ≤ B) : OwnC e size c B' w v l := by
  have h0 : w.ownsRow B e size v l.length (l.flatMap c) := h
  refine ⟨h0.1, ?_⟩
  rcases h0.2 with ⟨h1, h2⟩ | ⟨g, cap, cur, h1, hg, h3⟩
  · exact .inl ⟨h1, h2⟩
  · exact .inr ⟨g, cap, cur, h1, Nat.le_trans hB hg, h3⟩
theorem app_rows {P : Program} {ops : Array Oper} {rest : List Oper} {o : Oper} {a : Act} {Q : Exit → Act → World → Prop} {w : World} {t : TypeId} {z : Value} {bytes : Nat} (hT : SliceTy P t e z size bytes) (hc : ∀ x, (c x).length = size) (h1 : ∀ x, ∀ u ∈ c x, u.oneCell' = true) (hby : bytes ≤ 1000)
    (s x : Operand) (hgd : o.guard = none) (ho : o.op = .call { callee := .builtin .append, args := #[s, x], argTypes := #[t, t] })
    {B : Nat} {v : Value} {l m : List α} (hs : a.eval s = v) (hown : OwnC e size c B w v l)
    {A : Option Addr} {cc : Nat} (hx : a.eval x = .slice A m.length cc) (hm : SlR w w.heap.size size (fun x cs => cs = c x) A m)
    (hl : l.length + m.length ≤ 1048576) (hB : B ≤ w.heap.size)
    (h : ∀ v' w', OwnC e size c B w' v' (l ++ m) → w.grownBy w' v.ownBlock → wpList P ops Q rest (a.put o.dst v') w') : wpList P ops Q (o :: rest) a w := by
  obtain ⟨v', w', hr, h2, h3⟩ := run_app_sl (ty := o.type) (c := cc) hT hown (cf := c) hm (fun _ _ _ h => h) (fun y _ => hc y) (fun y _ => h1 y) (by unfold maxLen; omega) (by
    have : (l.length + m.length) * bytes ≤ 1048576 * 1000 := Nat.mul_le_mul hl hby
    omega) hB
  refine wpList_plain hgd fun K hK => ?_
  unfold Oper.wp execOp
  simp only [ho, resolve, invoke, builtin, Sem.run_bind, Sem.run_pure, Result.andThen_ok, List.map_toArray, List.map_cons, List.map_nil, hs, hx, hr]
  refine hK _ _ (h v' w' ?_ h3)
  unfold OwnC
  rw [List.flatMap_append, List.length_append]
  exact h2
theorem app_one {P : Program} {ops : Array Oper} {rest : List Oper} {o : Oper} {a : Act} {Q : Exit → Act → World → Prop} {w : World} {t : TypeId} {z : Value} {bytes : Nat} (hT : SliceTy P t e z size bytes) (hc : ∀ x, (c x).length = size) (h1 : ∀ x, ∀ u ∈ c x, u.oneCell' = true) (hby : bytes ≤ 1000)
    (s x : Operand) (hgd : o.guard = none) (ho : o.op = .call { callee := .builtin .append, args := #[s, x], argTypes := #[t, t] })
    {B : Nat} {v : Value} {l : List α} {y : α} (hs : a.eval s = v) (hown : OwnC e size c B w v l)
    {g cc : Nat} {e' : TypeId} {news : Array Value} (hx : a.eval x = .slice (some ⟨g, 0, none⟩) 1 cc) (hb : Blk w g e' news) (hn : news.toList = c y)
    (hl : l.length + 1 ≤ 1048576) (hB : B ≤ w.heap.size)
    (h : ∀ v' w', OwnC e size c B w' v' (l ++ [y]) → w.grownBy w' v.ownBlock → wpList P ops Q rest (a.put o.dst v') w') : wpList P ops Q (o :: rest) a w := by
  have hsz : news.size = 1 * size := by rw [Nat.one_mul, ← Array.length_toList, hn, hc]
  refine wpList_app hT s x hgd ho hs hown hx hb hsz (by rw [hn]; exact h1 y) (by unfold maxLen; omega) (by
    have : (l.length + 1) * bytes ≤ 1048576 * 1000 := Nat.mul_le_mul hl hby
    omega) hB (fun v' w' g1 g2 => h v' w' ?_ g2)
  unfold OwnC
  rw [List.flatMap_append, List.length_append, List.flatMap_singleton, ← hn]
  exact g1
theorem step_rows {P : Program} {ops : Array Oper} {o : Oper} {a : Act} {K : Act → World → Prop} {Q : Exit → Act → World → Prop} {E : Prop} {w : World} {t : TypeId} {z : Value} {bytes : Nat} (hT : SliceTy P t e z size bytes) (hc : ∀ x, (c x).length = size) (h1 : ∀ x, ∀ u ∈ c x, u.oneCell' = true) (hby : bytes ≤ 1000)
    (s x : Operand) (hgd : o.guard = none) (ho : o.op = .call { callee := .builtin .append, args := #[s, x], argTypes := #[t, t] })
    {B : Nat} {v : Value} {l m : List α} (hs : a.eval s = v) (hown : OwnC e size c B w v l)
    {A : Option Addr} {n cc : Nat} (hx : a.eval x = .slice A n cc) (hn : m.length = n) (hm : SlR w w.heap.size size (fun x cs => cs = c x) A m)
    (hl : l.length + m.length ≤ 1048576) (hB : B ≤ w.heap.size)
    (h : ∀ v' w', OwnC e size c B w' v' (l ++ m) → w.grownBy w' v.ownBlock → K (a.put o.dst v') w') : if Region.wanted o (yielded ops a.tmps) = true then Oper.wp P o a w K Q else E := by
  subst hn
  refine step_app_sl hT s x hgd ho hs hown hx rfl hm (cf := c) (fun _ _ _ h => h) (fun y _ => hc y) (fun y _ => h1 y) (by unfold maxLen; omega) (by
    have : (l.length + m.length) * bytes ≤ 1048576 * 1000 := Nat.mul_le_mul hl hby
    omega) hB (fun v' w' g1 g2 => h v' w' ?_ g2)
  unfold OwnC
  rw [List.flatMap_append, List.length_append]
  exact g1
end
end Go.Proofs.Ytngnjlidfhenkaa
