/-
  Faults: a whole row appended to an own one.
-/
import Derived.Test.YtamklaehaadiaaaDoorFlt8
namespace Go.Proofs.YtamklaehaadiaaaDoor
set_option linter.unusedSimpArgs false
set_option linter.unusedVariables false
set_option linter.unusedSectionVars false
open Go.ChangeShapes Go.WideShapes Go.ChangeAt Go.RowKit Go.Deep Go.Shelf

theorem app_fls {ops : Array Oper} {rest : List Oper} {o : Oper} {a : Act} {Q : Exit → Act → World → Prop} {w : World}
    (s x : Operand) (hgd : o.guard = none) (ho : o.op = .call { callee := .builtin .append, args := #[s, x], argTypes := #[22, 22] })
    {B : Nat} {v : Value} {l m : List Fl} (hs : a.eval s = v) (hown : OwnFl B w v l)
    {A : Option Addr} {c : Nat} (hx : a.eval x = .slice A m.length c) (hm : SlFl w w.heap.size A m)
    (hl : l.length + m.length ≤ 1048576) (hB : B ≤ w.heap.size)
    (h : ∀ v' w', OwnFl B w' v' (l ++ m) → Below B w w' → wpList Tryd.prog ops Q rest (a.put o.dst v') w') : wpList Tryd.prog ops Q (o :: rest) a w := by
  obtain ⟨v', w', hr, h2, h3⟩ := run_app_sl (ty := o.type) (c := c) st_fl hown (cf := Fl.cells) hm (fun _ _ _ h => h) (fun _ _ => rfl) (fun y _ => flC_one y) (by unfold maxLen; omega) (by omega) hB
  refine wpList_plain hgd fun K hK => ?_
  unfold Oper.wp execOp
  simp only [ho, resolve, invoke, builtin, Sem.run_bind, Sem.run_pure, Result.andThen_ok, List.map_toArray, List.map_cons, List.map_nil, hs, hx, hr]
  refine hK _ _ (h v' w' ?_ (own_grown (Below.refl B w) hown h3 (Nat.le_refl _) hB))
  unfold OwnFl OwnC
  rw [List.flatMap_append, List.length_append]
  exact h2
end Go.Proofs.YtamklaehaadiaaaDoor
