/-
  A region that draws its order, in which one block is written and all else only grows.
-/
import Derived.Test.YtngnjlidfhenkaaQm
import Derived.Deep.RegionHeld3
import Derived.Maps.AppendAt
namespace Go.Proofs.Ytngnjlidfhenkaa
set_option linter.unusedSimpArgs false
set_option linter.unusedVariables false
set_option linter.unusedSectionVars false
open Go.ChangeShapes Go.WideShapes Go.ChangeAt Go.RowKit Go.Deep

section
variable {P : Program} {ops : Array Oper} {Q : Exit → Act → World → Prop} {md : Region.Mode} {mb : Nat}
def Gm (mb : Nat) (w w' : World) : Prop := w.grownBy w' (some mb)
theorem Gm.refl (w : World) : Gm mb w w := World.grownBy.refl w _
theorem Gm.cell {w w' : World} (h : Gm mb w w') (b o : Nat) (hb : b < w.heap.size) (hne : b ≠ mb) : w'.cell? ⟨b, o, none⟩ = w.cell? ⟨b, o, none⟩ :=
  World.cell?_of_block (h.block b hb (by simpa using hne))
theorem gm_mono {S S' : World → Prop} (hS : ∀ w, S' w → S w) : ∀ (fuel : Nat) (listed : Array Bool) (a : Act) (w : World), wpAnyH P md ops Q S' fuel listed a w → wpAnyH P md ops Q S fuel listed a w
  | 0, _, _, _, h => h
  | fuel + 1, listed, a, w, h => ⟨h.1, fun i hi => wpOp_mono (fun a' w' h' => ⟨hS _ h'.1, gm_mono hS fuel _ a' w' h'.2⟩) (h.2 i hi)⟩
theorem gm_start {id : Nat} {a : Act} {w : World} (mb : Nat) (hm : P.follows .mixedOrders = true)
    (h : wpAnyH P .any ops Q (Gm mb w.drew) ops.size (Array.replicate ops.size false) a w.drew) : (Code.region id ops true).wp P Q a w :=
  wp_region_held_drew hm (Gm.refl _) (fun _ => h)
theorem gm_take (i : Nat) {oi : Oper} {v : Value} {fuel : Nat} {listed : Array Bool} {a : Act} {w : World} (hi : ops[i]? = some oi)
    (hs : Region.noSelect ops = true) (hf : Region.free md ops listed i = true) (hr : (Region.ready md ops listed).contains i = true)
    (hQ : ∀ c a w, Q (.panic c) (a.put oi.dst v) w → Q (.panic c) a w) (hy : YieldsIf P ops (Gm mb w) oi v a)
    (h : wpAnyH P md ops Q (Gm mb w) fuel (listed.setIfInBounds i true) (a.put oi.dst v) w) : wpAnyH P md ops Q (Gm mb w) (fuel + 1) listed a w :=
  wpAnyH_take hi hs hf hr hQ hy (Gm.refl _) h
theorem gm_one {i : Nat} {o : Oper} {fuel : Nat} {listed : Array Bool} {a : Act} {w : World} (ho : ops[i]? = some o)
    (h : ∀ K' : Act → World → Prop, Shut (∀ a' w', Gm mb w w' → wpAnyH P md ops Q (Gm mb w') fuel (listed.setIfInBounds i true) a' w' → K' a' w') → if Region.wanted o (yielded ops a.tmps) = true then Oper.wp P o a w K' Q else K' (a.put o.dst undef) w)
    {rs : List Nat} (hrs : AllReadyH P md ops Q (Gm mb w) fuel listed a w rs) : AllReadyH P md ops Q (Gm mb w) fuel listed a w (i :: rs) :=
  AllReadyH.cons ho (fun K' hK => h K' (fun a' w' hg hw => hK.out a' w' hg (fun _ => gm_mono (fun w2 h2 => hg.trans h2) _ _ _ _ hw))) hrs
theorem gm_step (i : Nat) {o : Oper} {fuel : Nat} {listed : Array Bool} {a : Act} {w : World} (hr : Region.ready md ops listed = [i]) (ho : ops[i]? = some o)
    (h : ∀ K' : Act → World → Prop, Shut (∀ a' w', Gm mb w w' → wpAnyH P md ops Q (Gm mb w') fuel (listed.setIfInBounds i true) a' w' → K' a' w') → if Region.wanted o (yielded ops a.tmps) = true then Oper.wp P o a w K' Q else K' (a.put o.dst undef) w) :
    wpAnyH P md ops Q (Gm mb w) (fuel + 1) listed a w :=
  wpAnyH_ready hr (by simp) (gm_one ho h AllReadyH.nil)
theorem gm_two (i j : Nat) {o p : Oper} {fuel : Nat} {listed : Array Bool} {a : Act} {w : World} (hr : Region.ready md ops listed = [i, j]) (ho : ops[i]? = some o) (hp : ops[j]? = some p)
    (h : ∀ K' : Act → World → Prop, Shut (∀ a' w', Gm mb w w' → wpAnyH P md ops Q (Gm mb w') fuel (listed.setIfInBounds i true) a' w' → K' a' w') → if Region.wanted o (yielded ops a.tmps) = true then Oper.wp P o a w K' Q else K' (a.put o.dst undef) w)
    (h2 : ∀ K' : Act → World → Prop, Shut (∀ a' w', Gm mb w w' → wpAnyH P md ops Q (Gm mb w') fuel (listed.setIfInBounds j true) a' w' → K' a' w') → if Region.wanted p (yielded ops a.tmps) = true then Oper.wp P p a w K' Q else K' (a.put p.dst undef) w) :
    wpAnyH P md ops Q (Gm mb w) (fuel + 1) listed a w :=
  wpAnyH_ready hr (by simp) (gm_one ho h (gm_one hp h2 AllReadyH.nil))
end
/-! A region in which nothing floats but what asks no world. -/
section
variable {P : Program} {ops : Array Oper} {Q : Exit → Act → World → Prop} {md : Region.Mode}
theorem gt_start {id : Nat} {a : Act} {w : World} (hm : P.follows .mixedOrders = true)
    (h : wpAnyH P .any ops Q (fun _ => True) ops.size (Array.replicate ops.size false) a w.drew) : (Code.region id ops true).wp P Q a w :=
  wp_region_held_drew hm trivial (fun _ => h)
theorem gt_take (i : Nat) {oi : Oper} {v : Value} {fuel : Nat} {listed : Array Bool} {a : Act} {w : World} (hi : ops[i]? = some oi)
    (hs : Region.noSelect ops = true) (hf : Region.free md ops listed i = true) (hr : (Region.ready md ops listed).contains i = true)
    (hQ : ∀ c a w, Q (.panic c) (a.put oi.dst v) w → Q (.panic c) a w) (hy : YieldsIf P ops (fun _ => True) oi v a)
    (h : wpAnyH P md ops Q (fun _ => True) fuel (listed.setIfInBounds i true) (a.put oi.dst v) w) : wpAnyH P md ops Q (fun _ => True) (fuel + 1) listed a w :=
  wpAnyH_take hi hs hf hr hQ hy trivial h
theorem gt_step (i : Nat) {o : Oper} {fuel : Nat} {listed : Array Bool} {a : Act} {w : World} (hr : Region.ready md ops listed = [i]) (ho : ops[i]? = some o)
    (h : ∀ K' : Act → World → Prop, Shut (∀ a' w', wpAnyH P md ops Q (fun _ => True) fuel (listed.setIfInBounds i true) a' w' → K' a' w') → if Region.wanted o (yielded ops a.tmps) = true then Oper.wp P o a w K' Q else K' (a.put o.dst undef) w) :
    wpAnyH P md ops Q (fun _ => True) (fuel + 1) listed a w :=
  wpAnyH_ready hr (by simp) (AllReadyH.cons ho (fun K' hK => h K' (fun a' w' hw => hK.out a' w' trivial (fun _ => hw))) AllReadyH.nil)
end
/-! Steps whose run is known. -/
section
variable {P : Program} {ops : Array Oper} {o : Oper} {a : Act} {K : Act → World → Prop} {Q : Exit → Act → World → Prop} {E : Prop} {w w' : World}
theorem step_look {t : TypeId} {m x : Operand} {vm vx v : Value} (hw : Region.wanted o (yielded ops a.tmps) = true) (ho : o.op = .lookup t m x false) (hm : a.eval m = vm) (hx : a.eval x = vx)
    (hrun : (Instr.lookup t vm vx false).run P w = .ok v w') (h : K (a.put o.dst v) w') : if Region.wanted o (yielded ops a.tmps) = true then Oper.wp P o a w K Q else E := by
  rw [if_pos hw]
  unfold Oper.wp
  simp [execOp, ho, hm, hx, hrun, Result.andThen]
  exact h
theorem step_entry {t : TypeId} {m x : Operand} {vm vx v : Value} (hw : Region.wanted o (yielded ops a.tmps) = true) (ho : o.op = .mapEntry t m x) (hm : a.eval m = vm) (hx : a.eval x = vx)
    (hrun : (Instr.mapEntry t vm vx).run P w = .ok v w') (h : K (a.put o.dst v) w') : if Region.wanted o (yielded ops a.tmps) = true then Oper.wp P o a w K Q else E := by
  rw [if_pos hw]
  unfold Oper.wp
  simp [execOp, ho, hm, hx, hrun, Result.andThen]
  exact h
theorem step_estore {t : TypeId} {m s x : Operand} {vm vs vx : Value} (hw : Region.wanted o (yielded ops a.tmps) = true) (ho : o.op = .entryStore t m s x) (hm : a.eval m = vm) (hs : a.eval s = vs) (hx : a.eval x = vx)
    (hrun : (Instr.entryStore t vm vs vx).run P w = .ok () w') (h : K (a.put o.dst undef) w') : if Region.wanted o (yielded ops a.tmps) = true then Oper.wp P o a w K Q else E := by
  rw [if_pos hw]
  unfold Oper.wp
  simp [execOp, ho, hm, hs, hx, hrun, Result.andThen]
  exact h
theorem step_delete {t k : TypeId} {m x : Operand} {vm vx : Value} (hw : Region.wanted o (yielded ops a.tmps) = true) (ho : o.op = .call { callee := .builtin .delete, args := #[m, x], argTypes := #[t, k] }) (hm : a.eval m = vm) (hx : a.eval x = vx)
    (hrun : (Builtin.delete_ #[t, k] o.type #[vm, vx]).run P w = .ok (.tuple #[]) w') (h : K (a.put o.dst (.tuple #[])) w') : if Region.wanted o (yielded ops a.tmps) = true then Oper.wp P o a w K Q else E := by
  rw [if_pos hw]
  unfold Oper.wp
  simp [execOp, ho, resolve, invoke, builtin, hm, hx, hrun, Result.andThen]
  exact h
end
end Go.Proofs.Ytngnjlidfhenkaa
