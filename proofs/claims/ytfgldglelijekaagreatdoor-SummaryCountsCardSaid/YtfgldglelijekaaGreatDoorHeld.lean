/-
  A region that draws its order, whose operations only make memory: the loads are taken first as soon as their cells are known; what is known grows with the world.
-/
import Derived.Test.YtfgldglelijekaaGreatDoorMa
import Derived.Deep.RegionHeld3
namespace Go.Proofs.YtfgldglelijekaaGreatDoor
set_option linter.unusedSimpArgs false
set_option linter.unusedVariables false
set_option linter.unusedSectionVars false
open Go.ChangeShapes Go.WideShapes Go.ChangeAt Go.RowKit Go.Deep

section
variable {P : Program} {ops : Array Oper} {Q : Exit → Act → World → Prop} {md : Region.Mode}
def Grown (w w' : World) : Prop := Below w.heap.size w w'
theorem Grown.cell {w w' : World} (h : Grown w w') (b o : Nat) (hb : b < w.heap.size) : w'.cell? ⟨b, o, none⟩ = w.cell? ⟨b, o, none⟩ := Below.cell (p := ⟨b, o, none⟩) h hb
theorem wpAnyH_mono {S S' : World → Prop} (hS : ∀ w, S' w → S w) : ∀ (fuel : Nat) (listed : Array Bool) (a : Act) (w : World), wpAnyH P md ops Q S' fuel listed a w → wpAnyH P md ops Q S fuel listed a w
  | 0, _, _, _, h => h
  | fuel + 1, listed, a, w, h => ⟨h.1, fun i hi => wpOp_mono (fun a' w' h' => ⟨hS _ h'.1, wpAnyH_mono hS fuel _ a' w' h'.2⟩) (h.2 i hi)⟩
theorem grown_start {id : Nat} {a : Act} {w : World} (hm : P.follows .mixedOrders = true)
    (h : wpAnyH P .any ops Q (Grown w.drew) ops.size (Array.replicate ops.size false) a w.drew) : (Code.region id ops true).wp P Q a w :=
  wp_region_held_drew hm (Below.refl _ _) (fun _ => h)
theorem grown_take (i : Nat) {oi : Oper} {v : Value} {fuel : Nat} {listed : Array Bool} {a : Act} {w : World} (hi : ops[i]? = some oi)
    (hs : Region.noSelect ops = true) (hf : Region.free md ops listed i = true) (hr : (Region.ready md ops listed).contains i = true)
    (hQ : ∀ c a w, Q (.panic c) (a.put oi.dst v) w → Q (.panic c) a w) (hy : YieldsIf P ops (Grown w) oi v a)
    (h : wpAnyH P md ops Q (Grown w) fuel (listed.setIfInBounds i true) (a.put oi.dst v) w) : wpAnyH P md ops Q (Grown w) (fuel + 1) listed a w :=
  wpAnyH_take hi hs hf hr hQ hy (Below.refl _ _) h
theorem grown_step (i : Nat) {o : Oper} {fuel : Nat} {listed : Array Bool} {a : Act} {w : World} (hr : Region.ready md ops listed = [i]) (ho : ops[i]? = some o)
    (h : ∀ K' : Act → World → Prop, Shut (∀ a' w', Grown w w' → wpAnyH P md ops Q (Grown w') fuel (listed.setIfInBounds i true) a' w' → K' a' w') → if Region.wanted o (yielded ops a.tmps) = true then Oper.wp P o a w K' Q else K' (a.put o.dst undef) w) :
    wpAnyH P md ops Q (Grown w) (fuel + 1) listed a w :=
  wpAnyH_ready hr (by simp) (AllReadyH.cons ho (fun K' hK => h K' (fun a' w' hg hw => hK.out a' w' hg (fun _ => wpAnyH_mono (fun w2 h2 => hg.trans (h2.mono (Below.size hg))) _ _ _ _ hw))) AllReadyH.nil)
theorem grown_undrew {w w' : World} (h : Below w.heap.size w w') : Below w.drew.heap.size w.drew w' := ⟨h.os, h.tape, h.output, h.size, h.block⟩
theorem grown_app (w : World) (j k : Junk) (x : Array Obj) (h : k.heap = j.heap ++ x) : Below (w.more j).heap.size (w.more j) (w.more k) := by
  have := Below.moreS (Below.refl (w.more j).heap.size (w.more j)) ⟨x, k.drawn⟩
  rw [World.more_more, ← h] at this
  exact this
theorem grown_merge (w : World) (j : Junk) (x : Array Obj) (d : Nat) : Below (w.more j).heap.size (w.more j) (w.more ⟨j.heap ++ x, d⟩) := grown_app w j _ x rfl
theorem grown_merge2 (w : World) (a b c : Array Obj) (d e : Nat) : Below (w.more ⟨a ++ b, d⟩).heap.size (w.more ⟨a ++ b, d⟩) (w.more ⟨a ++ (b ++ c), e⟩) := grown_app w _ _ c (by simp [Array.append_assoc])
theorem grown_merge3 (w : World) (a b c x : Array Obj) (d e : Nat) : Below (w.more ⟨a ++ (b ++ c), d⟩).heap.size (w.more ⟨a ++ (b ++ c), d⟩) (w.more ⟨a ++ (b ++ (c ++ x)), e⟩) := grown_app w _ _ x (by simp [Array.append_assoc])
end
end Go.Proofs.YtfgldglelijekaaGreatDoor
