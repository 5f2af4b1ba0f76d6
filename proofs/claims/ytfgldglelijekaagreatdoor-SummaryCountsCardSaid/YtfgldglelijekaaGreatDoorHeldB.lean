/-
  A region that draws its order, in which all below a fixed block number stays.
-/
import Derived.Test.YtfgldglelijekaaGreatDoorMa
import Derived.Deep.RegionHeld3
import Derived.Deep.MidRow
namespace Go.Proofs.YtfgldglelijekaaGreatDoor
set_option linter.unusedSimpArgs false
set_option linter.unusedVariables false
set_option linter.unusedSectionVars false
open Go.ChangeShapes Go.WideShapes Go.ChangeAt Go.RowKit Go.Deep

section
variable {P : Program} {ops : Array Oper} {Q : Exit → Act → World → Prop} {md : Region.Mode} {B : Nat}
def Gb (B : Nat) (w w' : World) : Prop := Below B w w'
theorem Gb.cell {w w' : World} (h : Gb B w w') (b o : Nat) (hb : b < B) : w'.cell? ⟨b, o, none⟩ = w.cell? ⟨b, o, none⟩ := Below.cell (p := ⟨b, o, none⟩) h hb
theorem gb_mono {S S' : World → Prop} (hS : ∀ w, S' w → S w) : ∀ (fuel : Nat) (listed : Array Bool) (a : Act) (w : World), wpAnyH P md ops Q S' fuel listed a w → wpAnyH P md ops Q S fuel listed a w
  | 0, _, _, _, h => h
  | fuel + 1, listed, a, w, h => ⟨h.1, fun i hi => wpOp_mono (fun a' w' h' => ⟨hS _ h'.1, gb_mono hS fuel _ a' w' h'.2⟩) (h.2 i hi)⟩
theorem gb_start {id : Nat} {a : Act} {w : World} (B : Nat) (hm : P.follows .mixedOrders = true)
    (h : wpAnyH P .any ops Q (Gb B w.drew) ops.size (Array.replicate ops.size false) a w.drew) : (Code.region id ops true).wp P Q a w :=
  wp_region_held_drew hm (Below.refl _ _) (fun _ => h)
theorem gb_take (i : Nat) {oi : Oper} {v : Value} {fuel : Nat} {listed : Array Bool} {a : Act} {w : World} (hi : ops[i]? = some oi)
    (hs : Region.noSelect ops = true) (hf : Region.free md ops listed i = true) (hr : (Region.ready md ops listed).contains i = true)
    (hQ : ∀ c a w, Q (.panic c) (a.put oi.dst v) w → Q (.panic c) a w) (hy : YieldsIf P ops (Gb B w) oi v a)
    (h : wpAnyH P md ops Q (Gb B w) fuel (listed.setIfInBounds i true) (a.put oi.dst v) w) : wpAnyH P md ops Q (Gb B w) (fuel + 1) listed a w :=
  wpAnyH_take hi hs hf hr hQ hy (Below.refl _ _) h
theorem gb_step (i : Nat) {o : Oper} {fuel : Nat} {listed : Array Bool} {a : Act} {w : World} (hr : Region.ready md ops listed = [i]) (ho : ops[i]? = some o)
    (h : ∀ K' : Act → World → Prop, Shut (∀ a' w', Gb B w w' → wpAnyH P md ops Q (Gb B w') fuel (listed.setIfInBounds i true) a' w' → K' a' w') → if Region.wanted o (yielded ops a.tmps) = true then Oper.wp P o a w K' Q else K' (a.put o.dst undef) w) :
    wpAnyH P md ops Q (Gb B w) (fuel + 1) listed a w :=
  wpAnyH_ready hr (by simp) (AllReadyH.cons ho (fun K' hK => h K' (fun a' w' hg hw => hK.out a' w' hg (fun _ => gb_mono (fun w2 h2 => Below.trans hg h2) _ _ _ _ hw))) AllReadyH.nil)
theorem gb_one {i : Nat} {o : Oper} {fuel : Nat} {listed : Array Bool} {a : Act} {w : World} (ho : ops[i]? = some o)
    (h : ∀ K' : Act → World → Prop, Shut (∀ a' w', Gb B w w' → wpAnyH P md ops Q (Gb B w') fuel (listed.setIfInBounds i true) a' w' → K' a' w') → if Region.wanted o (yielded ops a.tmps) = true then Oper.wp P o a w K' Q else K' (a.put o.dst undef) w)
    {rs : List Nat} (hrs : AllReadyH P md ops Q (Gb B w) fuel listed a w rs) : AllReadyH P md ops Q (Gb B w) fuel listed a w (i :: rs) :=
  AllReadyH.cons ho (fun K' hK => h K' (fun a' w' hg hw => hK.out a' w' hg (fun _ => gb_mono (fun w2 h2 => Below.trans hg h2) _ _ _ _ hw))) hrs
theorem gb_two (i j : Nat) {o p : Oper} {fuel : Nat} {listed : Array Bool} {a : Act} {w : World} (hr : Region.ready md ops listed = [i, j]) (ho : ops[i]? = some o) (hp : ops[j]? = some p)
    (h : ∀ K' : Act → World → Prop, Shut (∀ a' w', Gb B w w' → wpAnyH P md ops Q (Gb B w') fuel (listed.setIfInBounds i true) a' w' → K' a' w') → if Region.wanted o (yielded ops a.tmps) = true then Oper.wp P o a w K' Q else K' (a.put o.dst undef) w)
    (h2 : ∀ K' : Act → World → Prop, Shut (∀ a' w', Gb B w w' → wpAnyH P md ops Q (Gb B w') fuel (listed.setIfInBounds j true) a' w' → K' a' w') → if Region.wanted p (yielded ops a.tmps) = true then Oper.wp P p a w K' Q else K' (a.put p.dst undef) w) :
    wpAnyH P md ops Q (Gb B w) (fuel + 1) listed a w :=
  wpAnyH_ready hr (by simp) (gb_one ho h (gb_one hp h2 AllReadyH.nil))
/-- A whole row, loaded early: it lies below what may change. -/
theorem gb_load (i : Nat) {oi : Oper} {fuel : Nat} {listed : Array Bool} {a : Act} {w : World} (hi : ops[i]? = some oi)
    (hs : Region.noSelect ops = true) (hf : Region.free md ops listed i = true) (hr : (Region.ready md ops listed).contains i = true)
    (ty : TypeId) (x : Operand) (cs : Array Value) (hQ : ∀ c a w, Q (.panic c) (a.put oi.dst (.agg cs)) w → Q (.panic c) a w) (hw : Region.wanted oi (yielded ops a.tmps) = true) (ho : oi.op = .load ty x) (b : Nat) (hx : a.eval x = .pointer (some ⟨b, 0, none⟩)) {t : TypeId} (hb : Blk w b t cs) (hbB : b < B) (d : TypeDesc)
    (hu : P.underlying ty = some d) (hd : d.isRow = true) (hsz : (P.info? ty).map (·.size) = some cs.size)
    (h : wpAnyH P md ops Q (Gb B w) fuel (listed.setIfInBounds i true) (a.put oi.dst (.agg cs)) w) : wpAnyH P md ops Q (Gb B w) (fuel + 1) listed a w :=
  gb_take i hi hs hf hr hQ (by
    have := yieldsIf_load_mid (P := P) (ops := ops) (S := Gb B w) (op := oi) (a := a) hw ty x ho b 0 hx cs.toList d (fun w' hw' j v hj => by
      rw [Nat.zero_add, Gb.cell hw' b j hbB, hb.cell j, ← Array.getElem?_toList]
      exact hj) hu hd (by simpa using hsz)
    simpa using this) h
theorem gb_undrew {w w' : World} (h : Below B w w') : Below B w.drew w' := ⟨h.os, h.tape, h.output, h.size, h.block⟩
end
end Go.Proofs.YtfgldglelijekaaGreatDoor
