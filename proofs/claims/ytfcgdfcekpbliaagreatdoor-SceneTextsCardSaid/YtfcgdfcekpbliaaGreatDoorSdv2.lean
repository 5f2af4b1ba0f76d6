/-
  Scenarios: the document's step of a line.
-/
import Derived.Test.YtfcgdfcekpbliaaGreatDoorSdv1
import Derived.Test.YtfcgdfcekpbliaaGreatDoorMi
namespace Go.Proofs.YtfcgdfcekpbliaaGreatDoor
set_option linter.unusedSimpArgs false
set_option linter.unusedVariables false
set_option linter.unusedSectionVars false
open Go.ChangeShapes Go.WideShapes Go.ChangeAt Go.RowKit Go.Deep Go.Shelf

abbrev QtT : TypeId := 49
theorem st_Qt : StructTy Tryz.prog QtT 6 := ⟨_, Tryz.underlying49, rfl, by kernel_rfl⟩
abbrev zQt : Array Value := #[.int .i64 0, .int .i64 0, .int .i64 0, .bool false, .slice none 0 0, .slice none 0 0]
/-- What a line's step leaves. -/
def DstP (x : St) (w : World) (y : Ending) (w' : World) : Prop :=
  ∃ fa fc sa sc, y = .returned (.agg #[.int .i64 x.kd, .int .i64 x.sm, .int .i64 x.nn, .bool x.fin, .slice fa x.fs.length fc, .slice sa x.ss.length sc]) ∧ OwnF w.heap.size w' (.slice fa x.fs.length fc) x.fs ∧ OwnG w.heap.size w' (.slice sa x.ss.length sc) x.ss ∧ Below w.heap.size w w'
def Pv (bx : Nat) (v : Value) (k : Nat) : Prop := k = bx ∨ some k = v.ownBlock
theorem gpv_grown {bx : Nat} {v : Value} {w w' : World} (h : w.grownBy w' v.ownBlock) : Gp (Pv bx v) w w' := ⟨h.os, h.tape, h.output, h.size, fun k hk hp => h.block k hk (fun e => hp (.inr e))⟩
theorem gpv_two {P : Program} {ops : Array Oper} {Q : Exit → Act → World → Prop} {md : Region.Mode} {p : Nat → Prop} (i j : Nat) {o q : Oper} {fuel : Nat} {listed : Array Bool} {a : Act} {w : World} (hr : Region.ready md ops listed = [i, j]) (ho : ops[i]? = some o) (hq : ops[j]? = some q)
    (h : ∀ K' : Act → World → Prop, Shut (∀ a' w', Gp p w w' → wpAnyH P md ops Q (Gp p w') fuel (listed.setIfInBounds i true) a' w' → K' a' w') → if Region.wanted o (yielded ops a.tmps) = true then Oper.wp P o a w K' Q else K' (a.put o.dst undef) w)
    (h2 : ∀ K' : Act → World → Prop, Shut (∀ a' w', Gp p w w' → wpAnyH P md ops Q (Gp p w') fuel (listed.setIfInBounds j true) a' w' → K' a' w') → if Region.wanted q (yielded ops a.tmps) = true then Oper.wp P q a w K' Q else K' (a.put q.dst undef) w) :
    wpAnyH P md ops Q (Gp p w) (fuel + 1) listed a w :=
  wpAnyH_ready hr (by simp) (gp_one ho h (gp_one hq h2 AllReadyH.nil))
theorem sets_step {l : List (List UInt8)} {p : Nat} (h : p + 1 < l.length) : setsR (l.drop p) = (nmR l p, nmR l (p + 1)) :: setsR (l.drop (p + 2)) := by
  have e : ∀ k (hk : k < l.length), nmR l k = numR1 l[k] := fun k hk => by
    unfold nmR numR1 atD
    rw [List.getD_eq_getElem?_getD, List.getElem?_eq_getElem hk]
    rfl
  rw [List.drop_eq_getElem_cons (show p < l.length by omega), List.drop_eq_getElem_cons (show p + 1 < l.length by omega), e p (by omega), e (p + 1) h]
  rfl
theorem sets_end {l : List (List UInt8)} {p : Nat} (h : ¬ p + 1 < l.length) : setsR (l.drop p) = [] := by
  have hn : (l.drop p).length ≤ 1 := by rw [List.length_drop]; omega
  match hd : l.drop p, hn with
  | [], _ => rfl
  | [_], _ => rfl
  | _ :: _ :: _, h => simp at h
theorem own_lower2 {B C n size : Nat} {w : World} {e : TypeId} {v : Value} {xs : List Value} (h : w.ownsRow B e size v n xs) (hC : C ≤ B) : w.ownsRow C e size v n xs := by
  refine ⟨h.1, ?_⟩
  rcases h.2 with h2 | ⟨g, cap, cur, h1, hg, h3⟩
  · exact .inl h2
  · exact .inr ⟨g, cap, cur, h1, Nat.le_trans hC hg, h3⟩
theorem below_six {w W : World} {r : Nat} {y0 y1 y2 y3 y4 y5 : Value} (h : Below w.heap.size w W) (hr : w.heap.size ≤ r) : Below w.heap.size w ((((((W.setCell ⟨r, 0, none⟩ y0).setCell ⟨r, 1, none⟩ y1).setCell ⟨r, 2, none⟩ y2).setCell ⟨r, 3, none⟩ y3).setCell ⟨r, 4, none⟩ y4).setCell ⟨r, 5, none⟩ y5) :=
  (((((h.setCell (p := ⟨r, 0, none⟩) hr _).setCell (p := ⟨r, 1, none⟩) hr _).setCell (p := ⟨r, 2, none⟩) hr _).setCell (p := ⟨r, 3, none⟩) hr _).setCell (p := ⟨r, 4, none⟩) hr _).setCell (p := ⟨r, 5, none⟩) hr _
theorem below_sixB {B : Nat} {w W : World} {r : Nat} {y0 y1 y2 y3 y4 y5 : Value} (h : Below B w W) (hr : B ≤ r) : Below B w ((((((W.setCell ⟨r, 0, none⟩ y0).setCell ⟨r, 1, none⟩ y1).setCell ⟨r, 2, none⟩ y2).setCell ⟨r, 3, none⟩ y3).setCell ⟨r, 4, none⟩ y4).setCell ⟨r, 5, none⟩ y5) :=
  (((((h.setCell (p := ⟨r, 0, none⟩) hr _).setCell (p := ⟨r, 1, none⟩) hr _).setCell (p := ⟨r, 2, none⟩) hr _).setCell (p := ⟨r, 3, none⟩) hr _).setCell (p := ⟨r, 4, none⟩) hr _).setCell (p := ⟨r, 5, none⟩) hr _
theorem own_six {C n size r : Nat} {t : TypeId} {v : Value} {xs : List Value} {W : World} {y0 y1 y2 y3 y4 y5 : Value} (ho : W.ownsRow C t size v n xs) (hb : Blk W r QtT zQt) (ht : QtT ≠ t) :
    ((((((W.setCell ⟨r, 0, none⟩ y0).setCell ⟨r, 1, none⟩ y1).setCell ⟨r, 2, none⟩ y2).setCell ⟨r, 3, none⟩ y3).setCell ⟨r, 4, none⟩ y4).setCell ⟨r, 5, none⟩ y5).ownsRow C t size v n xs := by
  have h1 := hb.set_ 0 y0
  have h2 := h1.set_ 1 y1
  have h3 := h2.set_ 2 y2
  have h4 := h3.set_ 3 y3
  have h5 := h4.set_ 4 y4
  exact own_far (own_far (own_far (own_far (own_far (own_far ho hb ht) h1 ht) h2 ht) h3 ht) h4 ht) h5 ht
end Go.Proofs.YtfcgdfcekpbliaaGreatDoor
