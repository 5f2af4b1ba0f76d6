/-
  Blocks of known cells, stored into whole.
-/
import Derived.Test.YtfcgdfcekpbliaaGreatDoorMa
namespace Go.Proofs.YtfcgdfcekpbliaaGreatDoor
set_option linter.unusedSimpArgs false
set_option linter.unusedVariables false
set_option linter.unusedSectionVars false
open Go.ChangeShapes Go.WideShapes Go.ChangeAt Go.RowKit Go.Deep

def putAll (w : World) (g : Nat) : Nat → List Value → World
  | _, [] => w
  | i, v :: vs => putAll (w.setCell ⟨g, i, none⟩ v) g (i + 1) vs
theorem putAll_blk {t : TypeId} {g : Nat} : ∀ (vs : List Value) (w : World) (i : Nat) (cs : Array Value), Blk w g t cs → i + vs.length = cs.size → Blk (putAll w g i vs) g t (cs.toList.take i ++ vs).toArray
  | [], w, i, cs, h, hn => by
    have : (cs.toList.take i ++ []).toArray = cs := by
      rw [List.append_nil, List.take_of_length_le (by simp at hn; simp; omega)]
    rw [this]; exact h
  | v :: vs, w, i, cs, h, hn => by
    have h1 := putAll_blk vs (w.setCell ⟨g, i, none⟩ v) (i + 1) (cs.setIfInBounds i v) (h.set_ i v) (by simp at hn ⊢; omega)
    have e : (cs.setIfInBounds i v).toList.take (i + 1) = cs.toList.take i ++ [v] := by
      have hi : i < cs.toList.length := by simp at hn; simp; omega
      rw [Array.toList_setIfInBounds, List.take_succ_eq_append_getElem (by simpa using hi)]
      simp [List.take_set_of_le]
    rw [e, List.append_assoc] at h1
    exact h1
theorem Blk.store {w : World} {g : Nat} {t : TypeId} {cs : Array Value} {vs : List Value} (h : Blk w g t cs) (hn : vs.length = cs.size) : Blk (putAll w g 0 vs) g t vs.toArray := by
  have := putAll_blk vs w 0 cs h (by omega)
  simpa using this
theorem Blk.put1 {w : World} {g : Nat} {t : TypeId} {x0 y0 : Value} (h : Blk w g t #[x0]) : Blk (w.setCell ⟨g, 0, none⟩ y0) g t #[y0] :=
  h.store (vs := [y0]) rfl
theorem Blk.put2 {w : World} {g : Nat} {t : TypeId} {x0 x1 y0 y1 : Value} (h : Blk w g t #[x0, x1]) : Blk ((w.setCell ⟨g, 0, none⟩ y0).setCell ⟨g, 1, none⟩ y1) g t #[y0, y1] :=
  h.store (vs := [y0, y1]) rfl
theorem Blk.put3 {w : World} {g : Nat} {t : TypeId} {x0 x1 x2 y0 y1 y2 : Value} (h : Blk w g t #[x0, x1, x2]) : Blk (((w.setCell ⟨g, 0, none⟩ y0).setCell ⟨g, 1, none⟩ y1).setCell ⟨g, 2, none⟩ y2) g t #[y0, y1, y2] :=
  h.store (vs := [y0, y1, y2]) rfl
theorem Blk.put4 {w : World} {g : Nat} {t : TypeId} {x0 x1 x2 x3 y0 y1 y2 y3 : Value} (h : Blk w g t #[x0, x1, x2, x3]) : Blk ((((w.setCell ⟨g, 0, none⟩ y0).setCell ⟨g, 1, none⟩ y1).setCell ⟨g, 2, none⟩ y2).setCell ⟨g, 3, none⟩ y3) g t #[y0, y1, y2, y3] :=
  h.store (vs := [y0, y1, y2, y3]) rfl
theorem Blk.put5 {w : World} {g : Nat} {t : TypeId} {x0 x1 x2 x3 x4 y0 y1 y2 y3 y4 : Value} (h : Blk w g t #[x0, x1, x2, x3, x4]) : Blk (((((w.setCell ⟨g, 0, none⟩ y0).setCell ⟨g, 1, none⟩ y1).setCell ⟨g, 2, none⟩ y2).setCell ⟨g, 3, none⟩ y3).setCell ⟨g, 4, none⟩ y4) g t #[y0, y1, y2, y3, y4] :=
  h.store (vs := [y0, y1, y2, y3, y4]) rfl
theorem Blk.put6 {w : World} {g : Nat} {t : TypeId} {x0 x1 x2 x3 x4 x5 y0 y1 y2 y3 y4 y5 : Value} (h : Blk w g t #[x0, x1, x2, x3, x4, x5]) : Blk ((((((w.setCell ⟨g, 0, none⟩ y0).setCell ⟨g, 1, none⟩ y1).setCell ⟨g, 2, none⟩ y2).setCell ⟨g, 3, none⟩ y3).setCell ⟨g, 4, none⟩ y4).setCell ⟨g, 5, none⟩ y5) g t #[y0, y1, y2, y3, y4, y5] :=
  h.store (vs := [y0, y1, y2, y3, y4, y5]) rfl
end Go.Proofs.YtfcgdfcekpbliaaGreatDoor
