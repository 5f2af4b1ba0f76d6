/-
  Slices of texts.
-/
import Derived.Test.YtgghddhdkfocoaaDoorByt
import Derived.Test.YtgghddhdkfocoaaDoorQm
import Derived.Test.YtgghddhdkfocoaaDoorWordP
import Derived.Deep.LoopGhost
import Derived.BigGuardPart
namespace Go.Proofs.YtgghddhdkfocoaaDoor
set_option linter.unusedSimpArgs false
set_option linter.unusedVariables false
set_option linter.unusedSectionVars false
open Go.ChangeShapes Go.WideShapes Go.ChangeAt Go.RowKit Go.Deep Go.Shelf

/-! Slices of texts. -/
def txtIs (s : List UInt8) (cs : List Value) : Prop := cs = [bstr s] ∧ s.length ≤ maxLen
abbrev SlX (w : World) (B : Nat) (a : Option Addr) (l : List (List UInt8)) : Prop := SlR w B 1 txtIs a l
theorem SlR.atX {w : World} {B : Nat} {a : Option Addr} {l : List (List UInt8)} (h : SlR w B 1 txtIs a l) {k : Nat} (hk : k < l.length) : ∃ b off, a = some ⟨b, off, none⟩ ∧ b < B ∧ w.cell? ⟨b, off + k, none⟩ = some (bstr l[k]) ∧ l[k].length ≤ 9223372036854775807 := by
  obtain ⟨b, off, cs, ha, hb, ⟨rfl, h1⟩, hc⟩ := h k hk
  have := hc 0 _ rfl
  rw [Nat.mul_one, Nat.add_zero] at this
  unfold maxLen at h1
  exact ⟨b, off, ha, hb, this, h1⟩
theorem slX_new {w : World} {g : Nat} {t : TypeId} {cs : Array Value} {l : List (List UInt8)} (h : Blk w g t cs) (hl : cs.toList = l.map bstr) (hR : ∀ x ∈ l, x.length ≤ maxLen) : SlX w (g + 1) (some ⟨g, 0, none⟩) l :=
  SlR.of_blk (c := fun s => [bstr s]) h (by rw [hl]; clear h hl hR; induction l <;> simp_all) (fun _ _ => rfl) (fun x hx => ⟨rfl, hR x hx⟩)
def okW (w : List UInt8) : Bool := !w.isEmpty && !decide (0 ≤ Lib.indexByte w 32) && !decide (0 ≤ Lib.indexByte w 10)
theorem slX_pre {w : World} {g : Nat} {t : TypeId} {cs : Array Value} {l r : List (List UInt8)} (h : Blk w g t cs) (hl : cs.toList = (l ++ r).map bstr) (hR : ∀ x ∈ l ++ r, x.length ≤ maxLen) : SlX w w.heap.size (some ⟨g, 0, none⟩) l := by
  have h1 := (slX_new h hl hR).take l.length
  rw [List.take_left] at h1
  exact h1.mono h.lt (fun _ _ _ h => h)
end Go.Proofs.YtgghddhdkfocoaaDoor
