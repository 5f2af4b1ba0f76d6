/-
  Slices of records. (The same as in Sum4, SumC0 and SumA of the summary's texts.)
-/
import Derived.Test.YtbdmepidabnfkaaGreatDoorMg
import Derived.Test.YtbdmepidabnfkaaGreatDoorMb
import Derived.Test.YtbdmepidabnfkaaGreatDoorMa
import Derived.Laws.Tables
import Derived.Laws.Rows
namespace Go.Proofs.YtbdmepidabnfkaaGreatDoor
set_option linter.unusedSimpArgs false
set_option linter.unusedVariables false
set_option linter.unusedSectionVars false
open Go.ChangeShapes Go.WideShapes Go.ChangeAt Go.RowKit Go.Deep Go.Shelf

def recL (x : Rec) : List Value := [.int .i64 x.fr, .int .i64 x.ty, .int .i64 x.fl, .int .i64 x.st, .int .i64 x.ln, .int .i64 x.kd]
abbrev SlRc (w : World) (B : Nat) (a : Option Addr) (l : List Rec) : Prop := SlR w B 6 (fun x cs => cs = recL x) a l
theorem SlR.atRc {w : World} {B : Nat} {a : Option Addr} {l : List Rec} (h : SlRc w B a l) {k : Nat} (hk : k < l.length) : ∃ b off, a = some ⟨b, off, none⟩ ∧ b < B ∧ (w.cell? ⟨b, off + k * 6, none⟩ = some (.int .i64 l[k].fr) ∧ w.cell? ⟨b, off + k * 6 + 1, none⟩ = some (.int .i64 l[k].ty) ∧ w.cell? ⟨b, off + k * 6 + 2, none⟩ = some (.int .i64 l[k].fl) ∧ w.cell? ⟨b, off + k * 6 + 3, none⟩ = some (.int .i64 l[k].st) ∧ w.cell? ⟨b, off + k * 6 + 4, none⟩ = some (.int .i64 l[k].ln) ∧ w.cell? ⟨b, off + k * 6 + 5, none⟩ = some (.int .i64 l[k].kd)) := by
  obtain ⟨b, off, cs, ha, hb, rfl, hc⟩ := h k hk
  exact ⟨b, off, ha, hb, hc 0 _ rfl, hc 1 _ rfl, hc 2 _ rfl, hc 3 _ rfl, hc 4 _ rfl, hc 5 _ rfl⟩
theorem SlRc.keep {w w' : World} {a : Option Addr} {l : List Rec} (h : SlRc w w.heap.size a l) (hb : Below w.heap.size w w') : SlRc w' w'.heap.size a l := (h.below hb (Nat.le_refl _)).mono hb.size (fun _ _ _ h => h)
theorem st_rec : SliceTy Tryz.prog 24 44 (.agg #[.int .i64 0, .int .i64 0, .int .i64 0, .int .i64 0, .int .i64 0, .int .i64 0]) 6 48 := .mk' Tryz.underlying24 (by kernel_rfl) rfl (by omega)
theorem recL_one (x : Rec) : ∀ u ∈ recL x, u.oneCell' = true := by intro u hu; simp [recL] at hu; rcases hu with rfl | rfl | rfl | rfl | rfl | rfl <;> rfl
abbrev OwnRc (B : Nat) (w : World) (v : Value) (l : List Rec) : Prop := OwnC 44 6 recL B w v l
end Go.Proofs.YtbdmepidabnfkaaGreatDoor
