/-
  What strings.Split hands back.
-/
import Derived.Test.YtgghddhdkfocoaaDoorSlX
import Derived.Lib.SplitLaws
namespace Go.Proofs.YtgghddhdkfocoaaDoor
set_option linter.unusedSimpArgs false
set_option linter.unusedVariables false
set_option linter.unusedSectionVars false
open Go.ChangeShapes Go.WideShapes Go.ChangeAt Go.RowKit Go.Deep Go.Shelf

theorem splitK_len (sep : List UInt8) : ∀ (k : Nat) (s : List UInt8), ∀ x ∈ Lib.splitK sep 0 k s, x.length ≤ s.length
  | 0, s, x, h => by simp [Lib.splitK] at h; subst h; exact Nat.le_refl _
  | k + 1, s, x, h => by
    unfold Lib.splitK at h
    split at h
    · simp at h; subst h; exact Nat.le_refl _
    · rcases List.mem_cons.1 h with rfl | h
      · simp; omega
      · have := splitK_len sep k _ x h
        simp at this; omega
theorem split_map (l : List UInt8) (c : UInt8) : (Lib.splitB ⟨#[c]⟩ 0 (Lib.countB ⟨l.toArray⟩ ⟨#[c]⟩) ⟨l.toArray⟩).map Value.string = (Lib.split l [c]).map bstr := by
  have h := Lib.splitB_data ⟨#[c]⟩ 0 (Lib.countB ⟨l.toArray⟩ ⟨#[c]⟩) ⟨l.toArray⟩
  have e : (Lib.split l [c]) = (Lib.splitB ⟨#[c]⟩ 0 (Lib.countB ⟨l.toArray⟩ ⟨#[c]⟩) ⟨l.toArray⟩).map (·.data.toList) := by rw [h]; rfl
  rw [e, List.map_map]
  rfl
theorem split_len (l : List UInt8) (c : UInt8) : (Lib.split l [c]).length = Lib.countB ⟨l.toArray⟩ ⟨#[c]⟩ + 1 := by
  have h := Lib.splitB_all ⟨#[c]⟩ (Nat.le_refl 1) 0 _ ⟨l.toArray⟩ rfl
  have := congrArg List.length (split_map l c)
  simp only [List.length_map] at this
  rw [← this, h]
theorem split_le (l : List UInt8) (c : UInt8) : (Lib.split l [c]).length ≤ l.length + 1 := by
  rw [split_len]
  have := Lib.countB_le ⟨#[c]⟩ (Nat.le_refl 1) _ ⟨l.toArray⟩ (Nat.le_refl _)
  have e : (ByteArray.mk l.toArray).size = l.length := rfl
  omega
theorem strings_split (l : List UInt8) (c : UInt8) (m : Int) (w : World) (hm : l.length ≤ 1048576) (hM : w.cell? ⟨0, 0, none⟩ = some (.int .i64 m)) :
    Calls Tryd.prog 10 #[bstr l, bstr [c]] w fun e w' => e = .returned (.slice (some ⟨w.heap.size, 0, none⟩) (Lib.split l [c]).length (Lib.split l [c]).length) ∧ w' = w.alloc (.cells ((Lib.split l [c]).map bstr).toArray 9) :=
  (Tryd.strings_Split ⟨l.toArray⟩ ⟨#[c]⟩ m w (by show l.length < _; omega) hM (Nat.le_refl 1)).mono fun e w' ⟨he, hw⟩ => ⟨by rw [he, split_len], by rw [hw, ← split_map]⟩
theorem split_slX (l : List UInt8) (c : UInt8) (w : World) (hm : l.length ≤ 1048576) : SlX (w.alloc (.cells ((Lib.split l [c]).map bstr).toArray 9)) (w.heap.size + 1) (some ⟨w.heap.size, 0, none⟩) (Lib.split l [c]) :=
  slX_new (Blk.at_ _ _ _ rfl) (by simp) (fun x hx => by have := splitK_len [c] _ l x hx; unfold maxLen; omega)
abbrev MaxA : Addr := ⟨0, 0, none⟩
theorem max_more {w : World} {m : Int} (hM : w.cell? MaxA = some (.int .i64 m)) (j : Junk) : (w.more j).cell? MaxA = some (.int .i64 m) :=
  (World.cell?_more _ _ _ (World.block_lt_of_cell? w MaxA hM)).trans hM
end Go.Proofs.YtgghddhdkfocoaaDoor
