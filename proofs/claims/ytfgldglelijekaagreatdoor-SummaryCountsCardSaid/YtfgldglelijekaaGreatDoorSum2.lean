/-
  Summaries: a record counted.
-/
import Derived.Test.YtfgldglelijekaaGreatDoorSum1
import Derived.Test.YtfgldglelijekaaGreatDoorHeld
import Derived.Deep.RegionWith
namespace Go.Proofs.YtfgldglelijekaaGreatDoor
set_option linter.unusedSimpArgs false
set_option linter.unusedVariables false
set_option linter.unusedSectionVars false
open Go.ChangeShapes Go.WideShapes Go.ChangeAt Go.RowKit Go.Deep Go.Shelf

def rowA (F : Nat → Int) (sec : Value) : Array Value := (((List.range 20).map fun k => Value.int .i64 (F k)) ++ [sec]).toArray
def updN (F : Nat → Int) (j : Nat) (v : Int) : Nat → Int := fun k => if k = j then v else F k
theorem rowA_size (F : Nat → Int) (sec : Value) : (rowA F sec).size = 21 := by simp [rowA]
theorem rowA_get (F : Nat → Int) (sec : Value) {k : Nat} (h : k < 20) : (rowA F sec)[k]? = some (.int .i64 (F k)) := by
  unfold rowA
  rw [List.getElem?_toArray, List.getElem?_append_left (by simpa using h), List.getElem?_map, List.getElem?_range h]
  rfl
theorem rowA_sec (F : Nat → Int) (sec : Value) : (rowA F sec)[20]? = some sec := by
  unfold rowA
  rw [List.getElem?_toArray, List.getElem?_append_right (by simp)]
  simp
theorem rowA_congr {F G : Nat → Int} (sec : Value) (h : ∀ k, k < 20 → F k = G k) : rowA F sec = rowA G sec := by
  unfold rowA
  congr 2
  exact List.map_congr_left fun k hk => by rw [h k (by simpa using hk)]
theorem rowA_set (F : Nat → Int) (sec : Value) {j : Nat} (hj : j < 20) (v : Int) : (rowA F sec).setIfInBounds j (.int .i64 v) = rowA (updN F j v) sec := by
  apply Array.ext_getElem?
  intro i
  rw [Array.getElem?_setIfInBounds, rowA_size]
  by_cases h : j = i
  · subst h
    rw [if_pos rfl, if_pos (by omega), rowA_get _ _ hj]
    simp [updN]
  · rw [if_neg h]
    by_cases hi : i < 20
    · rw [rowA_get _ _ hi, rowA_get _ _ hi]
      unfold updN
      rw [if_neg (fun e => h e.symm)]
    · by_cases h20 : i = 20
      · subst h20; rw [rowA_sec, rowA_sec]
      · rw [Array.getElem?_eq_none (by rw [rowA_size]; omega), Array.getElem?_eq_none (by rw [rowA_size]; omega)]
abbrev SmT : TypeId := 37
theorem Blk.rowSet {w : World} {g : Nat} {F : Nat → Int} {sec : Value} (h : Blk w g SmT (rowA F sec)) {j : Nat} (hj : j < 20) (v : Int) : Blk (w.setCell ⟨g, j, none⟩ (.int .i64 v)) g SmT (rowA (updN F j v) sec) := by
  have := h.set_ j (.int .i64 v)
  rw [rowA_set F sec hj v] at this
  exact this
theorem Blk.rowGet {w : World} {g : Nat} {F : Nat → Int} {sec : Value} (h : Blk w g SmT (rowA F sec)) {j : Nat} (hj : j < 20) : w.cell? ⟨g, j, none⟩ = some (.int .i64 (F j)) := (h.cell j).trans (rowA_get F sec hj)

def stepA (F : Nat → Int) (j : Nat) (d : Int) : Nat → Int := updN F j (F j + d)
theorem stepA_at (F : Nat → Int) (j : Nat) (d : Int) (i : Nat) : stepA F j d i = F i + if i = j then d else 0 := by
  unfold stepA updN
  split
  · rename_i h; rw [h]
  · omega
theorem kd_pos {x : Rec} (h : kdOk x = true) : ∃ q : Nat, x.kd = (q : Int) ∧ 1 ≤ q ∧ q ≤ 4 := by
  unfold kdOk at h
  rw [inB_iff] at h
  exact ⟨x.kd.toNat, by omega, by omega, by omega⟩
theorem step_yes (F : Nat → Int) (x : Rec) (k : Nat) (hk : k < 2) (hf : x.fr = (k : Int)) (q : Nat) (hq : x.kd = (q : Int)) (h : kdOk x = true) (i : Nat) (hi : i < 20) :
    stepA (stepA (stepA (stepA F k 1) (2 + k) (szR x)) (4 + tyI x) 1) (15 + q) 1 i = F i + cv i x := by
  have ht := tyI_lt x
  have hin : in0 x = true := by unfold in0; rw [hf]; simp; omega
  have hq4 : 1 ≤ q ∧ q ≤ 4 := by obtain ⟨q', h1, h2⟩ := kd_pos h; omega
  simp only [stepA_at]
  unfold cv
  rw [hin, hf, hq, h]
  simp only [Bool.true_eq_false, if_false, true_and]
  repeat' split
  all_goals omega
theorem step_no (F : Nat → Int) (x : Rec) (k : Nat) (hk : k < 2) (hf : x.fr = (k : Int)) (h : kdOk x = false) (i : Nat) (hi : i < 20) :
    stepA (stepA (stepA F k 1) (2 + k) (szR x)) (4 + tyI x) 1 i = F i + cv i x := by
  have ht := tyI_lt x
  have hin : in0 x = true := by unfold in0; rw [hf]; simp; omega
  simp only [stepA_at]
  unfold cv
  rw [hin, hf, h]
  simp only [Bool.true_eq_false, if_false, Bool.false_eq_true, false_and]
  repeat' split
  all_goals omega

end Go.Proofs.YtfgldglelijekaaGreatDoor
