/-
  Faults: a text cut at its first colon: plain law on the library's word.
-/
import Derived.Test.YtamklaehaadiaaaGreatDoorFltD
import Derived.Lib.IndexMore
namespace Go.Proofs.YtamklaehaadiaaaGreatDoor
set_option linter.unusedSimpArgs false
set_option linter.unusedVariables false
set_option linter.unusedSectionVars false
open Go.ChangeShapes Go.WideShapes Go.ChangeAt Go.RowKit Go.Deep

def hdI (c : UInt8) (s : List UInt8) : Int := match hdF c s with
  | none => -1
  | some (a, _) => (a.length : Int)
theorem hd_index (c : UInt8) : ∀ s : List UInt8, Lib.index s [c] = hdI c s
  | [] => by simp [Lib.index, hdI, hdF]
  | x :: r => by
    by_cases h : x = c
    · subst h
      rw [index_cons_eq]
      simp [hdI, hdF]
    · rw [index_cons_ne x c r h, hd_index c r]
      unfold hdI
      rw [hdF, if_neg h]
      cases hd : hdF c r with
      | none => simp
      | some p =>
        obtain ⟨a, b⟩ := p
        have : ((a.length : Int) == -1) = false := by rw [beq_eq_false_iff_ne]; omega
        simp [this]
def hdC (c : UInt8) (s : List UInt8) : List UInt8 × List UInt8 × Bool := match hdF c s with
  | none => (s, [], false)
  | some (a, b) => (a, b, true)
theorem hd_cut (c : UInt8) (s : List UInt8) : Lib.cut s [c] = hdC c s := by
  have h0 := hd_index c s
  unfold hdI at h0
  unfold Lib.cut hdC
  cases hd : hdF c s with
  | none =>
    simp only [hd] at h0
    rw [h0, if_neg (by omega)]
  | some p =>
    obtain ⟨a, b⟩ := p
    simp only [hd] at h0
    obtain ⟨rfl, _⟩ := hd_some hd
    rw [h0, if_pos (by omega)]
    have h2 : (a ++ c :: b).drop (a.length + 1) = b := by rw [← List.drop_drop]; simp
    simp [h2]
end Go.Proofs.YtamklaehaadiaaaGreatDoor
