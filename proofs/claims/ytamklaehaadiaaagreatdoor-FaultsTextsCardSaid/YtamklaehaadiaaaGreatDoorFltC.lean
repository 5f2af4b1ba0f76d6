/-
  Faults: codes and their names, faults and sets as texts: plain laws.
-/
import Derived.Test.YtamklaehaadiaaaGreatDoorFltP
import Derived.Test.YtamklaehaadiaaaGreatDoorRec1
namespace Go.Proofs.YtamklaehaadiaaaGreatDoor
set_option linter.unusedSimpArgs false
set_option linter.unusedVariables false
set_option linter.unusedSectionVars false
open Go.ChangeShapes Go.WideShapes Go.ChangeAt Go.RowKit Go.Deep

def cdNames : List (List UInt8) := [[78, 79, 95, 69, 82, 82, 79, 82], [80, 82, 79, 84, 79, 67, 79, 76, 95, 69, 82, 82, 79, 82], [73, 78, 84, 69, 82, 78, 65, 76, 95, 69, 82, 82, 79, 82], [70, 76, 79, 87, 95, 67, 79, 78, 84, 82, 79, 76, 95, 69, 82, 82, 79, 82], [83, 69, 84, 84, 73, 78, 71, 83, 95, 84, 73, 77, 69, 79, 85, 84], [83, 84, 82, 69, 65, 77, 95, 67, 76, 79, 83, 69, 68], [70, 82, 65, 77, 69, 95, 83, 73, 90, 69, 95, 69, 82, 82, 79, 82], [82, 69, 70, 85, 83, 69, 68, 95, 83, 84, 82, 69, 65, 77], [67, 65, 78, 67, 69, 76], [67, 79, 77, 80, 82, 69, 83, 83, 73, 79, 78, 95, 69, 82, 82, 79, 82], [67, 79, 78, 78, 69, 67, 84, 95, 69, 82, 82, 79, 82], [69, 78, 72, 65, 78, 67, 69, 95, 89, 79, 85, 82, 95, 67, 65, 76, 77], [73, 78, 65, 68, 69, 81, 85, 65, 84, 69, 95, 83, 69, 67, 85, 82, 73, 84, 89], [72, 84, 84, 80, 95, 49, 95, 49, 95, 82, 69, 81, 85, 73, 82, 69, 68]]
def cdName (n : Nat) : List UInt8 := cdNames.getD n []
def cdAt (t : Int) : List UInt8 := cdName t.toNat
theorem cdName_lit : ∀ m : Fin 14, cdNames[m.val]? = some (cdName m.val) := by decide
theorem cdName_inj : ∀ m n : Fin 14, cdName m.val = cdName n.val → m = n := by decide
theorem cdName_ok : ∀ m : Fin 14, cdName m.val ≠ [] ∧ (cdName m.val).length ≤ 19 ∧ readF (cdName m.val) = (0, false) ∧ (cdName m.val).all (fun c => (65 ≤ c && c ≤ 90) || c == 95 || (48 ≤ c && c ≤ 57)) = true := by decide
/-- A code's name. -/
def codeN (c : Int) : List UInt8 := if c < 0 ∨ 4294967295 < c then [] else if c < 14 then cdAt c else Lib.itoa c
/-- The code of a name. -/
def codeOf (s : List UInt8) : Int × Bool :=
  if (scanF cdAt s 14 0).2 = true then scanF cdAt s 14 0 else if (readF s).2 = true ∧ 14 ≤ (readF s).1 ∧ (readF s).1 ≤ 4294967295 then ((readF s).1, true) else (0, false)
theorem codeN_lo {c : Int} (h0 : 0 ≤ c) (h1 : c < 14) : codeN c = cdAt c := by unfold codeN; rw [if_neg (by omega), if_pos h1]
theorem codeN_hi {c : Int} (h0 : 14 ≤ c) (h1 : c ≤ 4294967295) : codeN c = Lib.itoa c := by unfold codeN; rw [if_neg (by omega), if_neg (by omega)]
theorem codeN_out {c : Int} (h : c < 0 ∨ 4294967295 < c) : codeN c = [] := by unfold codeN; rw [if_pos h]
theorem scan_code {c : Int} (h0 : 0 ≤ c) (h1 : c < 14) : scanF cdAt (cdAt c) 14 0 = (c, true) :=
  scan_hit cdAt _ c rfl 14 0 h0 (by omega) fun m h2 h3 e => by
    have := cdName_inj ⟨m.toNat, by omega⟩ ⟨c.toNat, by omega⟩ e
    simp only [Fin.mk.injEq] at this
    omega
theorem scan_digits {c : Int} (g0 : -9223372036854775808 ≤ c) (g1 : c ≤ 9223372036854775807) : scanF cdAt (Lib.itoa c) 14 0 = (0, false) :=
  scan_none cdAt _ 14 0 fun m h2 h3 e => by
    have h := (cdName_ok ⟨m.toNat, by omega⟩).2.2.1
    have e : cdName m.toNat = Lib.itoa c := e
    simp only at h
    rw [e, readF_itoa g0 g1] at h
    cases h
theorem codeOf_name {c : Int} (h0 : 0 ≤ c) (h1 : c ≤ 4294967295) : codeOf (codeN c) = (c, true) := by
  by_cases h : c < 14
  · rw [codeN_lo h0 h]; unfold codeOf; rw [scan_code h0 h, if_pos rfl]
  · rw [codeN_hi (by omega) h1]; unfold codeOf; rw [scan_digits (by omega) (by omega), if_neg (by simp), readF_itoa (by omega) (by omega), if_pos ⟨rfl, by omega, h1⟩]
theorem codeOf_yes {s : List UInt8} (h : (codeOf s).2 = true) : codeN (codeOf s).1 = s ∧ 0 ≤ (codeOf s).1 ∧ (codeOf s).1 ≤ 4294967295 := by
  unfold codeOf at h ⊢
  by_cases h1 : (scanF cdAt s 14 0).2 = true
  · rw [if_pos h1]
    obtain ⟨h2, h3, h4⟩ := scan_true cdAt s 14 0 (scanF cdAt s 14 0).1 (by rw [← h1])
    exact ⟨by rw [codeN_lo h3 (by omega)]; exact h2, h3, by omega⟩
  · rw [if_neg h1] at h ⊢
    by_cases h2 : (readF s).2 = true ∧ 14 ≤ (readF s).1 ∧ (readF s).1 ≤ 4294967295
    · rw [if_pos h2]
      exact ⟨by rw [codeN_hi h2.2.1 h2.2.2]; exact (readF_yes h2.1).1, by omega, h2.2.2⟩
    · rw [if_neg h2] at h; cases h
theorem codeOf_no {s : List UInt8} (h : (codeOf s).2 = false) : codeOf s = (0, false) := by
  unfold codeOf at h ⊢
  by_cases h1 : (scanF cdAt s 14 0).2 = true
  · rw [if_pos h1, h1] at h; cases h
  · rw [if_neg h1] at h ⊢
    by_cases h2 : (readF s).2 = true ∧ 14 ≤ (readF s).1 ∧ (readF s).1 ≤ 4294967295
    · rw [if_pos h2] at h; cases h
    · rw [if_neg h2]
theorem codeN_ne {c : Int} (h0 : 0 ≤ c) (h1 : c ≤ 4294967295) : codeN c ≠ [] := by
  by_cases h : c < 14
  · rw [codeN_lo h0 h]; exact (cdName_ok ⟨c.toNat, by omega⟩).1
  · rw [codeN_hi (by omega) h1]; intro e
    have := readF_itoa (n := c) (by omega) (by omega)
    rw [e, show readF [] = (0, false) by decide] at this
    cases this
theorem codeN_len (c : Int) : (codeN c).length ≤ 20 := by
  unfold codeN
  split
  · simp
  · rename_i h
    split
    · exact Nat.le_trans (cdName_ok ⟨c.toNat, by omega⟩).2.1 (by omega)
    · exact itoa_len (by omega) (by omega)

/-- A fault's text, and a set's. -/
def scopeW (n : Int) : List UInt8 := if n = 1 then [115, 116, 114, 101, 97, 109] else [99, 111, 110, 110, 101, 99, 116, 105, 111, 110]
def textW (f : Fl) : List UInt8 := if flR f = true then scopeW f.scope ++ 58 :: codeN f.code else []
def showW (l : List Fl) : List UInt8 := if ofF l = [] then [45] else Lib.join ((ofF l).map textW) [44]
theorem textW_len (f : Fl) : (textW f).length ≤ 31 := by
  unfold textW scopeW
  have := codeN_len f.code
  split
  · split <;> simp <;> omega
  · simp
theorem textW_right {f : Fl} (h : flR f = true) : textW f = scopeW f.scope ++ 58 :: codeN f.code := by unfold textW; rw [if_pos h]
end Go.Proofs.YtamklaehaadiaaaGreatDoor
