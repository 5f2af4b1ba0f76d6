/-
  Texts looked for in a row of texts: slices.Index, and the words of a text.
-/
import Derived.Test.YtgghddhdkfocoaaDoorLine1
import Derived.Test.YtgghddhdkfocoaaDoorSpl
import Derived.Test.YtgghddhdkfocoaaDoorMore
import Derived.Test.YtgghddhdkfocoaaDoorQm
namespace Go.Proofs.YtgghddhdkfocoaaDoor
set_option linter.unusedSimpArgs false
set_option linter.unusedVariables false
set_option linter.unusedSectionVars false
open Go.ChangeShapes Go.WideShapes Go.ChangeAt Go.RowKit Go.Deep Go.Shelf

def seekX (s : List UInt8) : List (List UInt8) → Nat → Int
  | [], _ => -1
  | x :: r, k => if x = s then (k : Int) else seekX s r (k + 1)
/-- Where a text is first found among some; -1: nowhere. -/
def idxX (l : List (List UInt8)) (s : List UInt8) : Int := seekX s l 0
theorem seekX_lo (s : List UInt8) : ∀ (l : List (List UInt8)) (k : Nat), seekX s l k = -1 ∨ ((k : Int) ≤ seekX s l k ∧ seekX s l k < k + l.length)
  | [], k => .inl rfl
  | x :: r, k => by
    unfold seekX
    split
    · exact .inr ⟨Int.le_refl _, by simp; omega⟩
    · rcases seekX_lo s r (k + 1) with h | h
      · exact .inl h
      · exact .inr ⟨by omega, by simp only [List.length_cons]; omega⟩
theorem seekX_none (s : List UInt8) : ∀ (l : List (List UInt8)) (k : Nat), (∀ x ∈ l, x ≠ s) → seekX s l k = -1
  | [], k, _ => rfl
  | x :: r, k, h => by
    unfold seekX
    rw [if_neg (h x (by simp)), seekX_none s r (k + 1) (fun y hy => h y (by simp [hy]))]
theorem seekX_hit (s : List UInt8) : ∀ (l : List (List UInt8)) (k i : Nat) (hi : i < l.length), l[i] = s → (∀ j (hj : j < l.length), j < i → l[j] ≠ s) → seekX s l k = ((k + i : Nat) : Int)
  | [], k, i, hi, _, _ => by simp at hi
  | x :: r, k, 0, hi, he, _ => by
    unfold seekX
    rw [if_pos (by simpa using he)]; rfl
  | x :: r, k, i + 1, hi, he, hn => by
    unfold seekX
    rw [if_neg (show ¬ x = s from hn 0 (by simp) (by omega))]
    rw [seekX_hit s r (k + 1) i (by simpa using hi) (show r[i]'(by simpa using hi) = s from he) (fun j hj hji => hn (j + 1) (by simp; omega) (by omega))]
    congr 1; omega

theorem seekX_at (s : List UInt8) : ∀ (l : List (List UInt8)) (k i : Nat), seekX s l k = ((k + i : Nat) : Int) → ∃ h : i < l.length, l[i] = s
  | [], k, i, h => by simp only [seekX] at h; omega
  | x :: r, k, i, h => by
    unfold seekX at h
    by_cases hx : x = s
    · rw [if_pos hx] at h
      obtain rfl : i = 0 := by omega
      exact ⟨by simp, hx⟩
    · rw [if_neg hx] at h
      have hlo := seekX_lo s r (k + 1)
      cases i with
      | zero => omega
      | succ i =>
        obtain ⟨h1, h2⟩ := seekX_at s r (k + 1) i (by rw [h]; congr 1; omega)
        exact ⟨by simp; omega, h2⟩
set_option maxHeartbeats 4000000 in
set_option maxRecDepth 100000 in
theorem slices_IndexX (a : Option Addr) (l : List (List UInt8)) (cap : Nat) (s : List UInt8) (hl : l.length ≤ 100000) (w : World) (hS : SlX w w.heap.size a l) :
    Calls Tryd.prog 9 #[.slice a l.length cap, bstr s] w fun e w' => e = .returned (.int .i64 (idxX l s)) ∧ ∃ j, w' = w.more j := by
  obtain ⟨R, hR⟩ : ∃ R, R = idxX l s := ⟨_, rfl⟩
  rw [← hR]
  have HR : Hid (R = seekX s (l.drop 0) 0) := hR
  have HS := Lib.hid hS
  clear hS hR
  go_enter Tryd.func9, Tryd.ntmps9
  go_wp2_with fail
  go_loopg [8] l.length (fun g i wr => ∃ k : Nat, k + g = l.length ∧ i = .int .i64 k ∧ wr = w ∧ Hid (R = seekX s (l.drop k) k))
  case atStart => exact ⟨0, by omega, rfl, rfl, HR⟩
  case round =>
    obtain ⟨k, hkg, rfl, rfl, HU⟩ := hrel
    have HK := Lib.hid hkg
    clear hkg
    by_cases hlt : k < l.length
    · obtain ⟨b, off, ha, hbb, c0, _⟩ := HS.out.atX hlt
      subst ha
      have HT : Hid (R = if l[k] = s then (k : Int) else seekX s (l.drop (k + 1)) (k + 1)) := by show _ = _; rw [HU.out, List.drop_eq_getElem_cons hlt, seekX]
      clear HU
      generalize l[k] = x at c0 HT
      cases e1 : (s == x)
      · have HU2 : Hid (R = seekX s (l.drop (k + 1)) (k + 1)) := by show _ = _; rw [HT.out, if_neg (by intro h; rw [h] at e1; simp at e1)]
        clear HT
        go_wp2_with fail
        go_roundg (l.length - (k + 1))
        case measure => have := HK.out; omega
        case rel => exact ⟨k + 1, by have := HK.out; omega, by go_num, rfl, HU2⟩
      · have hR2 : R = (k : Int) := by rw [HT.out, if_pos (eq_of_beq e1).symm]
        subst hR2
        clear HT
        go_wp2_with fail
        go_ret
        exact ⟨rfl, Below.junk (by repeat (first | (with_reducible exact Below.refl _ _) | (with_reducible refine Below.allocS ?_ _) | (with_reducible refine Below.moreS ?_ _) | (with_reducible refine Below.drew ?_) | (with_reducible refine below_drewN ?_ _)))⟩
    · have hR2 : R = -1 := by rw [HU.out, List.drop_of_length_le (by omega)]; rfl
      subst hR2
      clear HU
      go_wp2_with fail
      go_ret
      exact ⟨rfl, Below.junk (by repeat (first | (with_reducible exact Below.refl _ _) | (with_reducible refine Below.allocS ?_ _) | (with_reducible refine Below.moreS ?_ _) | (with_reducible refine Below.drew ?_) | (with_reducible refine below_drewN ?_ _)))⟩
/-- The words of a text: what strings.Split hands back, and how it lies. -/
theorem split_words (t : List UInt8) (c : UInt8) (l : List (List UInt8)) (ht : cutF c t = l) (m : Int) (w : World) (hm : t.length ≤ 1048576) (hM : w.cell? ⟨0, 0, none⟩ = some (.int .i64 m)) :
    Calls Tryd.prog 10 #[bstr t, bstr [c]] w fun e w' => e = .returned (.slice (some ⟨w.heap.size, 0, none⟩) l.length l.length) ∧ ∃ j, w' = w.more j ∧ SlX w' w'.heap.size (some ⟨w.heap.size, 0, none⟩) l := by
  have h1 := strings_split t c m w hm hM
  have h2 := split_slX t c w hm
  rw [split_cut, ht] at h1 h2
  refine h1.mono fun e w' ⟨he, hw⟩ => ⟨he, ?_⟩
  subst hw
  obtain ⟨j, hj⟩ : ∃ j, w.alloc (.cells (l.map bstr).toArray 9) = w.more j := Below.junk (by repeat (first | (with_reducible exact Below.refl _ _) | (with_reducible refine Below.allocS ?_ _) | (with_reducible refine Below.moreS ?_ _) | (with_reducible refine Below.drew ?_) | (with_reducible refine below_drewN ?_ _)))
  exact ⟨j, hj, by rw [World.size_alloc]; exact h2⟩
end Go.Proofs.YtgghddhdkfocoaaDoor
