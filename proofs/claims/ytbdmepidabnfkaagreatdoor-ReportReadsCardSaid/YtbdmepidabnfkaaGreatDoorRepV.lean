/-
  Reports: plain: the text of a small report is short.
-/
import Derived.Test.YtbdmepidabnfkaaGreatDoorRep8
import Derived.Test.YtbdmepidabnfkaaGreatDoorRepR
namespace Go.Proofs.YtbdmepidabnfkaaGreatDoor
set_option linter.unusedSimpArgs false
set_option linter.unusedVariables false
set_option linter.unusedSectionVars false
open Go.ChangeShapes Go.WideShapes Go.ChangeAt Go.RowKit Go.Deep Go.Shelf

theorem join_leN (c : UInt8) (N : Nat) : ∀ l : List (List UInt8), (∀ x ∈ l, x.length ≤ N) → (Lib.join l [c]).length ≤ (N + 1) * l.length
  | [], _ => by simp [Lib.join_nil]
  | [a], h => by
    rw [Lib.join_one]
    have := h a (by simp)
    simp only [List.length_cons, List.length_nil]
    omega
  | a :: b :: r, h => by
    rw [join_two]
    have h1 := h a (by simp)
    have h2 := join_leN c N (b :: r) (fun x hx => h x (by simp only [List.mem_cons] at hx ⊢; exact .inr hx))
    rw [show (a :: b :: r).length = (b :: r).length + 1 from rfl, Nat.mul_succ]
    simp only [List.length_append, List.length_cons, List.length_nil] at h2 ⊢
    omega
theorem showW_fine (l : List Fl) : (showW l).length ≤ 32 * l.length + 1 := by
  unfold showW
  split
  · simp
  · have h1 := join_leN 44 31 ((ofF l).map textW) (by simp only [List.mem_map]; rintro x ⟨f, _, rfl⟩; exact textW_len f)
    have h2 := ofF_len l
    rw [List.length_map] at h1
    omega
theorem showR_fine (l : List Int) : (showR l).length ≤ 10 * l.length + 1 := by
  unfold showR
  split
  · simp
  · have h1 := join_leN 44 9 ((ofR l).map nameR) (by simp only [List.mem_map]; rintro x ⟨f, _, rfl⟩; exact nameR_len f)
    have h2 := ofR_len l
    rw [List.length_map] at h1
    omega
theorem join_ge (c : UInt8) : ∀ l : List (List UInt8), (∀ x ∈ l, x ≠ []) → l.length ≤ (Lib.join l [c]).length
  | [], _ => by simp
  | [a], h => by
    rw [Lib.join_one]
    have := List.length_pos_iff.2 (h a (by simp))
    simp only [List.length_cons, List.length_nil]
    omega
  | a :: b :: r, h => by
    rw [join_two]
    have h2 := join_ge c (b :: r) (fun x hx => h x (by simp only [List.mem_cons] at hx ⊢; exact .inr hx))
    rw [show (a :: b :: r).length = (b :: r).length + 1 from rfl]
    simp only [List.length_append, List.length_cons, List.length_nil] at h2 ⊢
    omega
theorem showW_ge {l : List Fl} (h : ofF l = l) : l.length ≤ (showW l).length := by
  have h2 : (ofF l).length = l.length := by rw [h]
  unfold showW
  split
  · rename_i h0; rw [h0] at h2; simp at h2; simp [← h2]
  · have h1 := join_ge 44 ((ofF l).map textW) (by
      simp only [List.mem_map]
      rintro x ⟨f, hf, rfl⟩
      rw [textW_right (ofF_right l f hf)]
      simp)
    rw [List.length_map] at h1
    omega
theorem showR_ge {l : List Int} (h : ofR l = l) : l.length ≤ (showR l).length := by
  have h2 : (ofR l).length = l.length := by rw [h]
  unfold showR
  split
  · rename_i h0; rw [h0] at h2; simp at h2; simp [← h2]
  · have h1 := join_ge 44 ((ofR l).map nameR) (by
      simp only [List.mem_map]
      rintro x ⟨n, hn, rfl⟩
      obtain ⟨k, rfl, hk⟩ := rul_in ((mem_ofR l n).1 hn).2
      rw [nameR_in k hk]
      exact rul_ne ⟨k, hk⟩)
    rw [List.length_map] at h1
    omega
theorem textD_sets (c0 c1 c2 c3 c4 c5 : Int) (a : Option Addr) (l : List Rec) (c : Nat) (v t : Int) (fa : Option Addr) (fs : List Fl) (fc : Nat) (ua : Option Addr) (us : List Int) (uc : Nat) (f0 f1 : Int) (h : rightD ⟨c0, c1, c2, c3, c4, c5, l, v, t, fs, us, f0, f1⟩ = true) : fs.length ≤ (textD ⟨c0, c1, c2, c3, c4, c5, l, v, t, fs, us, f0, f1⟩).length ∧ us.length ≤ (textD ⟨c0, c1, c2, c3, c4, c5, l, v, t, fs, us, f0, f1⟩).length := by
  obtain ⟨hf, hu⟩ := right_sets h
  simp only at hf hu
  have h1 := showW_ge hf
  have h2 := showR_ge hu
  rw [text_parts c0 c1 c2 c3 c4 c5 a l c v t fa fs fc ua us uc f0 f1]
  unfold lnW
  simp only [List.length_append, List.length_cons, List.length_nil] at h1 h2 ⊢
  omega
theorem good_two {x y : Int} (hx : goodI x) (hy : goodI y) : ∀ n ∈ [x, y], goodI n := by
  intro n hn
  simp only [List.mem_cons, List.not_mem_nil, or_false] at hn
  rcases hn with rfl | rfl <;> assumption
end Go.Proofs.YtbdmepidabnfkaaGreatDoor
