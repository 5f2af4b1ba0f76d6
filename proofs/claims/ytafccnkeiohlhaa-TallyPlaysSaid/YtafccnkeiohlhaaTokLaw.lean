/-
  The laws TokenNames and TokenValues.
-/
import Derived.Test.YtafccnkeiohlhaaTok2
import Derived.Test.YtafccnkeiohlhaaQuiet
namespace Go.Proofs.Ytafccnkeiohlhaa
open Go.ChangeShapes Go.WideShapes Go.ChangeAt Go.RowKit Go.Deep Go.Sort

theorem name_not_pseudo (l : List UInt8) (h : nameF l = true) : pseudoF l = false := by
  cases l with
  | nil => rfl
  | cons c r =>
    cases hc : ((c.toNat : Int) == 58) with
    | false => simp [pseudoF, hc]
    | true =>
      exfalso
      simp [nameF] at h
      have h1 := h.1
      simp at hc
      have : mayB c.toNat = false := by rw [show (c.toNat : Int) = 58 by omega]; rfl
      rw [this] at h1
      cases h1

set_option maxRecDepth 100000 in
theorem tokenNames_law (l : List UInt8) (w : World) (hm : l.length ≤ maxLen) :
    Calls Try.prog 5 #[bstr l] w fun e w' => e = .returned (.bool true) ∧ Below w.heap.size w w' := by
  have hx := name_not_pseudo l
  have hm' := hm
  unfold maxLen at hm'
  cases e1 : nameF l with
  | true =>
    have e2 := hx e1
    clear hx
    go_enter Try.func5, Try.ntmps5
    go_wp2_with (first
      | (go_at_call 24; refine (token_Name _ hm _).mono ?_; rintro e w' ⟨rfl, rfl⟩)
      | (go_at_call 25; refine (ref25_Name _ hm _).mono ?_; rintro e w' ⟨rfl, rfl⟩)
      | (go_at_call 26; refine (token_Pseudo _ hm _).mono ?_; rintro e w' ⟨rfl, rfl⟩)
      | (go_at_call 27; refine (ref25_Pseudo _ hm _).mono ?_; rintro e w' ⟨rfl, rfl⟩)
      | (go_at_call 23; refine (law25_alive _).mono ?_; rintro e w' ⟨rfl, rfl⟩))
    all_goals go_ret
    all_goals exact ⟨rfl, Below.refl _ _⟩
  | false =>
    clear hx
    go_enter Try.func5, Try.ntmps5
    go_wp2_with (first
      | (go_at_call 24; refine (token_Name _ hm _).mono ?_; rintro e w' ⟨rfl, rfl⟩)
      | (go_at_call 25; refine (ref25_Name _ hm _).mono ?_; rintro e w' ⟨rfl, rfl⟩)
      | (go_at_call 26; refine (token_Pseudo _ hm _).mono ?_; rintro e w' ⟨rfl, rfl⟩)
      | (go_at_call 27; refine (ref25_Pseudo _ hm _).mono ?_; rintro e w' ⟨rfl, rfl⟩)
      | (go_at_call 23; refine (law25_alive _).mono ?_; rintro e w' ⟨rfl, rfl⟩))
    all_goals go_ret
    all_goals exact ⟨rfl, Below.refl _ _⟩

set_option maxRecDepth 100000 in
theorem tokenValues_law (f : Fd) (w : World) (hn : f.name.length ≤ maxLen) (hv : f.value.length ≤ maxLen) :
    Calls Try.prog 6 #[.agg #[bstr f.name, bstr f.value, .bool f.never]] w fun e w' => e = .returned (.bool true) ∧ Below w.heap.size w w' := by
  have hn' := hn
  have hv' := hv
  unfold maxLen at hn' hv'
  by_cases h1 : (f.name.length : Int) ≤ 500 ∧ (f.value.length : Int) ≤ 500
  · obtain ⟨h1, h2⟩ := h1
    obtain ⟨W, hW⟩ : ∃ W, W = w.alloc (.cells #[bstr f.name, bstr f.value, .bool f.never] 33) := ⟨_, rfl⟩
    have B0 : Blk W w.heap.size 33 #[bstr f.name, bstr f.value, .bool f.never] := hW ▸ Blk.new _ _ _
    have hbW : Below w.heap.size w W := hW ▸ (Below.refl _ _).alloc (Nat.le_refl _) _
    have HW := Lib.hid hW
    clear hW
    obtain ⟨q0, q1, q2, _, _, _, hz⟩ := B0.three
    have c0 := cells_regrown _ _ _ q0
    have c1 := cells_regrown _ _ _ q1
    have c2 := cells_regrown _ _ _ q2
    go_enter Try.func6, Try.ntmps6
    go_wp2_with fail
    rw [← HW.out]
    refine wp_region_quiet_below (by kernel_rfl) (by kernel_rfl) ?_
    repeat (quiet_step (first
      | (go_at_call 28; exact met_same _ (token_Value _ hv _))
      | (go_at_call 29; exact met_same _ (ref25_Value _ hv _))
      | (go_at_call 30; exact met _ (token_Field f hn hv _))
      | (go_at_call 31; exact met _ (ref25_Field f hn hv _))
      | (go_at_call 23; exact met_same _ (law25_alive _))))
    refine wpQuiet_nil ?_
    intro w1 hw1
    obtain ⟨p, rfl⟩ := hw1
    have hbp := below_regrown W p.d p.os
    go_wp2_with fail
    go_ret
    exact ⟨rfl, hbW.trans (hbp.mono hbW.size)⟩
  · go_enter Try.func6, Try.ntmps6
    go_wp2_with (first | (go_at_call 23; refine (law25_alive _).mono ?_; rintro e w' ⟨rfl, rfl⟩))
    all_goals first
      | (exfalso; omega)
      | (go_ret
         exact ⟨rfl, (Below.refl _ _).alloc (Nat.le_refl _) _⟩)
end Go.Proofs.Ytafccnkeiohlhaa
