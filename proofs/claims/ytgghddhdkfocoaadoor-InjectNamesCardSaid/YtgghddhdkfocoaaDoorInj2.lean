/-
  What is done wrong: the chapter's example.
-/
import Derived.Test.YtgghddhdkfocoaaDoorInj1
import Derived.Test.YtgghddhdkfocoaaDoorHeld
import Derived.Deep.OwnRows
namespace Go.Proofs.YtgghddhdkfocoaaDoor
set_option linter.unusedSimpArgs false
set_option linter.unusedVariables false
set_option linter.unusedSectionVars false
open Go.ChangeShapes Go.WideShapes Go.ChangeAt Go.RowKit Go.Deep Go.Shelf

set_option maxRecDepth 100000 in
theorem spec_within (n a b : Int) (w : World) : Calls Tryd.prog 22 #[.int .i64 n, .int .i64 a, .int .i64 b] w fun e w' => e = .returned (.bool (decide (a ≤ n) && decide (n ≤ b))) ∧ w = w' := by
  by_cases h0 : a ≤ n <;> by_cases h1 : n ≤ b
  all_goals
    go_enter Tryd.func22, Tryd.ntmps22
    go_wp2_with fail
    go_ret
    exact ⟨by simp [h0, h1], rfl⟩
set_option maxRecDepth 100000 in
theorem spec_stream1 (w : World) : Calls Tryd.prog 23 #[.int .i64 1] w fun e w' => e = .returned (.bool true) ∧ w = w' := by
  have HW : Hid (∀ W, Calls Tryd.prog 22 #[.int .i64 1, .int .i64 1, .int .i64 2147483647] W fun e w' => e = .returned (.bool true) ∧ W = w') := spec_within 1 1 2147483647
  go_enter Tryd.func23, Tryd.ntmps23
  go_wp2_with (go_at_call 22; (with_reducible refine (HW.out _).mono ?_); rintro e w' ⟨rfl, rfl⟩)
  go_ret
  exact ⟨rfl, rfl⟩
set_option maxHeartbeats 4000000 in
set_option maxRecDepth 100000 in
theorem spec_Right21 (w : World) : Calls Tryd.prog 14 #[.agg #[.int .i64 0, .slice none 0 0, .int .i64 2, .int .i64 1]] w fun e w' => e = .returned (.bool true) ∧ ∃ j, w' = w.more j := by
  have HW : Hid (∀ W, Calls Tryd.prog 22 #[.int .i64 2, .int .i64 1, .int .i64 26] W fun e w' => e = .returned (.bool true) ∧ W = w') := spec_within 2 1 26
  have HS : Hid (∀ W, Calls Tryd.prog 23 #[.int .i64 1] W fun e w' => e = .returned (.bool true) ∧ W = w') := spec_stream1
  obtain ⟨wk, hwk⟩ : ∃ x, x = w.alloc (.cells #[.int .i64 0, .slice none 0 0, .int .i64 2, .int .i64 1] 46) := ⟨_, rfl⟩
  have HWK := Lib.hid hwk
  clear hwk
  go_enter Tryd.func14, Tryd.ntmps14
  go_wp2_with fail
  go_loopg [3, 23] 0 (fun g n i wr => g = 0 ∧ n = .int .i64 0 ∧ i = .int .i64 0 ∧ wr = wk)
  case atStart => exact ⟨rfl, rfl, rfl, HWK.out.symm⟩
  case round =>
    obtain ⟨rfl, rfl, rfl, rfl⟩ := hrel
    rw [HWK.out]
    go_wp2_with (first
      | (go_at_call 22; (with_reducible refine (HW.out _).mono ?_); rintro e w' ⟨rfl, rfl⟩)
      | (go_at_call 23; (with_reducible refine (HS.out _).mono ?_); rintro e w' ⟨rfl, rfl⟩))
    go_ret
    exact ⟨rfl, Below.junk (by repeat (first | (with_reducible exact Below.refl _ _) | (with_reducible refine Below.allocS ?_ _) | (with_reducible refine Below.moreS ?_ _) | (with_reducible refine Below.drew ?_) | (with_reducible refine below_drewN ?_ _)))⟩
set_option maxHeartbeats 4000000 in
set_option maxRecDepth 100000 in
theorem inject_may (w : World) : Calls Tryd.prog 11 #[.agg #[.int .i64 2, .int .i64 1], .int .i64 0] w fun e w' => e = .returned (.bool true) ∧ ∃ j, w' = w.more j := by
  have HR : Hid (∀ W, Calls Tryd.prog 14 #[.agg #[.int .i64 0, .slice none 0 0, .int .i64 2, .int .i64 1]] W fun e w' => e = .returned (.bool true) ∧ ∃ j, w' = W.more j) := spec_Right21
  go_enter Tryd.func11, Tryd.ntmps11
  go_wp2_with (go_at_call 14; (with_reducible refine (HR.out _).mono ?_); rintro e w' ⟨rfl, j, rfl⟩)
  go_ret
  exact ⟨rfl, Below.junk (by repeat (first | (with_reducible exact Below.refl _ _) | (with_reducible refine Below.allocS ?_ _) | (with_reducible refine Below.moreS ?_ _) | (with_reducible refine Below.drew ?_) | (with_reducible refine below_drewN ?_ _)))⟩
theorem info_u8 : (Tryd.prog.info? 5).map (fun i => (i.zero, i.size, i.bytes)) = some (some (.int .u8 0), 1, 1) := by kernel_rfl
set_option maxRecDepth 100000 in
theorem inject_nulls7 (w : World) : Calls Tryd.prog 16 #[.int .i64 7] w fun e w' => ∃ g, e = .returned (.slice (some ⟨g, 0, none⟩) 7 7) ∧ ∃ j, w' = w.more j := by
  have hmk : ∀ W, (Instr.makeSlice 35 (.int .i64 7) (.int .i64 7)).run Tryd.prog W = .ok (.slice (some ⟨W.heap.size, 0, none⟩) 7 7) (W.alloc (.cells (madeCells #[.int .u8 0] 7) 5)) := run_make_row' (P := Tryd.prog) 35 5 (.int .u8 0) 1 Tryd.underlying35 info_u8 rfl .i64 .i64 7 (by omega) (by omega)
  go_enter Tryd.func16, Tryd.ntmps16
  go_wp2_with fail
  go_ret
  exact ⟨_, rfl, Below.junk (by repeat (first | (with_reducible exact Below.refl _ _) | (with_reducible refine Below.allocS ?_ _) | (with_reducible refine Below.moreS ?_ _) | (with_reducible refine Below.drew ?_) | (with_reducible refine below_drewN ?_ _)))⟩
set_option maxRecDepth 100000 in
theorem inject_frame7 (g : Nat) (w : World) : Calls Tryd.prog 15 #[.int .i64 6, .int .i64 0, .int .i64 0, .slice (some ⟨g, 0, none⟩) 7 7] w fun e w' => e = .returned (.slice (some ⟨w.heap.size, 0, none⟩) 1 1) ∧ w' = w.alloc (.cells #[.int .i64 0, .int .i64 6, .int .i64 0, .int .i64 0, .bool false, .slice (some ⟨g, 0, none⟩) 7 7] 37) := by
  go_enter Tryd.func15, Tryd.ntmps15
  go_wp2_with fail
  go_ret
  exact ⟨rfl, rfl⟩
/-- One frame: a ping of seven bytes. -/
def OneAt (g : Nat) (w : World) : Prop := ∃ h : Nat, Blk w g 37 #[.int .i64 0, .int .i64 6, .int .i64 0, .int .i64 0, .bool false, .slice (some ⟨h, 0, none⟩) 7 7]
set_option maxHeartbeats 4000000 in
set_option maxRecDepth 100000 in
theorem inject_lengths7 (w : World) : Calls Tryd.prog 12 #[bstr [112, 105, 110, 103, 55], .int .i64 1] w fun e w' => ∃ g, e = .returned (.slice (some ⟨g, 0, none⟩) 1 1) ∧ OneAt g w' ∧ w.heap.size ≤ g ∧ Below w.heap.size w w' := by
  go_enter Tryd.func12, Tryd.ntmps12
  go_wp2_with fail
  refine (inject_nulls7 _).mono ?_
  rintro e w1 ⟨g, rfl, j, rfl⟩
  go_wp2_with fail
  refine (inject_frame7 g _).mono ?_
  rintro e w2 ⟨rfl, rfl⟩
  go_wp2_with fail
  go_ret
  exact ⟨_, rfl, ⟨g, Blk.at_ _ _ _ (by simp)⟩, by simp, (by repeat (first | (with_reducible exact Below.refl _ _) | (with_reducible refine Below.allocS ?_ _) | (with_reducible refine Below.moreS ?_ _) | (with_reducible refine Below.drew ?_) | (with_reducible refine below_drewN ?_ _)))⟩
theorem inj_two2 : injN 2 = [112, 105, 110, 103, 55] := by decide
set_option maxHeartbeats 8000000 in
set_option maxRecDepth 100000 in
theorem inject_Frames21 (m : Int) (w : World) (hM : w.cell? MaxA = some (.int .i64 m)) : Calls Tryd.prog 8 #[.agg #[.int .i64 2, .int .i64 1], .int .i64 0] w fun e w' => ∃ g, e = .returned (.tuple #[.slice (some ⟨g, 0, none⟩) 1 1, .int .i64 0]) ∧ OneAt g w' ∧ Below w.heap.size w w' := by
  have HM : Hid (∀ W, Calls Tryd.prog 11 #[.agg #[.int .i64 2, .int .i64 1], .int .i64 0] W fun e w' => e = .returned (.bool true) ∧ ∃ j, w' = W.more j) := inject_may
  have HX : Hid (∀ W, Below w.heap.size w W → Calls Tryd.prog 7 #[.int .i64 2] W fun e w' => e = .returned (bstr [112, 105, 110, 103, 55]) ∧ ∃ j, w' = W.more j) := fun W hW => by
    have := inject_Name 2 m W ((hW.cell (p := MaxA) (World.block_lt_of_cell? w MaxA hM)).trans hM)
    rw [inj_two2] at this
    exact this
  clear hM
  obtain ⟨w0, hw0⟩ : ∃ x, x = w.alloc (.cells #[.int .i64 2, .int .i64 1] 34) := ⟨_, rfl⟩
  have hb0 : Below w.heap.size w w0 := by rw [hw0]; exact (by repeat (first | (with_reducible exact Below.refl _ _) | (with_reducible refine Below.allocS ?_ _) | (with_reducible refine Below.moreS ?_ _) | (with_reducible refine Below.drew ?_) | (with_reducible refine below_drewN ?_ _)))
  have hd0 : Blk w0 w.heap.size 34 #[.int .i64 2, .int .i64 1] := by rw [hw0]; exact Blk.new _ _ _
  have HB0 := Lib.hid hb0
  have HD0 := Lib.hid hd0
  clear hb0 hd0
  go_enter Tryd.func8, Tryd.ntmps8
  go_wp2_with fail
  rw [← hw0]
  refine (HM.out w0).mono ?_
  rintro e w1 ⟨rfl, j, rfl⟩
  obtain ⟨w1, hw1⟩ : ∃ x, x = (w0.more j).drew := ⟨_, rfl⟩
  have hb1 : Below w0.heap.size w0 w1 := by rw [hw1]; exact (by repeat (first | (with_reducible exact Below.refl _ _) | (with_reducible refine Below.allocS ?_ _) | (with_reducible refine Below.moreS ?_ _) | (with_reducible refine Below.drew ?_) | (with_reducible refine below_drewN ?_ _)))
  have HB1 := Lib.hid (HB0.out.trans (hb1.mono HB0.out.size))
  have hd1 := HD0.out.below hb1 HD0.out.lt
  have HD1 := Lib.hid hd1
  clear hb1 HD0 HB0 hw0
  go_wp2_with fail
  refine grown_start (by kernel_rfl) ?_
  rw [← hw1]
  clear hw1
  obtain ⟨d0, d1, _, _, hks⟩ := hd1.two
  clear hd1
  refine grown_take 0 (v := ?_) rfl (by kernel_rfl) (by kernel_rfl) (by kernel_rfl) (fun _ _ _ h => h) (Or.inl ⟨by rfl, ?_⟩) ?_
  rotate_left
  · intro wS hSw; have hSc := hSw.cell; clear hSw; go_simp; try with_reducible rfl
  try simp only [Act.put, List.setIfInBounds_toArray, List.set_cons_zero, List.set_cons_succ]
  refine grown_take 1 (v := ?_) rfl (by kernel_rfl) (by kernel_rfl) (by kernel_rfl) (fun _ _ _ h => h) (Or.inl ⟨by rfl, ?_⟩) ?_
  rotate_left
  · intro wS hSw; have hSc := hSw.cell; clear hSw; go_simp; try with_reducible rfl
  try simp only [Act.put, List.setIfInBounds_toArray, List.set_cons_zero, List.set_cons_succ]
  refine grown_take 3 (v := ?_) rfl (by kernel_rfl) (by kernel_rfl) (by kernel_rfl) (fun _ _ _ h => h) (Or.inl ⟨by rfl, ?_⟩) ?_
  rotate_left
  · intro wS hSw; have hSc := hSw.cell; clear hSw; go_simp; try with_reducible rfl
  try simp only [Act.put, List.setIfInBounds_toArray, List.set_cons_zero, List.set_cons_succ]
  refine grown_take 4 (v := ?_) rfl (by kernel_rfl) (by kernel_rfl) (by kernel_rfl) (fun _ _ _ h => h) (Or.inl ⟨by rfl, ?_⟩) ?_
  rotate_left
  · intro wS hSw; have hSc := hSw.cell; clear hSw; go_simp; try with_reducible rfl
  try simp only [Act.put, List.setIfInBounds_toArray, List.set_cons_zero, List.set_cons_succ]
  clear d0 d1 hks
  refine grown_step 2 (by kernel_rfl) rfl (fun K hK => ?_)
  go_simp
  go_wp2_with fail
  refine (HX.out w1 HB1.out).mono ?_
  rintro e w2 ⟨rfl, j2, rfl⟩
  have HB2 := Lib.hid (HB1.out.trans (((Below.refl w1.heap.size w1).moreS j2).mono HB1.out.size))
  go_wp2_with fail
  refine hK.out _ _ (show Below _ _ _ from (Below.refl w1.heap.size w1).moreS j2) ?_
  clear hK K
  try simp only [Act.put, List.setIfInBounds_toArray, List.set_cons_zero, List.set_cons_succ]
  refine grown_step 5 (by kernel_rfl) rfl (fun K hK => ?_)
  go_simp
  go_wp2_with fail
  refine (inject_lengths7 _).mono ?_
  rintro e w3 ⟨g, rfl, ⟨h, hone⟩, hg, hb⟩
  have HB3 := Lib.hid (HB2.out.trans (hb.mono HB2.out.size))
  have HO := Lib.hid hone
  have HG : Hid (w.heap.size ≤ g) := Nat.le_trans HB2.out.size hg
  have HH := Lib.hid hb
  clear hb hone hg
  go_wp2_with fail
  refine hK.out _ _ (show Below _ _ _ from HH.out) ?_
  clear hK K HH
  try simp only [Act.put, List.setIfInBounds_toArray, List.set_cons_zero, List.set_cons_succ]
  refine grown_take 6 (v := ?_) rfl (by kernel_rfl) (by kernel_rfl) (by kernel_rfl) (fun _ _ _ h => h) (Or.inl ⟨by rfl, ?_⟩) ?_
  rotate_left
  · intro wS hSw; have hSc := hSw.cell; clear hSw; go_simp; try with_reducible rfl
  try simp only [Act.put, List.setIfInBounds_toArray, List.set_cons_zero, List.set_cons_succ]
  refine wpAnyH_done (by kernel_rfl) ?_ _
  go_wp2_with fail
  go_loopg [20] 1 (fun q i wr => ∃ k : Nat, k + q = 1 ∧ i = .int .i64 k ∧ Blk wr g 37 #[.int .i64 0, .int .i64 6, .int .i64 0, .int .i64 0, .bool false, .slice (some ⟨h, 0, none⟩) 7 7] ∧ Below w.heap.size w wr)
  case atStart => exact ⟨0, rfl, rfl, HO.out, HB3.out⟩
  case round =>
    obtain ⟨k, hkq, rfl, hblk, hb⟩ := hrel
    have HBL := Lib.hid hblk
    have HBB := Lib.hid hb
    rcases (by omega : k = 0 ∨ k = 1) with rfl | rfl
    · have c0 := hblk.cell 0
      have f0 := hblk.frozen 0
      have hl := hblk.lt
      clear hblk hb
      go_wp2_with fail
      go_roundg 0
      case measure => omega
      case rel => exact ⟨1, rfl, by go_num, HBL.out.set_ 0 (.int .i64 0), HBB.out.setCell HG.out _⟩
    · clear hblk hb
      go_wp2_with fail
      go_ret2
      exact ⟨_, rfl, ⟨h, HBL.out⟩, HBB.out⟩
end Go.Proofs.YtgghddhdkfocoaaDoor
