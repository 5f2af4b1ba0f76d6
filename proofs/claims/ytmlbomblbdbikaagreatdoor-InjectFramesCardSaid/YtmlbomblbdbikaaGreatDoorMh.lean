/-
  Parts of the proof, one behind the other: contracts of the program and plain laws; no condition of their own.
-/
import Derived.Test.YtmlbomblbdbikaaGreatDoorMg
import Derived.Test.YtmlbomblbdbikaaGreatDoorMb
import Derived.Lib.SplitLaws
import Derived.Lib.Join
import Derived.Test.YtmlbomblbdbikaaGreatDoorMa
/-
  The frames of the kinds up to 15: the document.
-/
namespace Go.Proofs.YtmlbomblbdbikaaGreatDoor
set_option linter.unusedSimpArgs false
set_option linter.unusedVariables false
set_option linter.unusedSectionVars false
open Go.ChangeShapes Go.WideShapes Go.ChangeAt Go.RowKit Go.Deep Go.Shelf

set_option maxHeartbeats 400000 in
set_option maxRecDepth 100000 in
theorem rs_1 (s : Int) (w : World) : Calls Tryz.prog 27 #[.int .i64 1, .int .i64 s] w (RawsP [⟨0, 8, s, [5, 0]⟩] w) := by
  unfold RawsP
  go_enter Tryz.func27, Tryz.ntmps27
  go_wp2_with (first | (go_at_call 22; (with_reducible refine (ref46_one _ _ _ _ 2 _ [5, 0] rfl _ ?hsl).mono ?_); (case hsl => exact slB_blk (t := 5) (cs := #[.int .u8 5, .int .u8 0]) [5, 0] (by exact blk) rfl); rintro e w6 ⟨g6, cap6, rfl, hq6⟩; have HQ6 := Lib.hid hq6; clear hq6))
  go_ret
  exact ⟨_, _, rfl, HQ6.out.low bel⟩
set_option maxHeartbeats 400000 in
set_option maxRecDepth 100000 in
theorem rs_2 (s : Int) (w : World) : Calls Tryz.prog 27 #[.int .i64 2, .int .i64 s] w (RawsP [⟨6, 0, 0, nul 7⟩] w) := by
  have hmk : ∀ W, (Instr.makeSlice 38 (.int .i64 7) (.int .i64 7)).run Tryz.prog W = .ok (.slice (some ⟨W.heap.size, 0, none⟩) 7 7) (W.alloc (.cells (List.replicate 7 (.int .u8 0)).toArray 5)) := fun W => run_nul 7 (by omega) W
  have HZ : Hid ((List.replicate 7 (Value.int .u8 0)) = Lib.byteCells (nul 7)) := (byteCells_nul 7).symm
  have HLN : Hid ((nul 7).length = 7) := List.length_replicate
  generalize List.replicate 7 (Value.int .u8 0) = Y at hmk HZ
  generalize nul 7 = Z at HZ HLN ⊢
  unfold RawsP
  go_enter Tryz.func27, Tryz.ntmps27
  go_wp2_with (first | (go_at_call 22; (with_reducible refine (ref46_one _ _ _ _ 7 _ Z HLN.out _ ?hsl).mono ?_); (case hsl => exact slB_blk (t := 5) (cs := Y.toArray) Z (by exact blk) HZ.out); rintro e w6 ⟨g6, cap6, rfl, hq6⟩; have HQ6 := Lib.hid hq6; clear hq6))
  go_ret
  exact ⟨_, _, rfl, HQ6.out.low bel⟩
set_option maxHeartbeats 400000 in
set_option maxRecDepth 100000 in
theorem rs_3 (s : Int) (w : World) : Calls Tryz.prog 27 #[.int .i64 3, .int .i64 s] w (RawsP [⟨6, 0, s, nul 8⟩] w) := by
  have hmk : ∀ W, (Instr.makeSlice 38 (.int .i64 8) (.int .i64 8)).run Tryz.prog W = .ok (.slice (some ⟨W.heap.size, 0, none⟩) 8 8) (W.alloc (.cells (List.replicate 8 (.int .u8 0)).toArray 5)) := fun W => run_nul 8 (by omega) W
  have HZ : Hid ((List.replicate 8 (Value.int .u8 0)) = Lib.byteCells (nul 8)) := (byteCells_nul 8).symm
  have HLN : Hid ((nul 8).length = 8) := List.length_replicate
  generalize List.replicate 8 (Value.int .u8 0) = Y at hmk HZ
  generalize nul 8 = Z at HZ HLN ⊢
  unfold RawsP
  go_enter Tryz.func27, Tryz.ntmps27
  go_wp2_with (first | (go_at_call 22; (with_reducible refine (ref46_one _ _ _ _ 8 _ Z HLN.out _ ?hsl).mono ?_); (case hsl => exact slB_blk (t := 5) (cs := Y.toArray) Z (by exact blk) HZ.out); rintro e w6 ⟨g6, cap6, rfl, hq6⟩; have HQ6 := Lib.hid hq6; clear hq6))
  go_ret
  exact ⟨_, _, rfl, HQ6.out.low bel⟩
set_option maxHeartbeats 400000 in
set_option maxRecDepth 100000 in
theorem rs_4 (s : Int) (w : World) : Calls Tryz.prog 27 #[.int .i64 4, .int .i64 s] w (RawsP [⟨4, 0, s, []⟩] w) := by
  unfold RawsP
  go_enter Tryz.func27, Tryz.ntmps27
  go_wp2_with (first | (go_at_call 22; (with_reducible refine (ref46_one _ _ _ _ 0 _ [] rfl _ SlR.nil).mono ?_); rintro e w6 ⟨g6, cap6, rfl, hq6⟩; have HQ6 := Lib.hid hq6; clear hq6))
  go_ret
  exact ⟨_, _, rfl, HQ6.out⟩
set_option maxHeartbeats 400000 in
set_option maxRecDepth 100000 in
theorem rs_5 (s : Int) (w : World) : Calls Tryz.prog 27 #[.int .i64 5, .int .i64 s] w (RawsP [⟨4, 1, 0, nul 6⟩] w) := by
  have hmk : ∀ W, (Instr.makeSlice 38 (.int .i64 6) (.int .i64 6)).run Tryz.prog W = .ok (.slice (some ⟨W.heap.size, 0, none⟩) 6 6) (W.alloc (.cells (List.replicate 6 (.int .u8 0)).toArray 5)) := fun W => run_nul 6 (by omega) W
  have HZ : Hid ((List.replicate 6 (Value.int .u8 0)) = Lib.byteCells (nul 6)) := (byteCells_nul 6).symm
  have HLN : Hid ((nul 6).length = 6) := List.length_replicate
  generalize List.replicate 6 (Value.int .u8 0) = Y at hmk HZ
  generalize nul 6 = Z at HZ HLN ⊢
  unfold RawsP
  go_enter Tryz.func27, Tryz.ntmps27
  go_wp2_with (first | (go_at_call 22; (with_reducible refine (ref46_one _ _ _ _ 6 _ Z HLN.out _ ?hsl).mono ?_); (case hsl => exact slB_blk (t := 5) (cs := Y.toArray) Z (by exact blk) HZ.out); rintro e w6 ⟨g6, cap6, rfl, hq6⟩; have HQ6 := Lib.hid hq6; clear hq6))
  go_ret
  exact ⟨_, _, rfl, HQ6.out.low bel⟩
set_option maxHeartbeats 400000 in
set_option maxRecDepth 100000 in
theorem rs_6 (s : Int) (w : World) : Calls Tryz.prog 27 #[.int .i64 6, .int .i64 s] w (RawsP [⟨4, 0, 0, nul 5⟩] w) := by
  have hmk : ∀ W, (Instr.makeSlice 38 (.int .i64 5) (.int .i64 5)).run Tryz.prog W = .ok (.slice (some ⟨W.heap.size, 0, none⟩) 5 5) (W.alloc (.cells (List.replicate 5 (.int .u8 0)).toArray 5)) := fun W => run_nul 5 (by omega) W
  have HZ : Hid ((List.replicate 5 (Value.int .u8 0)) = Lib.byteCells (nul 5)) := (byteCells_nul 5).symm
  have HLN : Hid ((nul 5).length = 5) := List.length_replicate
  generalize List.replicate 5 (Value.int .u8 0) = Y at hmk HZ
  generalize nul 5 = Z at HZ HLN ⊢
  unfold RawsP
  go_enter Tryz.func27, Tryz.ntmps27
  go_wp2_with (first | (go_at_call 22; (with_reducible refine (ref46_one _ _ _ _ 5 _ Z HLN.out _ ?hsl).mono ?_); (case hsl => exact slB_blk (t := 5) (cs := Y.toArray) Z (by exact blk) HZ.out); rintro e w6 ⟨g6, cap6, rfl, hq6⟩; have HQ6 := Lib.hid hq6; clear hq6))
  go_ret
  exact ⟨_, _, rfl, HQ6.out.low bel⟩
set_option maxHeartbeats 400000 in
set_option maxRecDepth 100000 in
theorem rs_7 (s : Int) (w : World) : Calls Tryz.prog 27 #[.int .i64 7, .int .i64 s] w (RawsP [⟨8, 0, 0, nul 4⟩] w) := by
  have hmk : ∀ W, (Instr.makeSlice 38 (.int .i64 4) (.int .i64 4)).run Tryz.prog W = .ok (.slice (some ⟨W.heap.size, 0, none⟩) 4 4) (W.alloc (.cells (List.replicate 4 (.int .u8 0)).toArray 5)) := fun W => run_nul 4 (by omega) W
  have HZ : Hid ((List.replicate 4 (Value.int .u8 0)) = Lib.byteCells (nul 4)) := (byteCells_nul 4).symm
  have HLN : Hid ((nul 4).length = 4) := List.length_replicate
  generalize List.replicate 4 (Value.int .u8 0) = Y at hmk HZ
  generalize nul 4 = Z at HZ HLN ⊢
  unfold RawsP
  go_enter Tryz.func27, Tryz.ntmps27
  go_wp2_with (first | (go_at_call 22; (with_reducible refine (ref46_one _ _ _ _ 4 _ Z HLN.out _ ?hsl).mono ?_); (case hsl => exact slB_blk (t := 5) (cs := Y.toArray) Z (by exact blk) HZ.out); rintro e w6 ⟨g6, cap6, rfl, hq6⟩; have HQ6 := Lib.hid hq6; clear hq6))
  go_ret
  exact ⟨_, _, rfl, HQ6.out.low bel⟩
set_option maxHeartbeats 400000 in
set_option maxRecDepth 100000 in
theorem rs_8 (s : Int) (w : World) : Calls Tryz.prog 27 #[.int .i64 8, .int .i64 s] w (RawsP [⟨8, 0, 0, [127, 255, 255, 255]⟩] w) := by
  unfold RawsP
  go_enter Tryz.func27, Tryz.ntmps27
  go_wp2_with (first | (go_at_call 22; (with_reducible refine (ref46_one _ _ _ _ 4 _ [127, 255, 255, 255] rfl _ ?hsl).mono ?_); (case hsl => exact slB_blk (t := 5) (cs := #[.int .u8 127, .int .u8 255, .int .u8 255, .int .u8 255]) [127, 255, 255, 255] (by exact blk) rfl); rintro e w6 ⟨g6, cap6, rfl, hq6⟩; have HQ6 := Lib.hid hq6; clear hq6))
  go_ret
  exact ⟨_, _, rfl, HQ6.out.low bel⟩
set_option maxHeartbeats 400000 in
set_option maxRecDepth 100000 in
theorem rs_9 (s : Int) (w : World) : Calls Tryz.prog 27 #[.int .i64 9, .int .i64 s] w (RawsP [⟨0, 0, s, [0]⟩] w) := by
  unfold RawsP
  go_enter Tryz.func27, Tryz.ntmps27
  go_wp2_with (first | (go_at_call 22; (with_reducible refine (ref46_one _ _ _ _ 1 _ [0] rfl _ ?hsl).mono ?_); (case hsl => exact slB_blk (t := 5) (cs := #[.int .u8 0]) [0] (by exact blk) rfl); rintro e w6 ⟨g6, cap6, rfl, hq6⟩; have HQ6 := Lib.hid hq6; clear hq6))
  go_ret
  exact ⟨_, _, rfl, HQ6.out.low bel⟩
set_option maxHeartbeats 400000 in
set_option maxRecDepth 100000 in
theorem rs_10 (s : Int) (w : World) : Calls Tryz.prog 27 #[.int .i64 10, .int .i64 s] w (RawsP [⟨3, 0, s, [0, 0, 0, 8]⟩] w) := by
  unfold RawsP
  go_enter Tryz.func27, Tryz.ntmps27
  go_wp2_with (first | (go_at_call 22; (with_reducible refine (ref46_one _ _ _ _ 4 _ [0, 0, 0, 8] rfl _ ?hsl).mono ?_); (case hsl => exact slB_blk (t := 5) (cs := #[.int .u8 0, .int .u8 0, .int .u8 0, .int .u8 8]) [0, 0, 0, 8] (by exact blk) rfl); rintro e w6 ⟨g6, cap6, rfl, hq6⟩; have HQ6 := Lib.hid hq6; clear hq6))
  go_ret
  exact ⟨_, _, rfl, HQ6.out.low bel⟩
set_option maxHeartbeats 400000 in
set_option maxRecDepth 100000 in
theorem rs_11 (s : Int) (w : World) : Calls Tryz.prog 27 #[.int .i64 11, .int .i64 s] w (RawsP [⟨9, 4, s, []⟩] w) := by
  unfold RawsP
  go_enter Tryz.func27, Tryz.ntmps27
  go_wp2_with (first | (go_at_call 22; (with_reducible refine (ref46_one _ _ _ _ 0 _ [] rfl _ SlR.nil).mono ?_); rintro e w6 ⟨g6, cap6, rfl, hq6⟩; have HQ6 := Lib.hid hq6; clear hq6))
  go_ret
  exact ⟨_, _, rfl, HQ6.out⟩
set_option maxHeartbeats 400000 in
set_option maxRecDepth 100000 in
theorem rs_12 (s : Int) (w : World) : Calls Tryz.prog 27 #[.int .i64 12, .int .i64 s] w (RawsP [⟨2, 0, s, nul 4⟩] w) := by
  have hmk : ∀ W, (Instr.makeSlice 38 (.int .i64 4) (.int .i64 4)).run Tryz.prog W = .ok (.slice (some ⟨W.heap.size, 0, none⟩) 4 4) (W.alloc (.cells (List.replicate 4 (.int .u8 0)).toArray 5)) := fun W => run_nul 4 (by omega) W
  have HZ : Hid ((List.replicate 4 (Value.int .u8 0)) = Lib.byteCells (nul 4)) := (byteCells_nul 4).symm
  have HLN : Hid ((nul 4).length = 4) := List.length_replicate
  generalize List.replicate 4 (Value.int .u8 0) = Y at hmk HZ
  generalize nul 4 = Z at HZ HLN ⊢
  unfold RawsP
  go_enter Tryz.func27, Tryz.ntmps27
  go_wp2_with (first | (go_at_call 22; (with_reducible refine (ref46_one _ _ _ _ 4 _ Z HLN.out _ ?hsl).mono ?_); (case hsl => exact slB_blk (t := 5) (cs := Y.toArray) Z (by exact blk) HZ.out); rintro e w6 ⟨g6, cap6, rfl, hq6⟩; have HQ6 := Lib.hid hq6; clear hq6))
  go_ret
  exact ⟨_, _, rfl, HQ6.out.low bel⟩
set_option maxHeartbeats 400000 in
set_option maxRecDepth 100000 in
theorem rs_13 (s : Int) (w : World) : Calls Tryz.prog 27 #[.int .i64 13, .int .i64 s] w (RawsP [⟨7, 0, 0, nul 7⟩] w) := by
  have hmk : ∀ W, (Instr.makeSlice 38 (.int .i64 7) (.int .i64 7)).run Tryz.prog W = .ok (.slice (some ⟨W.heap.size, 0, none⟩) 7 7) (W.alloc (.cells (List.replicate 7 (.int .u8 0)).toArray 5)) := fun W => run_nul 7 (by omega) W
  have HZ : Hid ((List.replicate 7 (Value.int .u8 0)) = Lib.byteCells (nul 7)) := (byteCells_nul 7).symm
  have HLN : Hid ((nul 7).length = 7) := List.length_replicate
  generalize List.replicate 7 (Value.int .u8 0) = Y at hmk HZ
  generalize nul 7 = Z at HZ HLN ⊢
  unfold RawsP
  go_enter Tryz.func27, Tryz.ntmps27
  go_wp2_with (first | (go_at_call 22; (with_reducible refine (ref46_one _ _ _ _ 7 _ Z HLN.out _ ?hsl).mono ?_); (case hsl => exact slB_blk (t := 5) (cs := Y.toArray) Z (by exact blk) HZ.out); rintro e w6 ⟨g6, cap6, rfl, hq6⟩; have HQ6 := Lib.hid hq6; clear hq6))
  go_ret
  exact ⟨_, _, rfl, HQ6.out.low bel⟩
set_option maxHeartbeats 400000 in
set_option maxRecDepth 100000 in
theorem rs_14 (s : Int) (w : World) : Calls Tryz.prog 27 #[.int .i64 14, .int .i64 s] w (RawsP [⟨5, 4, s, [0, 0, 0, 2]⟩] w) := by
  unfold RawsP
  go_enter Tryz.func27, Tryz.ntmps27
  go_wp2_with (first | (go_at_call 22; (with_reducible refine (ref46_one _ _ _ _ 4 _ [0, 0, 0, 2] rfl _ ?hsl).mono ?_); (case hsl => exact slB_blk (t := 5) (cs := #[.int .u8 0, .int .u8 0, .int .u8 0, .int .u8 2]) [0, 0, 0, 2] (by exact blk) rfl); rintro e w6 ⟨g6, cap6, rfl, hq6⟩; have HQ6 := Lib.hid hq6; clear hq6))
  go_ret
  exact ⟨_, _, rfl, HQ6.out.low bel⟩
set_option maxHeartbeats 400000 in
set_option maxRecDepth 100000 in
theorem rs_15 (s : Int) (w : World) : Calls Tryz.prog 27 #[.int .i64 15, .int .i64 s] w (RawsP [⟨200, 0, 0, nul 16385⟩] w) := by
  have hmk : ∀ W, (Instr.makeSlice 38 (.int .i64 16385) (.int .i64 16385)).run Tryz.prog W = .ok (.slice (some ⟨W.heap.size, 0, none⟩) 16385 16385) (W.alloc (.cells (List.replicate 16385 (.int .u8 0)).toArray 5)) := fun W => run_nul 16385 (by omega) W
  have HZ : Hid ((List.replicate 16385 (Value.int .u8 0)) = Lib.byteCells (nul 16385)) := (byteCells_nul 16385).symm
  have HLN : Hid ((nul 16385).length = 16385) := List.length_replicate
  generalize List.replicate 16385 (Value.int .u8 0) = Y at hmk HZ
  generalize nul 16385 = Z at HZ HLN ⊢
  unfold RawsP
  go_enter Tryz.func27, Tryz.ntmps27
  go_wp2_with (first | (go_at_call 22; (with_reducible refine (ref46_one _ _ _ _ 16385 _ Z HLN.out _ ?hsl).mono ?_); (case hsl => exact slB_blk (t := 5) (cs := Y.toArray) Z (by exact blk) HZ.out); rintro e w6 ⟨g6, cap6, rfl, hq6⟩; have HQ6 := Lib.hid hq6; clear hq6))
  go_ret
  exact ⟨_, _, rfl, HQ6.out.low bel⟩
end Go.Proofs.YtmlbomblbdbikaaGreatDoor
/-
  The frames of the later kinds: the document.
-/
namespace Go.Proofs.YtmlbomblbdbikaaGreatDoor
set_option linter.unusedSimpArgs false
set_option linter.unusedVariables false
set_option linter.unusedSectionVars false
open Go.ChangeShapes Go.WideShapes Go.ChangeAt Go.RowKit Go.Deep Go.Shelf

set_option maxHeartbeats 400000 in
set_option maxRecDepth 100000 in
theorem rf_16 (s : Int) (w : World) : Calls Tryz.prog 14 #[.int .i64 16, .int .i64 s] w (RawsP [⟨1, 5, s, [128]⟩] w) := by
  unfold RawsP
  go_enter Tryz.func14, Tryz.ntmps14
  go_wp2_with (first | (go_at_call 22; (with_reducible refine (ref46_one _ _ _ _ 1 _ [128] rfl _ ?hsl).mono ?_); (case hsl => exact slB_blk (t := 5) (cs := #[.int .u8 128]) [128] (by exact blk) rfl); rintro e w6 ⟨g6, cap6, rfl, hq6⟩; have HQ6 := Lib.hid hq6; clear hq6))
  go_ret
  exact ⟨_, _, rfl, HQ6.out.low bel⟩
set_option maxHeartbeats 400000 in
set_option maxRecDepth 100000 in
theorem rf_17 (s : Int) (w : World) : Calls Tryz.prog 14 #[.int .i64 17, .int .i64 s] w (RawsP [⟨1, 5, s, putL 32 5 2147483647⟩] w) := by
  have HP : Hid (∀ W, Calls Tryz.prog 23 #[.agg #[.int .i64 5, .int .i64 0, bstr [], .bool false, bstr [], .bool false, .int .i64 2147483647]] W (RowQ (putL 32 5 2147483647) W)) := ref22_Put5 2147483647 (by decide)
  generalize putL 32 5 2147483647 = Z at HP ⊢
  unfold RawsP
  go_enter Tryz.func14, Tryz.ntmps14
  go_wp2_with (first | (go_at_call 23; (refine (HP.out _).mono ?_); rintro e w3 ⟨v3, rfl, ho3, hb3⟩; obtain ⟨a3, c3, rfl, hs3⟩ := ho3.read; have HS3 := Lib.hid hs3; have HB3 := Lib.hid hb3; clear hb3 ho3 hs3) | (go_at_call 22; (with_reducible refine (ref46_one _ _ _ _ _ _ Z rfl _ HS3.out).mono ?_); rintro e w6 ⟨g6, cap6, rfl, hq6⟩; have HQ6 := Lib.hid hq6; clear hq6))
  go_ret
  exact ⟨_, _, rfl, HQ6.out.low HB3.out⟩
set_option maxHeartbeats 400000 in
set_option maxRecDepth 100000 in
theorem rf_18 (s : Int) (w : World) : Calls Tryz.prog 14 #[.int .i64 18, .int .i64 s] w (RawsP [⟨1, 5, s, encL (rq3 ++ [fdA])⟩] w) := by
  have HP : Hid (∀ a c W, SlF W W.heap.size a [fdA] → Calls Tryz.prog 24 #[.slice a 1 c] W (RowQ (encL (rq3 ++ [fdA])) W)) := fun a c W hW => ref46_request a c fdA en_A W hW
  generalize encL (rq3 ++ [fdA]) = Z at HP ⊢
  unfold RawsP
  go_enter Tryz.func14, Tryz.ntmps14
  go_wp2_with (first | (go_at_call 24; (refine (HP.out _ _ _ ?hf).mono ?_); (case hf => exact slF_blk (t := 65) (cs := #[bstr [65], bstr [98], .bool false]) [fdA] (by exact blk) rfl (by decide)); rintro e w3 ⟨v3, rfl, ho3, hb3⟩; obtain ⟨a3, c3, rfl, hs3⟩ := ho3.read; have HS3 := Lib.hid hs3; have HB3 := Lib.hid hb3; clear hb3 ho3 hs3) | (go_at_call 22; (with_reducible refine (ref46_one _ _ _ _ _ _ Z rfl _ HS3.out).mono ?_); rintro e w6 ⟨g6, cap6, rfl, hq6⟩; have HQ6 := Lib.hid hq6; clear hq6))
  go_ret
  exact ⟨_, _, rfl, HQ6.out.low ((show Below w.heap.size w _ from bel).trans (Below.mono HB3.out (by simp)))⟩
set_option maxHeartbeats 400000 in
set_option maxRecDepth 100000 in
theorem rf_19 (s : Int) (w : World) : Calls Tryz.prog 14 #[.int .i64 19, .int .i64 s] w (RawsP [⟨1, 5, s, encL (rq3 ++ [fdB])⟩] w) := by
  have HP : Hid (∀ a c W, SlF W W.heap.size a [fdB] → Calls Tryz.prog 24 #[.slice a 1 c] W (RowQ (encL (rq3 ++ [fdB])) W)) := fun a c W hW => ref46_request a c fdB en_B W hW
  generalize encL (rq3 ++ [fdB]) = Z at HP ⊢
  unfold RawsP
  go_enter Tryz.func14, Tryz.ntmps14
  go_wp2_with (first | (go_at_call 24; (refine (HP.out _ _ _ ?hf).mono ?_); (case hf => exact slF_blk (t := 65) (cs := #[bstr [99, 111, 110, 110, 101, 99, 116, 105, 111, 110], bstr [99, 108, 111, 115, 101], .bool false]) [fdB] (by exact blk) rfl (by decide)); rintro e w3 ⟨v3, rfl, ho3, hb3⟩; obtain ⟨a3, c3, rfl, hs3⟩ := ho3.read; have HS3 := Lib.hid hs3; have HB3 := Lib.hid hb3; clear hb3 ho3 hs3) | (go_at_call 22; (with_reducible refine (ref46_one _ _ _ _ _ _ Z rfl _ HS3.out).mono ?_); rintro e w6 ⟨g6, cap6, rfl, hq6⟩; have HQ6 := Lib.hid hq6; clear hq6))
  go_ret
  exact ⟨_, _, rfl, HQ6.out.low ((show Below w.heap.size w _ from bel).trans (Below.mono HB3.out (by simp)))⟩
set_option maxHeartbeats 400000 in
set_option maxRecDepth 100000 in
theorem rf_20 (s : Int) (w : World) : Calls Tryz.prog 14 #[.int .i64 20, .int .i64 s] w (RawsP [⟨1, 5, s, encL (rq3.take 2)⟩] w) := by
  have HP : Hid (∀ a c W, SlF W W.heap.size a (rq3.take 2) → Calls Tryz.prog 25 #[.slice a 2 c] W (RowQ (encL (rq3.take 2)) W)) := fun a c W hW => ref46_written a 2 c (rq3.take 2) rfl (by decide) (fun x hx => en_rq x (List.mem_of_mem_take hx)) W hW
  generalize encL (rq3.take 2) = Z at HP ⊢
  unfold RawsP
  go_enter Tryz.func14, Tryz.ntmps14
  go_wp2_with (first | (go_at_call 25; (refine (HP.out _ _ _ ?hf).mono ?_); (case hf => exact slF_blk (t := 65) (cs := #[bstr [58, 109, 101, 116, 104, 111, 100], bstr [71, 69, 84], .bool false, bstr [58, 115, 99, 104, 101, 109, 101], bstr [104, 116, 116, 112], .bool false]) (rq3.take 2) (by exact blk) rfl (by decide)); rintro e w3 ⟨v3, rfl, ho3, hb3⟩; obtain ⟨a3, c3, rfl, hs3⟩ := ho3.read; have HS3 := Lib.hid hs3; have HB3 := Lib.hid hb3; clear hb3 ho3 hs3) | (go_at_call 22; (with_reducible refine (ref46_one _ _ _ _ _ _ Z rfl _ HS3.out).mono ?_); rintro e w6 ⟨g6, cap6, rfl, hq6⟩; have HQ6 := Lib.hid hq6; clear hq6))
  go_ret
  exact ⟨_, _, rfl, HQ6.out.low ((show Below w.heap.size w _ from bel).trans (Below.mono HB3.out (by simp)))⟩
set_option maxHeartbeats 400000 in
set_option maxRecDepth 100000 in
theorem rf_22 (s : Int) (w : World) : Calls Tryz.prog 14 #[.int .i64 22, .int .i64 s] w (RawsP [⟨4, 0, 0, beL 2 2 ++ beL 4 2⟩] w) := by
  have HP : Hid (∀ W, Calls Tryz.prog 26 #[.int .i64 2, .int .i64 2] W (RowQ (beL 2 2 ++ beL 4 2) W)) := ref46_sets 2 2 (by decide) (by decide)
  generalize beL 2 2 ++ beL 4 2 = Z at HP ⊢
  unfold RawsP
  go_enter Tryz.func14, Tryz.ntmps14
  go_wp2_with (first | (go_at_call 26; (refine (HP.out _).mono ?_); rintro e w3 ⟨v3, rfl, ho3, hb3⟩; obtain ⟨a3, c3, rfl, hs3⟩ := ho3.read; have HS3 := Lib.hid hs3; have HB3 := Lib.hid hb3; clear hb3 ho3 hs3) | (go_at_call 22; (with_reducible refine (ref46_one _ _ _ _ _ _ Z rfl _ HS3.out).mono ?_); rintro e w6 ⟨g6, cap6, rfl, hq6⟩; have HQ6 := Lib.hid hq6; clear hq6))
  go_ret
  exact ⟨_, _, rfl, HQ6.out.low HB3.out⟩
set_option maxHeartbeats 400000 in
set_option maxRecDepth 100000 in
theorem rf_23 (s : Int) (w : World) : Calls Tryz.prog 14 #[.int .i64 23, .int .i64 s] w (RawsP [⟨4, 0, 0, beL 2 5 ++ beL 4 0⟩] w) := by
  have HP : Hid (∀ W, Calls Tryz.prog 26 #[.int .i64 5, .int .i64 0] W (RowQ (beL 2 5 ++ beL 4 0) W)) := ref46_sets 5 0 (by decide) (by decide)
  generalize beL 2 5 ++ beL 4 0 = Z at HP ⊢
  unfold RawsP
  go_enter Tryz.func14, Tryz.ntmps14
  go_wp2_with (first | (go_at_call 26; (refine (HP.out _).mono ?_); rintro e w3 ⟨v3, rfl, ho3, hb3⟩; obtain ⟨a3, c3, rfl, hs3⟩ := ho3.read; have HS3 := Lib.hid hs3; have HB3 := Lib.hid hb3; clear hb3 ho3 hs3) | (go_at_call 22; (with_reducible refine (ref46_one _ _ _ _ _ _ Z rfl _ HS3.out).mono ?_); rintro e w6 ⟨g6, cap6, rfl, hq6⟩; have HQ6 := Lib.hid hq6; clear hq6))
  go_ret
  exact ⟨_, _, rfl, HQ6.out.low HB3.out⟩
set_option maxHeartbeats 400000 in
set_option maxRecDepth 100000 in
theorem rf_24 (s : Int) (w : World) : Calls Tryz.prog 14 #[.int .i64 24, .int .i64 s] w (RawsP [⟨4, 0, 0, beL 2 4 ++ beL 4 2147483648⟩] w) := by
  have HP : Hid (∀ W, Calls Tryz.prog 26 #[.int .i64 4, .int .i64 2147483648] W (RowQ (beL 2 4 ++ beL 4 2147483648) W)) := ref46_sets 4 2147483648 (by decide) (by decide)
  generalize beL 2 4 ++ beL 4 2147483648 = Z at HP ⊢
  unfold RawsP
  go_enter Tryz.func14, Tryz.ntmps14
  go_wp2_with (first | (go_at_call 26; (refine (HP.out _).mono ?_); rintro e w3 ⟨v3, rfl, ho3, hb3⟩; obtain ⟨a3, c3, rfl, hs3⟩ := ho3.read; have HS3 := Lib.hid hs3; have HB3 := Lib.hid hb3; clear hb3 ho3 hs3) | (go_at_call 22; (with_reducible refine (ref46_one _ _ _ _ _ _ Z rfl _ HS3.out).mono ?_); rintro e w6 ⟨g6, cap6, rfl, hq6⟩; have HQ6 := Lib.hid hq6; clear hq6))
  go_ret
  exact ⟨_, _, rfl, HQ6.out.low HB3.out⟩
set_option maxHeartbeats 400000 in
set_option maxRecDepth 100000 in
theorem rf_25 (s : Int) (w : World) : Calls Tryz.prog 14 #[.int .i64 25, .int .i64 s] w (RawsP [⟨3, 0, 0, [0, 0, 0, 8]⟩] w) := by
  unfold RawsP
  go_enter Tryz.func14, Tryz.ntmps14
  go_wp2_with (first | (go_at_call 22; (with_reducible refine (ref46_one _ _ _ _ 4 _ [0, 0, 0, 8] rfl _ ?hsl).mono ?_); (case hsl => exact slB_blk (t := 5) (cs := #[.int .u8 0, .int .u8 0, .int .u8 0, .int .u8 8]) [0, 0, 0, 8] (by exact blk) rfl); rintro e w6 ⟨g6, cap6, rfl, hq6⟩; have HQ6 := Lib.hid hq6; clear hq6))
  go_ret
  exact ⟨_, _, rfl, HQ6.out.low bel⟩
set_option maxHeartbeats 400000 in
set_option maxRecDepth 100000 in
theorem rf_26 (s : Int) (w : World) : Calls Tryz.prog 14 #[.int .i64 26, .int .i64 s] w (RawsP [⟨4, 1, 0, []⟩] w) := by
  unfold RawsP
  go_enter Tryz.func14, Tryz.ntmps14
  go_wp2_with (first | (go_at_call 22; (with_reducible refine (ref46_one _ _ _ _ 0 _ [] rfl _ SlR.nil).mono ?_); rintro e w6 ⟨g6, cap6, rfl, hq6⟩; have HQ6 := Lib.hid hq6; clear hq6))
  go_ret
  exact ⟨_, _, rfl, HQ6.out⟩
set_option maxHeartbeats 400000 in
set_option maxRecDepth 100000 in
theorem rf_pass (k : Nat) (h1 : 1 ≤ k) (h15 : k ≤ 15) (s : Int) (l : List Frw) (w : World) (hP : Calls Tryz.prog 27 #[.int .i64 (k : Int), .int .i64 s] w (RawsP l w)) : Calls Tryz.prog 14 #[.int .i64 (k : Int), .int .i64 s] w (RawsP l w) := by
  have HP := Lib.hid hP
  clear hP
  have n16 : ((k : Int) == 16) = false := by simp; omega
  have n17 : ((k : Int) == 17) = false := by simp; omega
  have n18 : ((k : Int) == 18) = false := by simp; omega
  have n19 : ((k : Int) == 19) = false := by simp; omega
  have n20 : ((k : Int) == 20) = false := by simp; omega
  have n21 : ((k : Int) == 21) = false := by simp; omega
  have n22 : ((k : Int) == 22) = false := by simp; omega
  have n23 : ((k : Int) == 23) = false := by simp; omega
  have n24 : ((k : Int) == 24) = false := by simp; omega
  have n25 : ((k : Int) == 25) = false := by simp; omega
  have n26 : ((k : Int) == 26) = false := by simp; omega
  clear h1 h15
  unfold RawsP at HP ⊢
  go_enter Tryz.func14, Tryz.ntmps14
  go_wp2_with (go_at_call 27; (with_reducible refine HP.out.mono ?_); rintro e w6 ⟨g6, cap6, rfl, hq6⟩; have HQ6 := Lib.hid hq6; clear hq6)
  go_ret
  exact ⟨_, _, rfl, HQ6.out⟩
end Go.Proofs.YtmlbomblbdbikaaGreatDoor
/-
  The frames of wrong field blocks: the program.
-/
namespace Go.Proofs.YtmlbomblbdbikaaGreatDoor
set_option linter.unusedSimpArgs false
set_option linter.unusedVariables false
set_option linter.unusedSectionVars false
open Go.ChangeShapes Go.WideShapes Go.ChangeAt Go.RowKit Go.Deep Go.Shelf

set_option maxHeartbeats 200000 in
set_option maxRecDepth 100000 in
theorem ib_16 (s : Int) (w : World) : Calls Tryz.prog 40 #[bstr [116, 97, 98, 108, 101], .int .i64 s] w (RawsP [⟨1, 5, s, [128]⟩] w) := by
  unfold RawsP
  go_enter Tryz.func40, Tryz.ntmps40
  go_wp2_with (first | (go_at_call 51; (with_reducible refine (inject_block _ _ 1 _ [128] rfl _ ?hsl).mono ?_); (case hsl => exact slB_blk (t := 5) (cs := #[.int .u8 128]) [128] (by exact blk) rfl); rintro e w6 ⟨g6, cap6, rfl, hq6⟩; have HQ6 := Lib.hid hq6; clear hq6))
  go_ret
  exact ⟨_, _, rfl, HQ6.out.low bel⟩
set_option maxHeartbeats 200000 in
set_option maxRecDepth 100000 in
theorem ib_17 (s : Int) (w : World) (hG : GF w) : Calls Tryz.prog 40 #[bstr [117, 112, 100, 97, 116, 101], .int .i64 s] w (RawsP [⟨1, 5, s, putL 32 5 2147483647⟩] w) := by
  have HP : Hid (∀ W, GF W → Calls Tryz.prog 52 #[.agg #[.int .i64 5, .int .i64 0, bstr [], .bool false, bstr [], .bool false, .int .i64 2147483647]] W (RowP (putL 32 5 2147483647) W)) := fun W hW => repr_Put5 2147483647 (by decide) W hW
  generalize putL 32 5 2147483647 = Z at HP ⊢
  have HG := Lib.hid hG
  clear hG
  unfold RawsP
  go_enter Tryz.func40, Tryz.ntmps40
  go_wp2_with (first | (go_at_call 52; (refine (HP.out _ HG.out).mono ?_); rintro e w3 ⟨v3, rfl, ho3, hb3⟩; obtain ⟨a3, c3, rfl, hs3⟩ := ho3.read; have HS3 := Lib.hid hs3; have HB3 := Lib.hid hb3; clear hb3 ho3 hs3) | (go_at_call 51; (with_reducible refine (inject_block _ _ _ _ Z rfl _ HS3.out).mono ?_); rintro e w6 ⟨g6, cap6, rfl, hq6⟩; have HQ6 := Lib.hid hq6; clear hq6))
  go_ret
  exact ⟨_, _, rfl, HQ6.out.low HB3.out⟩
set_option maxHeartbeats 200000 in
set_option maxRecDepth 100000 in
theorem ib_18 (s : Int) (w : World) (hG : GF w) : Calls Tryz.prog 40 #[bstr [117, 112, 112, 101, 114], .int .i64 s] w (RawsP [⟨1, 5, s, encL (rq3 ++ [fdA])⟩] w) := by
  have HP : Hid (Calls Tryz.prog 53 #[.int .i64 s, bstr [65], bstr [98]] w (RawsP [⟨1, 5, s, encL (rq3 ++ [fdA])⟩] w)) := inject_request s fdA en_A w hG
  generalize encL (rq3 ++ [fdA]) = Z at HP ⊢
  clear hG
  unfold RawsP at HP ⊢
  go_enter Tryz.func40, Tryz.ntmps40
  go_wp2_with (first | (go_at_call 53; (refine HP.out.mono ?_); rintro e w6 ⟨g6, cap6, rfl, hq6⟩; have HQ6 := Lib.hid hq6; clear hq6))
  go_ret
  exact ⟨_, _, rfl, HQ6.out⟩
set_option maxHeartbeats 200000 in
set_option maxRecDepth 100000 in
theorem ib_19 (s : Int) (w : World) (hG : GF w) : Calls Tryz.prog 40 #[bstr [98, 97, 114, 114, 101, 100], .int .i64 s] w (RawsP [⟨1, 5, s, encL (rq3 ++ [fdB])⟩] w) := by
  have HP : Hid (Calls Tryz.prog 53 #[.int .i64 s, bstr [99, 111, 110, 110, 101, 99, 116, 105, 111, 110], bstr [99, 108, 111, 115, 101]] w (RawsP [⟨1, 5, s, encL (rq3 ++ [fdB])⟩] w)) := inject_request s fdB en_B w hG
  generalize encL (rq3 ++ [fdB]) = Z at HP ⊢
  clear hG
  unfold RawsP at HP ⊢
  go_enter Tryz.func40, Tryz.ntmps40
  go_wp2_with (first | (go_at_call 53; (refine HP.out.mono ?_); rintro e w6 ⟨g6, cap6, rfl, hq6⟩; have HQ6 := Lib.hid hq6; clear hq6))
  go_ret
  exact ⟨_, _, rfl, HQ6.out⟩
set_option maxHeartbeats 200000 in
set_option maxRecDepth 100000 in
theorem ib_20 (s : Int) (w : World) (hG : GF w) : Calls Tryz.prog 40 #[bstr [110, 111, 112, 97, 116, 104], .int .i64 s] w (RawsP [⟨1, 5, s, encL (rq3.take 2)⟩] w) := by
  have HP : Hid (∀ g c W t cs, GF W → Blk W g t cs → cs.toList = flatN (rq3.take 2) → Calls Tryz.prog 54 #[.int .i64 s, .slice (some ⟨g, 0, none⟩) 4 c] W (RawsP [⟨1, 5, s, encL (rq3.take 2)⟩] W)) := fun g c W t cs h1 h2 h3 => inject_fields s g c 4 (rq3.take 2) rfl (by simp [rq3]) (fun x hx => en_rq x (List.mem_of_mem_take hx)) W h1 t cs h2 h3
  generalize encL (rq3.take 2) = Z at HP ⊢
  have HG := Lib.hid hG
  clear hG
  unfold RawsP
  go_enter Tryz.func40, Tryz.ntmps40
  go_wp2_with (first | (go_at_call 54; (refine (HP.out _ _ _ _ _ (HG.out.below bel) blk ?hcs).mono ?_); (case hcs => rfl); rintro e w6 ⟨g6, cap6, rfl, hq6⟩; have HQ6 := Lib.hid hq6; clear hq6))
  go_ret
  exact ⟨_, _, rfl, HQ6.out.low bel⟩
end Go.Proofs.YtmlbomblbdbikaaGreatDoor
/-
  The frames that may not come just then: the program.
-/
namespace Go.Proofs.YtmlbomblbdbikaaGreatDoor
set_option linter.unusedSimpArgs false
set_option linter.unusedVariables false
set_option linter.unusedSectionVars false
open Go.ChangeShapes Go.WideShapes Go.ChangeAt Go.RowKit Go.Deep Go.Shelf

set_option maxHeartbeats 200000 in
set_option maxRecDepth 100000 in
theorem is_7 (s : Int) (w : World) : Calls Tryz.prog 20 #[bstr [115, 116, 101, 112, 48], .int .i64 s] w (RawsP [⟨8, 0, 0, nul 4⟩] w) := by
  have HNU : Hid (∀ W, Calls Tryz.prog 19 #[.int .i64 4] W fun e w' => e = .returned (.slice (some ⟨W.heap.size, 0, none⟩) 4 4) ∧ SlB w' w'.heap.size (some ⟨W.heap.size, 0, none⟩) (nul 4) ∧ ∃ j, w' = W.more j) := inject_nulls 4 (by omega)
  have HLN : Hid ((nul 4).length = 4) := List.length_replicate
  generalize nul 4 = Z at HNU HLN ⊢
  unfold RawsP
  go_enter Tryz.func20, Tryz.ntmps20
  go_wp2_with (first | (go_at_call 19; (with_reducible refine (HNU.out _).mono ?_); rintro e w3 ⟨rfl, hs3, j, rfl⟩; have HS3 := Lib.hid hs3; clear hs3) | (go_at_call 18; (with_reducible refine (inject_frame _ _ _ _ _ _ Z HLN.out _ HS3.out).mono ?_); rintro e w6 ⟨g6, cap6, rfl, hq6⟩; have HQ6 := Lib.hid hq6; clear hq6))
  go_ret
  exact ⟨_, _, rfl, HQ6.out.low bel⟩
set_option maxHeartbeats 200000 in
set_option maxRecDepth 100000 in
theorem is_8 (s : Int) (w : World) : Calls Tryz.prog 20 #[bstr [111, 118, 101, 114], .int .i64 s] w (RawsP [⟨8, 0, 0, [127, 255, 255, 255]⟩] w) := by
  unfold RawsP
  go_enter Tryz.func20, Tryz.ntmps20
  go_wp2_with (first | (go_at_call 18; (with_reducible refine (inject_frame _ _ _ _ 4 _ [127, 255, 255, 255] rfl _ ?hsl).mono ?_); (case hsl => exact slB_blk (t := 5) (cs := #[.int .u8 127, .int .u8 255, .int .u8 255, .int .u8 255]) [127, 255, 255, 255] (by exact blk) rfl); rintro e w6 ⟨g6, cap6, rfl, hq6⟩; have HQ6 := Lib.hid hq6; clear hq6))
  go_ret
  exact ⟨_, _, rfl, HQ6.out.low bel⟩
set_option maxHeartbeats 200000 in
set_option maxRecDepth 100000 in
theorem is_9 (s : Int) (w : World) : Calls Tryz.prog 20 #[bstr [100, 97, 116, 97, 105, 100, 108, 101], .int .i64 s] w (RawsP [⟨0, 0, s, [0]⟩] w) := by
  unfold RawsP
  go_enter Tryz.func20, Tryz.ntmps20
  go_wp2_with (first | (go_at_call 18; (with_reducible refine (inject_frame _ _ _ _ 1 _ [0] rfl _ ?hsl).mono ?_); (case hsl => exact slB_blk (t := 5) (cs := #[.int .u8 0]) [0] (by exact blk) rfl); rintro e w6 ⟨g6, cap6, rfl, hq6⟩; have HQ6 := Lib.hid hq6; clear hq6))
  go_ret
  exact ⟨_, _, rfl, HQ6.out.low bel⟩
set_option maxHeartbeats 200000 in
set_option maxRecDepth 100000 in
theorem is_10 (s : Int) (w : World) : Calls Tryz.prog 20 #[bstr [114, 115, 116, 105, 100, 108, 101], .int .i64 s] w (RawsP [⟨3, 0, s, [0, 0, 0, 8]⟩] w) := by
  unfold RawsP
  go_enter Tryz.func20, Tryz.ntmps20
  go_wp2_with (first | (go_at_call 18; (with_reducible refine (inject_frame _ _ _ _ 4 _ [0, 0, 0, 8] rfl _ ?hsl).mono ?_); (case hsl => exact slB_blk (t := 5) (cs := #[.int .u8 0, .int .u8 0, .int .u8 0, .int .u8 8]) [0, 0, 0, 8] (by exact blk) rfl); rintro e w6 ⟨g6, cap6, rfl, hq6⟩; have HQ6 := Lib.hid hq6; clear hq6))
  go_ret
  exact ⟨_, _, rfl, HQ6.out.low bel⟩
set_option maxHeartbeats 200000 in
set_option maxRecDepth 100000 in
theorem is_11 (s : Int) (w : World) : Calls Tryz.prog 20 #[bstr [97, 108, 111, 110, 101], .int .i64 s] w (RawsP [⟨9, 4, s, []⟩] w) := by
  unfold RawsP
  go_enter Tryz.func20, Tryz.ntmps20
  go_wp2_with (first | (go_at_call 18; (with_reducible refine (inject_frame _ _ _ _ 0 _ [] rfl _ SlR.nil).mono ?_); rintro e w6 ⟨g6, cap6, rfl, hq6⟩; have HQ6 := Lib.hid hq6; clear hq6))
  go_ret
  exact ⟨_, _, rfl, HQ6.out⟩
set_option maxHeartbeats 200000 in
set_option maxRecDepth 100000 in
theorem is_14 (s : Int) (w : World) : Calls Tryz.prog 20 #[bstr [112, 117, 115, 104], .int .i64 s] w (RawsP [⟨5, 4, s, [0, 0, 0, 2]⟩] w) := by
  unfold RawsP
  go_enter Tryz.func20, Tryz.ntmps20
  go_wp2_with (first | (go_at_call 18; (with_reducible refine (inject_frame _ _ _ _ 4 _ [0, 0, 0, 2] rfl _ ?hsl).mono ?_); (case hsl => exact slB_blk (t := 5) (cs := #[.int .u8 0, .int .u8 0, .int .u8 0, .int .u8 2]) [0, 0, 0, 2] (by exact blk) rfl); rintro e w6 ⟨g6, cap6, rfl, hq6⟩; have HQ6 := Lib.hid hq6; clear hq6))
  go_ret
  exact ⟨_, _, rfl, HQ6.out.low bel⟩
set_option maxHeartbeats 200000 in
set_option maxRecDepth 100000 in
theorem is_22 (s : Int) (w : World) : Calls Tryz.prog 20 #[bstr [112, 117, 115, 104, 50], .int .i64 s] w (RawsP [⟨4, 0, 0, beL 2 2 ++ beL 4 2⟩] w) := by
  unfold RawsP
  go_enter Tryz.func20, Tryz.ntmps20
  go_wp2_with (first | (go_at_call 39; (with_reducible refine (inject_sets 2 2 (by decide) (by decide) _).mono ?_); rintro e w6 ⟨g6, cap6, rfl, hq6⟩; have HQ6 := Lib.hid hq6; clear hq6))
  go_ret
  exact ⟨_, _, rfl, HQ6.out⟩
set_option maxHeartbeats 200000 in
set_option maxRecDepth 100000 in
theorem is_23 (s : Int) (w : World) : Calls Tryz.prog 20 #[bstr [102, 114, 97, 109, 101, 48], .int .i64 s] w (RawsP [⟨4, 0, 0, beL 2 5 ++ beL 4 0⟩] w) := by
  unfold RawsP
  go_enter Tryz.func20, Tryz.ntmps20
  go_wp2_with (first | (go_at_call 39; (with_reducible refine (inject_sets 5 0 (by decide) (by decide) _).mono ?_); rintro e w6 ⟨g6, cap6, rfl, hq6⟩; have HQ6 := Lib.hid hq6; clear hq6))
  go_ret
  exact ⟨_, _, rfl, HQ6.out⟩
set_option maxHeartbeats 200000 in
set_option maxRecDepth 100000 in
theorem is_24 (s : Int) (w : World) : Calls Tryz.prog 20 #[bstr [119, 105, 110, 100, 111, 119], .int .i64 s] w (RawsP [⟨4, 0, 0, beL 2 4 ++ beL 4 2147483648⟩] w) := by
  unfold RawsP
  go_enter Tryz.func20, Tryz.ntmps20
  go_wp2_with (first | (go_at_call 39; (with_reducible refine (inject_sets 4 2147483648 (by decide) (by decide) _).mono ?_); rintro e w6 ⟨g6, cap6, rfl, hq6⟩; have HQ6 := Lib.hid hq6; clear hq6))
  go_ret
  exact ⟨_, _, rfl, HQ6.out⟩
set_option maxHeartbeats 200000 in
set_option maxRecDepth 100000 in
theorem is_26 (s : Int) (w : World) : Calls Tryz.prog 20 #[bstr [97, 99, 107], .int .i64 s] w (RawsP [⟨4, 1, 0, []⟩] w) := by
  unfold RawsP
  go_enter Tryz.func20, Tryz.ntmps20
  go_wp2_with (first | (go_at_call 18; (with_reducible refine (inject_frame _ _ _ _ 0 _ [] rfl _ SlR.nil).mono ?_); rintro e w6 ⟨g6, cap6, rfl, hq6⟩; have HQ6 := Lib.hid hq6; clear hq6))
  go_ret
  exact ⟨_, _, rfl, HQ6.out⟩
end Go.Proofs.YtmlbomblbdbikaaGreatDoor
/-
  The frames of wrong lengths: the program.
-/
namespace Go.Proofs.YtmlbomblbdbikaaGreatDoor
set_option linter.unusedSimpArgs false
set_option linter.unusedVariables false
set_option linter.unusedSectionVars false
open Go.ChangeShapes Go.WideShapes Go.ChangeAt Go.RowKit Go.Deep Go.Shelf

set_option maxHeartbeats 200000 in
set_option maxRecDepth 100000 in
theorem il_1 (s : Int) (w : World) : Calls Tryz.prog 11 #[bstr [112, 97, 100], .int .i64 s] w (RawsP [⟨0, 8, s, [5, 0]⟩] w) := by
  unfold RawsP
  go_enter Tryz.func11, Tryz.ntmps11
  go_wp2_with (first | (go_at_call 18; (with_reducible refine (inject_frame _ _ _ _ 2 _ [5, 0] rfl _ ?hsl).mono ?_); (case hsl => exact slB_blk (t := 5) (cs := #[.int .u8 5, .int .u8 0]) [5, 0] (by exact blk) rfl); rintro e w6 ⟨g6, cap6, rfl, hq6⟩; have HQ6 := Lib.hid hq6; clear hq6))
  go_ret
  exact ⟨_, _, rfl, HQ6.out.low bel⟩
set_option maxHeartbeats 200000 in
set_option maxRecDepth 100000 in
theorem il_2 (s : Int) (w : World) : Calls Tryz.prog 11 #[bstr [112, 105, 110, 103, 55], .int .i64 s] w (RawsP [⟨6, 0, 0, nul 7⟩] w) := by
  have HNU : Hid (∀ W, Calls Tryz.prog 19 #[.int .i64 7] W fun e w' => e = .returned (.slice (some ⟨W.heap.size, 0, none⟩) 7 7) ∧ SlB w' w'.heap.size (some ⟨W.heap.size, 0, none⟩) (nul 7) ∧ ∃ j, w' = W.more j) := inject_nulls 7 (by omega)
  have HLN : Hid ((nul 7).length = 7) := List.length_replicate
  generalize nul 7 = Z at HNU HLN ⊢
  unfold RawsP
  go_enter Tryz.func11, Tryz.ntmps11
  go_wp2_with (first | (go_at_call 19; (with_reducible refine (HNU.out _).mono ?_); rintro e w3 ⟨rfl, hs3, j, rfl⟩; have HS3 := Lib.hid hs3; clear hs3) | (go_at_call 18; (with_reducible refine (inject_frame _ _ _ _ _ _ Z HLN.out _ HS3.out).mono ?_); rintro e w6 ⟨g6, cap6, rfl, hq6⟩; have HQ6 := Lib.hid hq6; clear hq6))
  go_ret
  exact ⟨_, _, rfl, HQ6.out.low bel⟩
set_option maxHeartbeats 200000 in
set_option maxRecDepth 100000 in
theorem il_3 (s : Int) (w : World) : Calls Tryz.prog 11 #[bstr [112, 105, 110, 103, 111, 110], .int .i64 s] w (RawsP [⟨6, 0, s, nul 8⟩] w) := by
  have HNU : Hid (∀ W, Calls Tryz.prog 19 #[.int .i64 8] W fun e w' => e = .returned (.slice (some ⟨W.heap.size, 0, none⟩) 8 8) ∧ SlB w' w'.heap.size (some ⟨W.heap.size, 0, none⟩) (nul 8) ∧ ∃ j, w' = W.more j) := inject_nulls 8 (by omega)
  have HLN : Hid ((nul 8).length = 8) := List.length_replicate
  generalize nul 8 = Z at HNU HLN ⊢
  unfold RawsP
  go_enter Tryz.func11, Tryz.ntmps11
  go_wp2_with (first | (go_at_call 19; (with_reducible refine (HNU.out _).mono ?_); rintro e w3 ⟨rfl, hs3, j, rfl⟩; have HS3 := Lib.hid hs3; clear hs3) | (go_at_call 18; (with_reducible refine (inject_frame _ _ _ _ _ _ Z HLN.out _ HS3.out).mono ?_); rintro e w6 ⟨g6, cap6, rfl, hq6⟩; have HQ6 := Lib.hid hq6; clear hq6))
  go_ret
  exact ⟨_, _, rfl, HQ6.out.low bel⟩
set_option maxHeartbeats 200000 in
set_option maxRecDepth 100000 in
theorem il_4 (s : Int) (w : World) : Calls Tryz.prog 11 #[bstr [115, 101, 116, 115, 111, 110], .int .i64 s] w (RawsP [⟨4, 0, s, []⟩] w) := by
  unfold RawsP
  go_enter Tryz.func11, Tryz.ntmps11
  go_wp2_with (first | (go_at_call 18; (with_reducible refine (inject_frame _ _ _ _ 0 _ [] rfl _ SlR.nil).mono ?_); rintro e w6 ⟨g6, cap6, rfl, hq6⟩; have HQ6 := Lib.hid hq6; clear hq6))
  go_ret
  exact ⟨_, _, rfl, HQ6.out⟩
set_option maxHeartbeats 200000 in
set_option maxRecDepth 100000 in
theorem il_5 (s : Int) (w : World) : Calls Tryz.prog 11 #[bstr [97, 99, 107, 98, 111, 100, 121], .int .i64 s] w (RawsP [⟨4, 1, 0, nul 6⟩] w) := by
  have HNU : Hid (∀ W, Calls Tryz.prog 19 #[.int .i64 6] W fun e w' => e = .returned (.slice (some ⟨W.heap.size, 0, none⟩) 6 6) ∧ SlB w' w'.heap.size (some ⟨W.heap.size, 0, none⟩) (nul 6) ∧ ∃ j, w' = W.more j) := inject_nulls 6 (by omega)
  have HLN : Hid ((nul 6).length = 6) := List.length_replicate
  generalize nul 6 = Z at HNU HLN ⊢
  unfold RawsP
  go_enter Tryz.func11, Tryz.ntmps11
  go_wp2_with (first | (go_at_call 19; (with_reducible refine (HNU.out _).mono ?_); rintro e w3 ⟨rfl, hs3, j, rfl⟩; have HS3 := Lib.hid hs3; clear hs3) | (go_at_call 18; (with_reducible refine (inject_frame _ _ _ _ _ _ Z HLN.out _ HS3.out).mono ?_); rintro e w6 ⟨g6, cap6, rfl, hq6⟩; have HQ6 := Lib.hid hq6; clear hq6))
  go_ret
  exact ⟨_, _, rfl, HQ6.out.low bel⟩
set_option maxHeartbeats 200000 in
set_option maxRecDepth 100000 in
theorem il_6 (s : Int) (w : World) : Calls Tryz.prog 11 #[bstr [115, 101, 116, 115, 53], .int .i64 s] w (RawsP [⟨4, 0, 0, nul 5⟩] w) := by
  have HNU : Hid (∀ W, Calls Tryz.prog 19 #[.int .i64 5] W fun e w' => e = .returned (.slice (some ⟨W.heap.size, 0, none⟩) 5 5) ∧ SlB w' w'.heap.size (some ⟨W.heap.size, 0, none⟩) (nul 5) ∧ ∃ j, w' = W.more j) := inject_nulls 5 (by omega)
  have HLN : Hid ((nul 5).length = 5) := List.length_replicate
  generalize nul 5 = Z at HNU HLN ⊢
  unfold RawsP
  go_enter Tryz.func11, Tryz.ntmps11
  go_wp2_with (first | (go_at_call 19; (with_reducible refine (HNU.out _).mono ?_); rintro e w3 ⟨rfl, hs3, j, rfl⟩; have HS3 := Lib.hid hs3; clear hs3) | (go_at_call 18; (with_reducible refine (inject_frame _ _ _ _ _ _ Z HLN.out _ HS3.out).mono ?_); rintro e w6 ⟨g6, cap6, rfl, hq6⟩; have HQ6 := Lib.hid hq6; clear hq6))
  go_ret
  exact ⟨_, _, rfl, HQ6.out.low bel⟩
set_option maxHeartbeats 200000 in
set_option maxRecDepth 100000 in
theorem il_12 (s : Int) (w : World) : Calls Tryz.prog 11 #[bstr [112, 114, 105, 111, 52], .int .i64 s] w (RawsP [⟨2, 0, s, nul 4⟩] w) := by
  have HNU : Hid (∀ W, Calls Tryz.prog 19 #[.int .i64 4] W fun e w' => e = .returned (.slice (some ⟨W.heap.size, 0, none⟩) 4 4) ∧ SlB w' w'.heap.size (some ⟨W.heap.size, 0, none⟩) (nul 4) ∧ ∃ j, w' = W.more j) := inject_nulls 4 (by omega)
  have HLN : Hid ((nul 4).length = 4) := List.length_replicate
  generalize nul 4 = Z at HNU HLN ⊢
  unfold RawsP
  go_enter Tryz.func11, Tryz.ntmps11
  go_wp2_with (first | (go_at_call 19; (with_reducible refine (HNU.out _).mono ?_); rintro e w3 ⟨rfl, hs3, j, rfl⟩; have HS3 := Lib.hid hs3; clear hs3) | (go_at_call 18; (with_reducible refine (inject_frame _ _ _ _ _ _ Z HLN.out _ HS3.out).mono ?_); rintro e w6 ⟨g6, cap6, rfl, hq6⟩; have HQ6 := Lib.hid hq6; clear hq6))
  go_ret
  exact ⟨_, _, rfl, HQ6.out.low bel⟩
set_option maxHeartbeats 200000 in
set_option maxRecDepth 100000 in
theorem il_13 (s : Int) (w : World) : Calls Tryz.prog 11 #[bstr [97, 119, 97, 121, 55], .int .i64 s] w (RawsP [⟨7, 0, 0, nul 7⟩] w) := by
  have HNU : Hid (∀ W, Calls Tryz.prog 19 #[.int .i64 7] W fun e w' => e = .returned (.slice (some ⟨W.heap.size, 0, none⟩) 7 7) ∧ SlB w' w'.heap.size (some ⟨W.heap.size, 0, none⟩) (nul 7) ∧ ∃ j, w' = W.more j) := inject_nulls 7 (by omega)
  have HLN : Hid ((nul 7).length = 7) := List.length_replicate
  generalize nul 7 = Z at HNU HLN ⊢
  unfold RawsP
  go_enter Tryz.func11, Tryz.ntmps11
  go_wp2_with (first | (go_at_call 19; (with_reducible refine (HNU.out _).mono ?_); rintro e w3 ⟨rfl, hs3, j, rfl⟩; have HS3 := Lib.hid hs3; clear hs3) | (go_at_call 18; (with_reducible refine (inject_frame _ _ _ _ _ _ Z HLN.out _ HS3.out).mono ?_); rintro e w6 ⟨g6, cap6, rfl, hq6⟩; have HQ6 := Lib.hid hq6; clear hq6))
  go_ret
  exact ⟨_, _, rfl, HQ6.out.low bel⟩
set_option maxHeartbeats 200000 in
set_option maxRecDepth 100000 in
theorem il_25 (s : Int) (w : World) : Calls Tryz.prog 11 #[bstr [114, 115, 116, 48], .int .i64 s] w (RawsP [⟨3, 0, 0, [0, 0, 0, 8]⟩] w) := by
  unfold RawsP
  go_enter Tryz.func11, Tryz.ntmps11
  go_wp2_with (first | (go_at_call 18; (with_reducible refine (inject_frame _ _ _ _ 4 _ [0, 0, 0, 8] rfl _ ?hsl).mono ?_); (case hsl => exact slB_blk (t := 5) (cs := #[.int .u8 0, .int .u8 0, .int .u8 0, .int .u8 8]) [0, 0, 0, 8] (by exact blk) rfl); rintro e w6 ⟨g6, cap6, rfl, hq6⟩; have HQ6 := Lib.hid hq6; clear hq6))
  go_ret
  exact ⟨_, _, rfl, HQ6.out.low bel⟩
end Go.Proofs.YtmlbomblbdbikaaGreatDoor
/-
  The frame that is too long: the program.
-/
namespace Go.Proofs.YtmlbomblbdbikaaGreatDoor
set_option linter.unusedSimpArgs false
set_option linter.unusedVariables false
set_option linter.unusedSectionVars false
open Go.ChangeShapes Go.WideShapes Go.ChangeAt Go.RowKit Go.Deep Go.Shelf

set_option maxHeartbeats 200000 in
set_option maxRecDepth 100000 in
theorem il_15 (s : Int) (w : World) : Calls Tryz.prog 11 #[bstr [108, 111, 110, 103], .int .i64 s] w (RawsP [⟨200, 0, 0, nul 16385⟩] w) := by
  have HNU : Hid (∀ W, Calls Tryz.prog 19 #[.int .i64 16385] W fun e w' => e = .returned (.slice (some ⟨W.heap.size, 0, none⟩) 16385 16385) ∧ SlB w' w'.heap.size (some ⟨W.heap.size, 0, none⟩) (nul 16385) ∧ ∃ j, w' = W.more j) := inject_nulls 16385 (by omega)
  have HLN : Hid ((nul 16385).length = 16385) := List.length_replicate
  generalize nul 16385 = Z at HNU HLN ⊢
  unfold RawsP
  go_enter Tryz.func11, Tryz.ntmps11
  go_wp2_with (first | (go_at_call 19; (with_reducible refine (HNU.out _).mono ?_); rintro e w3 ⟨rfl, hs3, j, rfl⟩; have HS3 := Lib.hid hs3; clear hs3) | (go_at_call 18; (with_reducible refine (inject_frame _ _ _ _ _ _ Z HLN.out _ HS3.out).mono ?_); rintro e w6 ⟨g6, cap6, rfl, hq6⟩; have HQ6 := Lib.hid hq6; clear hq6))
  go_ret
  exact ⟨_, _, rfl, HQ6.out.low bel⟩
end Go.Proofs.YtmlbomblbdbikaaGreatDoor
/-
  Names that are passed on.
-/
namespace Go.Proofs.YtmlbomblbdbikaaGreatDoor
set_option linter.unusedSimpArgs false
set_option linter.unusedVariables false
set_option linter.unusedSectionVars false
open Go.ChangeShapes Go.WideShapes Go.ChangeAt Go.RowKit Go.Deep Go.Shelf

set_option maxHeartbeats 200000 in
set_option maxRecDepth 100000 in
theorem is_pass (nm : List UInt8) (s : Int) (l : List Frw) (w : World) (hP : Calls Tryz.prog 40 #[bstr nm, .int .i64 s] w (RawsP l w)) (t0 : (nm == [115, 116, 101, 112, 48]) = false) (t1 : (nm == [111, 118, 101, 114]) = false) (t2 : (nm == [100, 97, 116, 97, 105, 100, 108, 101]) = false) (t3 : (nm == [114, 115, 116, 105, 100, 108, 101]) = false) (t4 : (nm == [97, 108, 111, 110, 101]) = false) (t5 : (nm == [112, 117, 115, 104]) = false) (t6 : (nm == [119, 105, 116, 104, 105, 110]) = false) (t7 : (nm == [112, 117, 115, 104, 50]) = false) (t8 : (nm == [102, 114, 97, 109, 101, 48]) = false) (t9 : (nm == [119, 105, 110, 100, 111, 119]) = false) (t10 : (nm == [97, 99, 107]) = false) : Calls Tryz.prog 20 #[bstr nm, .int .i64 s] w (RawsP l w) := by
  have HP := Lib.hid hP
  clear hP
  unfold RawsP at HP ⊢
  go_enter Tryz.func20, Tryz.ntmps20
  go_wp2_with (go_at_call 40; (with_reducible refine HP.out.mono ?_); rintro e w6 ⟨g6, cap6, rfl, hq6⟩; have HQ6 := Lib.hid hq6; clear hq6)
  go_ret
  exact ⟨_, _, rfl, HQ6.out⟩
set_option maxHeartbeats 200000 in
set_option maxRecDepth 100000 in
theorem il_pass (nm : List UInt8) (s : Int) (l : List Frw) (w : World) (hP : Calls Tryz.prog 20 #[bstr nm, .int .i64 s] w (RawsP l w)) (t0 : (nm == [112, 97, 100]) = false) (t1 : (nm == [112, 105, 110, 103, 55]) = false) (t2 : (nm == [112, 105, 110, 103, 111, 110]) = false) (t3 : (nm == [115, 101, 116, 115, 111, 110]) = false) (t4 : (nm == [97, 99, 107, 98, 111, 100, 121]) = false) (t5 : (nm == [115, 101, 116, 115, 53]) = false) (t6 : (nm == [112, 114, 105, 111, 52]) = false) (t7 : (nm == [97, 119, 97, 121, 55]) = false) (t8 : (nm == [114, 115, 116, 48]) = false) (t9 : (nm == [108, 111, 110, 103]) = false) : Calls Tryz.prog 11 #[bstr nm, .int .i64 s] w (RawsP l w) := by
  have HP := Lib.hid hP
  clear hP
  unfold RawsP at HP ⊢
  go_enter Tryz.func11, Tryz.ntmps11
  go_wp2_with (go_at_call 20; (with_reducible refine HP.out.mono ?_); rintro e w6 ⟨g6, cap6, rfl, hq6⟩; have HQ6 := Lib.hid hq6; clear hq6)
  go_ret
  exact ⟨_, _, rfl, HQ6.out⟩
end Go.Proofs.YtmlbomblbdbikaaGreatDoor
/-
  Lines of words: cut at a byte, joined with it. No program in sight but for what a word is.
-/
namespace Go.Proofs.YtmlbomblbdbikaaGreatDoor
set_option linter.unusedSimpArgs false
set_option linter.unusedVariables false
set_option linter.unusedSectionVars false
open Go.ChangeShapes Go.WideShapes Go.ChangeAt Go.RowKit Go.Deep Go.Shelf

def preF (p : List UInt8) : List (List UInt8) → List (List UInt8)
  | [] => [p]
  | h :: t => (p ++ h) :: t
def cutF (c : UInt8) : List UInt8 → List (List UInt8)
  | [] => [[]]
  | x :: r => if x = c then [] :: cutF c r else preF [x] (cutF c r)
theorem cut_ne (c : UInt8) (s : List UInt8) : ∃ h t, cutF c s = h :: t := by
  cases s with
  | nil => exact ⟨_, _, rfl⟩
  | cons x r =>
    unfold cutF
    split
    · exact ⟨_, _, rfl⟩
    · cases cutF c r <;> exact ⟨_, _, rfl⟩
theorem index_cons_eq (c : UInt8) (l : List UInt8) : Lib.index (c :: l) [c] = 0 := by rw [Lib.index]; simp [List.isPrefixOf]
theorem index_cons_ne (b c : UInt8) (l : List UInt8) (h : b ≠ c) : Lib.index (b :: l) [c] = if Lib.index l [c] == -1 then -1 else Lib.index l [c] + 1 := by
  have hp : ([c] : List UInt8).isPrefixOf (b :: l) = false := by simp [List.isPrefixOf, Ne.symm h]
  rw [Lib.index, hp]; simp
theorem split_cut (c : UInt8) : ∀ s : List UInt8, Lib.split s [c] = cutF c s
  | [] => by unfold Lib.split; rw [Lib.count_miss (by simp [Lib.index])]; rfl
  | x :: r => by
    have ih := split_cut c r
    unfold cutF
    by_cases h : x = c
    · subst h
      rw [if_pos rfl, ← ih]
      unfold Lib.split
      rw [Lib.count_cons_eq, Nat.add_comm, Lib.splitK, if_neg (by rw [index_cons_eq]; decide), index_cons_eq]
      rfl
    · rw [if_neg h, ← ih]
      unfold Lib.split
      rw [Lib.count_cons_ne _ _ _ h]
      by_cases hm : Lib.index r [c] = -1
      · rw [Lib.count_miss hm]; rfl
      · have hge := Lib.index_ge r [c]
        obtain ⟨j, hj⟩ : ∃ j : Nat, Lib.index r [c] = j := ⟨(Lib.index r [c]).toNat, by omega⟩
        have hix : Lib.index (x :: r) [c] = ((j + 1 : Nat) : Int) := by rw [index_cons_ne _ _ _ h, if_neg (fun e => hm (beq_iff_eq.1 e)), hj]; omega
        have hmm : ¬ (Lib.index r [c] == -1) = true := fun e => hm (beq_iff_eq.1 e)
        have hmm2 : ¬ (Lib.index (x :: r) [c] == -1) = true := fun e => by have := beq_iff_eq.1 e; omega
        rw [Lib.count_hit (by simp) hj, Nat.add_comm, Lib.splitK, Lib.splitK, if_neg hmm, if_neg hmm2, hix, hj]
        have e1 : ((j + 1 : Nat) : Int).toNat = j + 1 := by omega
        have e2 : (j : Int).toNat = j := by omega
        rw [e1, e2]
        rfl
theorem cut_free (c : UInt8) : ∀ (s : List UInt8), ∀ w ∈ cutF c s, c ∉ w
  | [], w, h => by simp [cutF] at h; subst h; simp
  | x :: r, w, h => by
    have ih := cut_free c r
    unfold cutF at h
    split at h
    · rcases List.mem_cons.1 h with rfl | h
      · simp
      · exact ih w h
    · rename_i hx
      obtain ⟨a, t, e⟩ := cut_ne c r
      rw [e] at h ih
      rcases List.mem_cons.1 h with rfl | h
      · have := ih a (by simp)
        simp [this]
        exact fun e => hx e.symm
      · exact ih w (by simp [h])
theorem cut_short (c : UInt8) : ∀ (s : List UInt8), ∀ w ∈ cutF c s, w.length ≤ s.length
  | [], w, h => by simp [cutF] at h; subst h; simp
  | x :: r, w, h => by
    have ih := cut_short c r
    unfold cutF at h
    split at h
    · rcases List.mem_cons.1 h with rfl | h
      · simp
      · have := ih w h; simp; omega
    · obtain ⟨a, t, e⟩ := cut_ne c r
      rw [e] at h ih
      rcases List.mem_cons.1 h with rfl | h
      · have := ih a (by simp); simp; omega
      · have := ih w (by simp [h]); simp; omega
theorem cut_len (c : UInt8) : ∀ (s : List UInt8), (cutF c s).length ≤ s.length + 1
  | [] => by simp [cutF]
  | x :: r => by
    have ih := cut_len c r
    unfold cutF
    split
    · simp; omega
    · obtain ⟨a, t, e⟩ := cut_ne c r
      rw [e] at ih ⊢
      simp [preF] at ih ⊢; omega
theorem join_two (w v : List UInt8) (t : List (List UInt8)) (s : List UInt8) : Lib.join (w :: v :: t) s = w ++ (s ++ Lib.join (v :: t) s) := by
  rw [Lib.join_cons, Lib.join_cons]; simp [Lib.joinTail]
theorem join_cut (c : UInt8) : ∀ s : List UInt8, Lib.join (cutF c s) [c] = s
  | [] => by simp [cutF, Lib.join_one]
  | x :: r => by
    have ih := join_cut c r
    unfold cutF
    obtain ⟨a, t, e⟩ := cut_ne c r
    rw [e] at ih ⊢
    split
    · rename_i h
      rw [join_two, ih, h]; rfl
    · show Lib.join ((x :: a) :: t) [c] = _
      rw [Lib.join_cons] at ih ⊢
      rw [← ih]; rfl
theorem cut_none (c : UInt8) : ∀ w : List UInt8, c ∉ w → cutF c w = [w]
  | [], _ => rfl
  | x :: r, h => by
    simp only [List.mem_cons, not_or] at h
    unfold cutF
    rw [if_neg (fun e => h.1 e.symm), cut_none c r h.2]; rfl
theorem cut_app (c : UInt8) (r : List UInt8) : ∀ w : List UInt8, c ∉ w → cutF c (w ++ c :: r) = w :: cutF c r
  | [], _ => by simp [cutF]
  | x :: s, h => by
    simp only [List.mem_cons, not_or] at h
    show cutF c (x :: (s ++ c :: r)) = _
    conv => lhs; unfold cutF
    rw [if_neg (fun e => h.1 e.symm), cut_app c r s h.2]; rfl
theorem cut_join (c : UInt8) : ∀ l : List (List UInt8), l ≠ [] → (∀ w ∈ l, c ∉ w) → cutF c (Lib.join l [c]) = l
  | [], h, _ => absurd rfl h
  | [w], _, h => by rw [Lib.join_one]; exact cut_none c w (h w (by simp))
  | w :: v :: t, _, h => by
    rw [join_two]
    show cutF c (w ++ c :: Lib.join (v :: t) [c]) = _
    rw [cut_app c _ w (h w (by simp)), cut_join c (v :: t) (by simp) (fun x hx => h x (List.mem_cons_of_mem _ hx))]
theorem cut_pre (c : UInt8) (p r : List UInt8) (h : c ∉ p) : cutF c (p ++ r) = preF p (cutF c r) := by
  induction p with
  | nil => obtain ⟨a, t, e⟩ := cut_ne c r; rw [List.nil_append, e]; rfl
  | cons x s ih =>
    simp only [List.mem_cons, not_or] at h
    show cutF c (x :: (s ++ r)) = _
    rw [cutF, if_neg (fun e => h.1 e.symm), ih h.2]
    obtain ⟨a, t, e⟩ := cut_ne c r
    rw [e]; rfl

theorem index_mem (w : List UInt8) (c : UInt8) : decide (0 ≤ Lib.indexByte w c) = w.any (· == c) := by
  induction w with
  | nil => rfl
  | cons b l ih =>
    have hge := Lib.indexByte_ge l c
    rw [Lib.indexByte, List.any_cons, ← ih]
    cases h : (b == c)
    · simp only [Bool.false_eq_true, if_false, Bool.false_or]
      split
      · rename_i h2
        have := beq_iff_eq.1 h2
        simp [this]
      · rename_i h2
        have : ¬ Lib.indexByte l c = -1 := fun e => h2 (beq_iff_eq.2 e)
        have h0 : 0 ≤ Lib.indexByte l c := by omega
        simp only [h0, decide_true]
        simp
        omega
    · simp
def badB (x : UInt8) : Bool := x == 32 || x == 10
theorem okW_R (w : List UInt8) : okW w = (!w.isEmpty && !w.any badB) := by
  unfold okW
  rw [index_mem, index_mem]
  have : w.any badB = (w.any (· == 32) || w.any (· == 10)) := by
    induction w with
    | nil => rfl
    | cons a l ih => rw [List.any_cons, List.any_cons, List.any_cons, ih]; unfold badB; cases (a == 32) <;> cases (a == 10) <;> cases (l.any (· == 32)) <;> rfl
  rw [this]
  cases w.isEmpty <;> cases w.any (· == 32) <;> cases w.any (· == 10) <;> rfl
theorem okW_free {w : List UInt8} (h : okW w = true) : (32 : UInt8) ∉ w ∧ w ≠ [] := by
  unfold okW at h
  rw [index_mem, index_mem] at h
  simp at h
  exact ⟨fun hm => h.1.2 32 hm rfl, h.1.1⟩

def lineF (l : List (List UInt8)) : List UInt8 × Bool := if l.all okW = true then (Lib.join l [32], true) else ([], false)
def splitF (s : List UInt8) : List (List UInt8) × Bool := if s = [] then ([], true) else if (cutF 32 s).all okW = true then (cutF 32 s, true) else ([], false)
theorem join_ne {l : List (List UInt8)} (h : l.all okW = true) (hl : l ≠ []) : Lib.join l [32] ≠ [] := by
  cases l with
  | nil => exact absurd rfl hl
  | cons w t =>
    rw [Lib.join_cons]
    have := (okW_free (w := w) (by simp at h; exact h.1)).2
    simp [this]
theorem split_line (l : List (List UInt8)) (h : l.all okW = true) : splitF (Lib.join l [32]) = (l, true) := by
  by_cases hl : l = []
  · subst hl; rfl
  · unfold splitF
    rw [if_neg (join_ne h hl), cut_join 32 l hl (fun w hw => (okW_free (List.all_eq_true.1 h w hw)).1), if_pos h]
def linesF (s : List UInt8) : List (List UInt8) × Bool := if (cutF 10 s).getLast? = some [] then ((cutF 10 s).dropLast, true) else ([], false)
end Go.Proofs.YtmlbomblbdbikaaGreatDoor
/-
  Texts looked for in a row of texts: slices.Index, and the words of a text.
-/
namespace Go.Proofs.YtmlbomblbdbikaaGreatDoor
set_option linter.unusedSimpArgs false
set_option linter.unusedVariables false
set_option linter.unusedSectionVars false
open Go.ChangeShapes Go.WideShapes Go.ChangeAt Go.RowKit Go.Deep Go.Shelf

def seekX (s : List UInt8) : List (List UInt8) → Nat → Int
  | [], _ => -1
  | x :: r, k => if x = s then (k : Int) else seekX s r (k + 1)
/-- Where a text is first found among some; -1: nowhere. -/
def idxX (l : List (List UInt8)) (s : List UInt8) : Int := seekX s l 0
theorem seekX_lo (s : List UInt8) : ∀ (l : List (List UInt8)) (k : Nat), seekX s l k = -1 ∨ ((k : Int) ≤ seekX s l k ∧ seekX s l k < k + l.length)
  | [], k => .inl rfl
  | x :: r, k => by
    unfold seekX
    split
    · exact .inr ⟨Int.le_refl _, by simp; omega⟩
    · rcases seekX_lo s r (k + 1) with h | h
      · exact .inl h
      · exact .inr ⟨by omega, by simp only [List.length_cons]; omega⟩
theorem seekX_none (s : List UInt8) : ∀ (l : List (List UInt8)) (k : Nat), (∀ x ∈ l, x ≠ s) → seekX s l k = -1
  | [], k, _ => rfl
  | x :: r, k, h => by
    unfold seekX
    rw [if_neg (h x (by simp)), seekX_none s r (k + 1) (fun y hy => h y (by simp [hy]))]
theorem seekX_hit (s : List UInt8) : ∀ (l : List (List UInt8)) (k i : Nat) (hi : i < l.length), l[i] = s → (∀ j (hj : j < l.length), j < i → l[j] ≠ s) → seekX s l k = ((k + i : Nat) : Int)
  | [], k, i, hi, _, _ => by simp at hi
  | x :: r, k, 0, hi, he, _ => by
    unfold seekX
    rw [if_pos (by simpa using he)]; rfl
  | x :: r, k, i + 1, hi, he, hn => by
    unfold seekX
    rw [if_neg (show ¬ x = s from hn 0 (by simp) (by omega))]
    rw [seekX_hit s r (k + 1) i (by simpa using hi) (show r[i]'(by simpa using hi) = s from he) (fun j hj hji => hn (j + 1) (by simp; omega) (by omega))]
    congr 1; omega

theorem seekX_at (s : List UInt8) : ∀ (l : List (List UInt8)) (k i : Nat), seekX s l k = ((k + i : Nat) : Int) → ∃ h : i < l.length, l[i] = s
  | [], k, i, h => by simp only [seekX] at h; omega
  | x :: r, k, i, h => by
    unfold seekX at h
    by_cases hx : x = s
    · rw [if_pos hx] at h
      obtain rfl : i = 0 := by omega
      exact ⟨by simp, hx⟩
    · rw [if_neg hx] at h
      have hlo := seekX_lo s r (k + 1)
      cases i with
      | zero => omega
      | succ i =>
        obtain ⟨h1, h2⟩ := seekX_at s r (k + 1) i (by rw [h]; congr 1; omega)
        exact ⟨by simp; omega, h2⟩
/-- The words of a text: what strings.Split hands back, and how it lies. -/
theorem split_words (t : List UInt8) (c : UInt8) (l : List (List UInt8)) (ht : cutF c t = l) (m : Int) (w : World) (hm : t.length ≤ 1048576) (hM : w.cell? ⟨2, 0, none⟩ = some (.int .i64 m)) :
    Calls Tryz.prog 21 #[bstr t, bstr [c]] w fun e w' => e = .returned (.slice (some ⟨w.heap.size, 0, none⟩) l.length l.length) ∧ ∃ j, w' = w.more j ∧ SlX w' w'.heap.size (some ⟨w.heap.size, 0, none⟩) l := by
  have h1 := strings_split t c m w hm hM
  have h2 := split_slX t c w hm
  rw [split_cut, ht] at h1 h2
  refine h1.mono fun e w' ⟨he, hw⟩ => ⟨he, ?_⟩
  subst hw
  obtain ⟨j, hj⟩ : ∃ j, w.alloc (.cells (l.map bstr).toArray 9) = w.more j := Below.junk bel
  exact ⟨j, hj, by rw [World.size_alloc]; exact h2⟩
end Go.Proofs.YtmlbomblbdbikaaGreatDoor
