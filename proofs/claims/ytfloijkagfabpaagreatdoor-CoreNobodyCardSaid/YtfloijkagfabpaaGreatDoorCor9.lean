/-
  The statement CoreNobody.
-/
import Derived.Test.YtfloijkagfabpaaGreatDoorCor8
namespace Go.Proofs.YtfloijkagfabpaaGreatDoor
set_option linter.unusedSimpArgs false
set_option linter.unusedVariables false
set_option linter.unusedSectionVars false
open Go.ChangeShapes Go.WideShapes Go.ChangeAt Go.RowKit Go.Deep Go.Shelf

set_option maxHeartbeats 16000000 in
set_option maxRecDepth 100000 in
theorem coreNobody_law (fr ty fl st : Int) (rs : Bool) (a : Option Addr) (n k : Nat) (wh : Int) (kp : Bool) (side : Int) (w : World) :
    Calls Tryz.prog 5 #[.agg #[.int .i64 fr, .int .i64 ty, .int .i64 fl, .int .i64 st, .bool rs, .slice a n k, .int .u8 wh, .bool kp], .int .i64 side] w fun e w' => e = .returned (.bool true) ∧ ∃ j, w' = w.more j := by
  have HAL := Lib.hid law39_alive
  by_cases g : (1000 : Int) < n
  · go_enter Tryz.func5, Tryz.ntmps5
    go_wp2_with (go_at_call 8; (with_reducible refine (HAL.out _).mono ?_); rintro e w' ⟨rfl, j, rfl⟩)
    go_ret
    exact ⟨rfl, Below.junk bel⟩
  have HCF := Lib.hid law39_conf
  have HN : Hid (∀ W, Calls Tryz.prog 9 #[confV 2 9 1000 3 3 8000] W (NewC 2 9 1000 3 3 8000 W)) := core_New 2 9 1000 3 3 8000 (by decide)
  unfold NewC at HN
  have HA0 : Hid (∀ W, Calls Tryz.prog 15 #[.pointer none, vals0, .bool kp] W fun e w' => e = .returned (.tuple #[.int .i64 0, .int .i64 0]) ∧ ∃ j, w' = W.more j) := fun W => core_Ask_nil _ vals0 kp W (core_looked_nil _)
  have HA1 : Hid (∀ W z, z < W.heap.size → W.cell? ⟨z, 32, none⟩ = some (.pointer none) → Calls Tryz.prog 15 #[ptr z, vals0, .bool kp] W fun e w' => e = .returned (.tuple #[.int .i64 0, .int .i64 0]) ∧ ∃ j, w' = W.more j) := fun W z hz h => core_Ask_nil _ vals0 kp W (core_looked z _ _ (by rw [← h]; exact (Below.cell (p := ⟨z, 32, none⟩) (B := W.heap.size) bel hz)))
  have HL0 : Hid (∀ W, Calls Tryz.prog 18 #[.pointer none] W fun e w' => e = .returned (.tuple #[.int .i64 0, .bool false]) ∧ ∃ j, w' = W.more j) := core_Late_nil
  have HD0 : Hid (∀ W, Calls Tryz.prog 16 #[.pointer none, .int .i64 1] W fun e w' => e = .returned (.tuple #[.slice none 0 0, .int .i64 2]) ∧ W = w') := core_Do_nil 1
  have HK0 : Hid (∀ W, Calls Tryz.prog 13 #[.pointer none, rawV fr ty fl st rs a n k] W fun e w' => e = .returned (.int .i64 2) ∧ ∃ j, w' = W.more j) := core_Look_nil fr ty fl st rs a n k
  have HK1 : Hid (∀ W z, z < W.heap.size → W.cell? ⟨z, 33, none⟩ = some (.bool false) → Calls Tryz.prog 13 #[ptr z, rawV fr ty fl st rs a n k] W fun e w' => e = .returned (.int .i64 8) ∧ ∃ j, w' = W.more j) := fun W z hz h => core_Look_zero z fr ty fl st rs a n k W h hz
  have HS0 : Hid (∀ W, Calls Tryz.prog 19 #[.pointer none, .int .i64 side] W fun e w' => e = .returned (.pointer none) ∧ W = w') := core_Sent_nil side
  have HM0 : Hid (∀ W, Calls Tryz.prog 20 #[.pointer none, .int .i64 side] W fun e w' => e = .returned (.pointer none) ∧ W = w') := core_Memory_nil side
  go_enter Tryz.func5, Tryz.ntmps5
  go_wp2_with (first | (go_at_call 18; (with_reducible refine (HL0.out _).mono ?_); rintro e w' ⟨rfl, j, rfl⟩) | (go_at_call 16; (with_reducible refine (HD0.out _).mono ?_); rintro e w' ⟨rfl, rfl⟩) | (go_at_call 15; (with_reducible refine (HA0.out _).mono ?_); rintro e w' ⟨rfl, j, rfl⟩))
  refine Calls.mono (HA1.out _ (w.heap.size + 1) ?_ ?_) ?_
  · simp; omega
  · go_simp
  rintro e w' ⟨rfl, jz, rfl⟩
  go_wp2_with (go_at_call 10; (with_reducible refine (HCF.out _).mono ?_); rintro e w' ⟨rfl, j0, rfl⟩)
  refine (HN.out _).mono ?_
  rintro e w' ⟨c, a0, d0, s0, k0, q0, a1, d1, s1, k1, q1, al, rfl, hwc, hbc, -, -, -, -, jn, rfl⟩
  simp only [World.more_more, Array.append_assoc] at hbc
  have HBC := Lib.hid hbc
  have HLC := Lib.hid hbc.lt
  clear hbc hwc
  have hsc : side = 0 ∨ side = 1 ∨ (¬ side = 0 ∧ ¬ side = 1) := by omega
  rcases hsc with rfl | rfl | ⟨hs0, hs1⟩
  · have HSX : Hid (∀ W, W.cell? ⟨c, 12, none⟩ = some (ptr s0) → Calls Tryz.prog 19 #[ptr c, .int .i64 0] W fun e w' => e = .returned (ptr s0) ∧ W = w') := fun W h => core_Sent c 0 12 (by omega) _ W h
    have HMX : Hid (∀ W, W.cell? ⟨c, 14, none⟩ = some (ptr k0) → Calls Tryz.prog 20 #[ptr c, .int .i64 0] W fun e w' => e = .returned (ptr k0) ∧ W = w') := fun W h => core_Memory c 0 14 (by omega) _ W h
    go_wp2_with (first | (go_at_call 13; (with_reducible refine (HK0.out _).mono ?_); rintro e w' ⟨rfl, j, rfl⟩) | (go_at_call 19; (with_reducible refine (HS0.out _).mono ?_); rintro e w' ⟨rfl, rfl⟩) | (go_at_call 20; (with_reducible refine (HM0.out _).mono ?_); rintro e w' ⟨rfl, rfl⟩))
    refine Calls.mono (HK1.out _ (w.heap.size + 1) ?_ ?_) ?_
    · simp; omega
    · go_simp
    rintro e w' ⟨rfl, jk, rfl⟩
    go_wp2_with fail
    refine Calls.mono (HSX.out _ ?_) ?_
    · exact (HBC.out.below (grown_app _ _ _ _ (by simp only [Array.append_assoc]; rfl)) HLC.out).cell 12
    rintro e w' ⟨rfl, rfl⟩
    go_wp2_with fail
    refine Calls.mono (HMX.out _ ?_) ?_
    · exact (HBC.out.below (grown_app _ _ _ _ (by simp only [Array.append_assoc]; rfl)) HLC.out).cell 14
    rintro e w' ⟨rfl, rfl⟩
    go_wp2_with (go_at_call 8; (with_reducible refine (HAL.out _).mono ?_); rintro e w' ⟨rfl, j, rfl⟩)
    go_ret
    exact ⟨rfl, Below.junk bel⟩
  · have HSX : Hid (∀ W, W.cell? ⟨c, 24, none⟩ = some (ptr s1) → Calls Tryz.prog 19 #[ptr c, .int .i64 1] W fun e w' => e = .returned (ptr s1) ∧ W = w') := fun W h => core_Sent c 1 24 (by omega) _ W h
    have HMX : Hid (∀ W, W.cell? ⟨c, 26, none⟩ = some (ptr k1) → Calls Tryz.prog 20 #[ptr c, .int .i64 1] W fun e w' => e = .returned (ptr k1) ∧ W = w') := fun W h => core_Memory c 1 26 (by omega) _ W h
    go_wp2_with (first | (go_at_call 13; (with_reducible refine (HK0.out _).mono ?_); rintro e w' ⟨rfl, j, rfl⟩) | (go_at_call 19; (with_reducible refine (HS0.out _).mono ?_); rintro e w' ⟨rfl, rfl⟩) | (go_at_call 20; (with_reducible refine (HM0.out _).mono ?_); rintro e w' ⟨rfl, rfl⟩))
    refine Calls.mono (HK1.out _ (w.heap.size + 1) ?_ ?_) ?_
    · simp; omega
    · go_simp
    rintro e w' ⟨rfl, jk, rfl⟩
    go_wp2_with fail
    refine Calls.mono (HSX.out _ ?_) ?_
    · exact (HBC.out.below (grown_app _ _ _ _ (by simp only [Array.append_assoc]; rfl)) HLC.out).cell 24
    rintro e w' ⟨rfl, rfl⟩
    go_wp2_with fail
    refine Calls.mono (HMX.out _ ?_) ?_
    · exact (HBC.out.below (grown_app _ _ _ _ (by simp only [Array.append_assoc]; rfl)) HLC.out).cell 26
    rintro e w' ⟨rfl, rfl⟩
    go_wp2_with (go_at_call 8; (with_reducible refine (HAL.out _).mono ?_); rintro e w' ⟨rfl, j, rfl⟩)
    go_ret
    exact ⟨rfl, Below.junk bel⟩
  · have b0 : (side == 0) = false := by simpa using hs0
    have b1 : (side == 1) = false := by simpa using hs1
    have HSX : Hid (∀ W, Calls Tryz.prog 19 #[ptr c, .int .i64 side] W fun e w' => e = .returned (.pointer none) ∧ W = w') := core_Sent_out c side (by omega)
    have HMX : Hid (∀ W, Calls Tryz.prog 20 #[ptr c, .int .i64 side] W fun e w' => e = .returned (.pointer none) ∧ W = w') := core_Memory_out c side (by omega)
    go_wp2_with (first | (go_at_call 13; (with_reducible refine (HK0.out _).mono ?_); rintro e w' ⟨rfl, j, rfl⟩) | (go_at_call 19; (with_reducible refine (HS0.out _).mono ?_); rintro e w' ⟨rfl, rfl⟩) | (go_at_call 20; (with_reducible refine (HM0.out _).mono ?_); rintro e w' ⟨rfl, rfl⟩))
    refine Calls.mono (HK1.out _ (w.heap.size + 1) ?_ ?_) ?_
    · simp; omega
    · go_simp
    rintro e w' ⟨rfl, jk, rfl⟩
    go_wp2_with (first | (go_at_call 19; (with_reducible refine (HSX.out _).mono ?_); rintro e w' ⟨rfl, rfl⟩) | (go_at_call 20; (with_reducible refine (HMX.out _).mono ?_); rintro e w' ⟨rfl, rfl⟩) | (go_at_call 8; (with_reducible refine (HAL.out _).mono ?_); rintro e w' ⟨rfl, j, rfl⟩))
    go_ret
    exact ⟨rfl, Below.junk bel⟩
theorem coreNobody_of (fr ty fl st : Int) (rs : Bool) (a : Option Addr) (n k : Nat) (wh : Int) (kp : Bool) (side : Int) (w : World) (_h0 : -9223372036854775808 ≤ side) (_h1 : side ≤ 9223372036854775807) :
    Calls Tryz.prog 5 #[.agg #[.int .i64 fr, .int .i64 ty, .int .i64 fl, .int .i64 st, .bool rs, .slice a n k, .int .u8 wh, .bool kp], .int .i64 side] w fun e w' => e = .returned (.bool true) ∧ ∃ j, w' = w.more j := coreNobody_law fr ty fl st rs a n k wh kp side w
end Go.Proofs.YtfloijkagfabpaaGreatDoor
