/-
  Scenarios: the document's step of a line.
-/
import Derived.Test.YtfcgdfcekpbliaaGreatDoorSdv4
import Derived.Test.YtfcgdfcekpbliaaGreatDoorSdv3
import Derived.Test.YtfcgdfcekpbliaaGreatDoorMi
namespace Go.Proofs.YtfcgdfcekpbliaaGreatDoor
set_option linter.unusedSimpArgs false
set_option linter.unusedVariables false
set_option linter.unusedSectionVars false
open Go.ChangeShapes Go.WideShapes Go.ChangeAt Go.RowKit Go.Deep Go.Shelf

set_option maxHeartbeats 32000000 in
set_option maxRecDepth 100000 in
theorem ref51_step_rest (a : Option Addr) (cap : Nat) (l : List (List UInt8)) (h0 : 0 < l.length) (hl : l.length ≤ 100000) (hll : ∀ x ∈ l, x.length ≤ 90000) (hx0 : atD l 0 ≠ [104, 101, 97, 100, 101, 114, 115] ∧ atD l 0 ≠ [115, 101, 116]) (w : World) (hS : SlX w w.heap.size a l) :
    Calls Tryz.prog 39 #[.slice a l.length cap] w (DstP (stepD l) w) := by
  have HAT : Hid (∀ (i : Nat) W, i ≤ 1000000 → Below w.heap.size w W → Calls Tryz.prog 40 #[.slice a l.length cap, .int .i64 (i : Int)] W fun e w' => e = .returned (.int .i64 (nmR l i)) ∧ ∃ j, w' = W.more j) := fun i W hi hW =>
    ref51_at a cap l i (by omega) (fun x hx => by have := hll x hx; omega) hi W ((hS.below hW (Nat.le_refl _)).mono hW.size (fun _ _ _ h => h))
  have HA1 : Hid (∀ W, Below w.heap.size w W → Calls Tryz.prog 40 #[.slice a l.length cap, .int .i64 1] W fun e w' => e = .returned (.int .i64 (nmR l 1)) ∧ ∃ j, w' = W.more j) := fun W hW => HAT.out 1 W (by omega) hW
  have HA2 : Hid (∀ W, Below w.heap.size w W → Calls Tryz.prog 40 #[.slice a l.length cap, .int .i64 2] W fun e w' => e = .returned (.int .i64 (nmR l 2)) ∧ ∃ j, w' = W.more j) := fun W hW => HAT.out 2 W (by omega) hW
  have HFL : Hid (∀ W, Below w.heap.size w W → Calls Tryz.prog 66 #[.slice a l.length cap, .int .i64 3] W fun e w' => ∃ v, e = .returned v ∧ OwnF W.heap.size w' v (fldsR (l.drop 3)) ∧ Below W.heap.size W w') := fun W hW =>
    ref51_fields a cap l hl hll W ((hS.below hW (Nat.le_refl _)).mono hW.size (fun _ _ _ h => h))
  obtain ⟨b, off, ha, hbb, c0, _⟩ := SlR.atX hS (k := 0) h0
  subst ha
  obtain ⟨b1, off1, ha1, _, c9, _⟩ := SlR.atX hS (k := l.length - 1) (by omega)
  injection ha1 with ha1
  injection ha1 with e1 e2
  subst e1 e2
  rw [Nat.add_zero] at c0
  have HC2 : Hid (∀ h : 2 < l.length, w.cell? ⟨b, off + 2, none⟩ = some (bstr l[2])) := fun h => by
    obtain ⟨b1, off1, ha1, _, c, _⟩ := SlR.atX hS (k := 2) h
    injection ha1 with ha1
    injection ha1 with e1 e2
    subst e1 e2
    exact c
  have hz0 : atD l 0 = l[0] := by unfold atD; rw [List.getD_eq_getElem?_getD, List.getElem?_eq_getElem h0]; rfl
  have hz2 : ∀ h : 2 < l.length, atD l 2 = l[2] := fun h => by unfold atD; rw [List.getD_eq_getElem?_getD, List.getElem?_eq_getElem h]; rfl
  have hz9 : l.getLast?.getD [] = l[l.length - 1] := by rw [List.getLast?_eq_getElem?, List.getElem?_eq_getElem (by omega)]; rfl
  have hsub : IntKind.i64.wrap ((l.length : Int) - 1) = (l.length : Int) - 1 := IntWalk.i64_in _ (by omega)
  have n3 : (0 : Int) ≤ (l.length : Int) - 1 := by omega
  have n4 : ((l.length : Int) - 1).toNat = l.length - 1 := by omega
  have n5 : (0 : Int) < (l.length : Int) := by omega
  have n6 : (l.length : Int) - 1 < (l.length : Int) := by omega
  have HST : Hid (stepD l = if l[0] = [104, 101, 97, 100, 101, 114, 115] then ⟨1, nmR l 1, 0, decide (2 < l.length) && (atD l 2 == [101, 110, 100]), fldsR (l.drop 3), []⟩
    else if l[0] = [100, 97, 116, 97] then ⟨2, nmR l 1, nmR l 2, (l[l.length - 1] == [101, 110, 100]), [], []⟩
    else if l[0] = [115, 101, 116] then ⟨3, 0, 0, false, [], setsR (l.drop 1)⟩
    else if l[0] = [103, 114, 111, 119] then ⟨4, nmR l 1, nmR l 2, false, [], []⟩
    else if l[0] = [99, 117, 116] then ⟨5, nmR l 1, nmR l 2, false, [], []⟩
    else if l[0] = [99, 97, 108, 108] then ⟨6, 0, nmR l 1, false, [], []⟩
    else if l[0] = [108, 101, 97, 118, 101] then ⟨7, 0, nmR l 1, false, [], []⟩
    else ⟨8, 0, nmR l 1, false, [], []⟩) := by show _ = _; unfold stepD; rw [hz0, hz9]
  have HZ2 := Lib.hid hz2
  generalize stepD l = ST at HST ⊢
  rw [hz0] at hx0
  obtain ⟨hg0, hg2⟩ := hx0
  generalize l[0] = x0 at c0 HST hg0 hg2
  generalize l[l.length - 1] = x9 at c9 HST
  clear hS hll hz0 hz2 hz9
  by_cases g0 : x0 = [104, 101, 97, 100, 101, 114, 115]
  case pos =>
    exact absurd g0 hg0
  by_cases g1 : x0 = [100, 97, 116, 97]
  case pos =>
    clear HC2 HZ2
    have e0 : (x0 == ([104, 101, 97, 100, 101, 114, 115] : List UInt8)) = false := by simpa using g0
    subst g1
    obtain rfl : ST = ⟨2, nmR l 1, nmR l 2, (x9 == [101, 110, 100]), [], []⟩ := by rw [HST.out, if_neg g0, if_pos rfl]
    clear HST
    generalize nmR l 1 = m1 at HA1 ⊢
    generalize nmR l 2 = m2 at HA2 ⊢
    go_enter Tryz.func39, Tryz.ntmps39
    go_wp2_with (first | (go_at_call 40; (with_reducible refine (HA1.out _ bel).mono ?_); rintro e w' ⟨rfl, j, rfl⟩) | (go_at_call 40; (with_reducible refine (HA2.out _ bel).mono ?_); rintro e w' ⟨rfl, j, rfl⟩))
    refine bodyPost_ret (res_cell rfl st_Qt rfl blk rfl) rfl ?_
    exact ⟨_, _, _, _, rfl, World.ownsRow_nil _ _ _ _, World.ownsRow_nil _ _ _ _, bel⟩
  by_cases g2 : x0 = [115, 101, 116]
  case pos =>
    exact absurd g2 hg2
  by_cases g3 : x0 = [103, 114, 111, 119]
  case pos =>
    clear HC2 HZ2
    have e0 : (x0 == ([104, 101, 97, 100, 101, 114, 115] : List UInt8)) = false := by simpa using g0
    have e1 : (x0 == ([100, 97, 116, 97] : List UInt8)) = false := by simpa using g1
    have e2 : (x0 == ([115, 101, 116] : List UInt8)) = false := by simpa using g2
    subst g3
    obtain rfl : ST = ⟨4, nmR l 1, nmR l 2, false, [], []⟩ := by rw [HST.out, if_neg g0, if_neg g1, if_neg g2, if_pos rfl]
    clear HST
    generalize nmR l 1 = m1 at HA1 ⊢
    generalize nmR l 2 = m2 at HA2 ⊢
    go_enter Tryz.func39, Tryz.ntmps39
    go_wp2_with (first | (go_at_call 40; (with_reducible refine (HA1.out _ bel).mono ?_); rintro e w' ⟨rfl, j, rfl⟩) | (go_at_call 40; (with_reducible refine (HA2.out _ bel).mono ?_); rintro e w' ⟨rfl, j, rfl⟩))
    refine bodyPost_ret (res_cell rfl st_Qt rfl blk rfl) rfl ?_
    exact ⟨_, _, _, _, rfl, World.ownsRow_nil _ _ _ _, World.ownsRow_nil _ _ _ _, bel⟩
  by_cases g4 : x0 = [99, 117, 116]
  case pos =>
    clear HC2 HZ2
    have e0 : (x0 == ([104, 101, 97, 100, 101, 114, 115] : List UInt8)) = false := by simpa using g0
    have e1 : (x0 == ([100, 97, 116, 97] : List UInt8)) = false := by simpa using g1
    have e2 : (x0 == ([115, 101, 116] : List UInt8)) = false := by simpa using g2
    have e3 : (x0 == ([103, 114, 111, 119] : List UInt8)) = false := by simpa using g3
    subst g4
    obtain rfl : ST = ⟨5, nmR l 1, nmR l 2, false, [], []⟩ := by rw [HST.out, if_neg g0, if_neg g1, if_neg g2, if_neg g3, if_pos rfl]
    clear HST
    generalize nmR l 1 = m1 at HA1 ⊢
    generalize nmR l 2 = m2 at HA2 ⊢
    go_enter Tryz.func39, Tryz.ntmps39
    go_wp2_with (first | (go_at_call 40; (with_reducible refine (HA1.out _ bel).mono ?_); rintro e w' ⟨rfl, j, rfl⟩) | (go_at_call 40; (with_reducible refine (HA2.out _ bel).mono ?_); rintro e w' ⟨rfl, j, rfl⟩))
    refine bodyPost_ret (res_cell rfl st_Qt rfl blk rfl) rfl ?_
    exact ⟨_, _, _, _, rfl, World.ownsRow_nil _ _ _ _, World.ownsRow_nil _ _ _ _, bel⟩
  by_cases g5 : x0 = [99, 97, 108, 108]
  case pos =>
    clear HC2 HZ2
    have e0 : (x0 == ([104, 101, 97, 100, 101, 114, 115] : List UInt8)) = false := by simpa using g0
    have e1 : (x0 == ([100, 97, 116, 97] : List UInt8)) = false := by simpa using g1
    have e2 : (x0 == ([115, 101, 116] : List UInt8)) = false := by simpa using g2
    have e3 : (x0 == ([103, 114, 111, 119] : List UInt8)) = false := by simpa using g3
    have e4 : (x0 == ([99, 117, 116] : List UInt8)) = false := by simpa using g4
    subst g5
    obtain rfl : ST = ⟨6, 0, nmR l 1, false, [], []⟩ := by rw [HST.out, if_neg g0, if_neg g1, if_neg g2, if_neg g3, if_neg g4, if_pos rfl]
    clear HST
    generalize nmR l 1 = m1 at HA1 ⊢
    generalize nmR l 2 = m2 at HA2 ⊢
    go_enter Tryz.func39, Tryz.ntmps39
    go_wp2_with (first | (go_at_call 40; (with_reducible refine (HA1.out _ bel).mono ?_); rintro e w' ⟨rfl, j, rfl⟩) | (go_at_call 40; (with_reducible refine (HA2.out _ bel).mono ?_); rintro e w' ⟨rfl, j, rfl⟩))
    refine bodyPost_ret (res_cell rfl st_Qt rfl blk rfl) rfl ?_
    exact ⟨_, _, _, _, rfl, World.ownsRow_nil _ _ _ _, World.ownsRow_nil _ _ _ _, bel⟩
  by_cases g6 : x0 = [108, 101, 97, 118, 101]
  case pos =>
    clear HC2 HZ2
    have e0 : (x0 == ([104, 101, 97, 100, 101, 114, 115] : List UInt8)) = false := by simpa using g0
    have e1 : (x0 == ([100, 97, 116, 97] : List UInt8)) = false := by simpa using g1
    have e2 : (x0 == ([115, 101, 116] : List UInt8)) = false := by simpa using g2
    have e3 : (x0 == ([103, 114, 111, 119] : List UInt8)) = false := by simpa using g3
    have e4 : (x0 == ([99, 117, 116] : List UInt8)) = false := by simpa using g4
    have e5 : (x0 == ([99, 97, 108, 108] : List UInt8)) = false := by simpa using g5
    subst g6
    obtain rfl : ST = ⟨7, 0, nmR l 1, false, [], []⟩ := by rw [HST.out, if_neg g0, if_neg g1, if_neg g2, if_neg g3, if_neg g4, if_neg g5, if_pos rfl]
    clear HST
    generalize nmR l 1 = m1 at HA1 ⊢
    generalize nmR l 2 = m2 at HA2 ⊢
    go_enter Tryz.func39, Tryz.ntmps39
    go_wp2_with (first | (go_at_call 40; (with_reducible refine (HA1.out _ bel).mono ?_); rintro e w' ⟨rfl, j, rfl⟩) | (go_at_call 40; (with_reducible refine (HA2.out _ bel).mono ?_); rintro e w' ⟨rfl, j, rfl⟩))
    refine bodyPost_ret (res_cell rfl st_Qt rfl blk rfl) rfl ?_
    exact ⟨_, _, _, _, rfl, World.ownsRow_nil _ _ _ _, World.ownsRow_nil _ _ _ _, bel⟩
  have e0 : (x0 == ([104, 101, 97, 100, 101, 114, 115] : List UInt8)) = false := by simpa using g0
  have e1 : (x0 == ([100, 97, 116, 97] : List UInt8)) = false := by simpa using g1
  have e2 : (x0 == ([115, 101, 116] : List UInt8)) = false := by simpa using g2
  have e3 : (x0 == ([103, 114, 111, 119] : List UInt8)) = false := by simpa using g3
  have e4 : (x0 == ([99, 117, 116] : List UInt8)) = false := by simpa using g4
  have e5 : (x0 == ([99, 97, 108, 108] : List UInt8)) = false := by simpa using g5
  have e6 : (x0 == ([108, 101, 97, 118, 101] : List UInt8)) = false := by simpa using g6
  obtain rfl : ST = ⟨8, 0, nmR l 1, false, [], []⟩ := by rw [HST.out, if_neg g0, if_neg g1, if_neg g2, if_neg g3, if_neg g4, if_neg g5, if_neg g6]
  clear HST HC2 HZ2
  generalize nmR l 1 = m1 at HA1 ⊢
  generalize nmR l 2 = m2 at HA2 ⊢
  go_enter Tryz.func39, Tryz.ntmps39
  go_wp2_with (first | (go_at_call 40; (with_reducible refine (HA1.out _ bel).mono ?_); rintro e w' ⟨rfl, j, rfl⟩) | (go_at_call 40; (with_reducible refine (HA2.out _ bel).mono ?_); rintro e w' ⟨rfl, j, rfl⟩))
  refine bodyPost_ret (res_cell rfl st_Qt rfl blk rfl) rfl ?_
  exact ⟨_, _, _, _, rfl, World.ownsRow_nil _ _ _ _, World.ownsRow_nil _ _ _ _, bel⟩
theorem ref51_step (a : Option Addr) (cap : Nat) (l : List (List UInt8)) (h0 : 0 < l.length) (hl : l.length ≤ 100000) (hll : ∀ x ∈ l, x.length ≤ 90000) (w : World) (hS : SlX w w.heap.size a l) :
    Calls Tryz.prog 39 #[.slice a l.length cap] w (DstP (stepD l) w) := by
  by_cases h1 : atD l 0 = [104, 101, 97, 100, 101, 114, 115]
  · exact ref51_step_headers a cap l h0 hl hll h1 w hS
  by_cases h2 : atD l 0 = [115, 101, 116]
  · exact ref51_step_set a cap l h0 hl hll h2 w hS
  exact ref51_step_rest a cap l h0 hl hll ⟨h1, h2⟩ w hS
end Go.Proofs.YtfcgdfcekpbliaaGreatDoor
