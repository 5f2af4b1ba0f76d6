/-
  How it may be told that a rule is broken: the program's.
-/
import Derived.Test.YtjhhdgmhocpceaaGreatDoorMl
namespace Go.Proofs.YtjhhdgmhocpceaaGreatDoor
set_option linter.unusedSimpArgs false
set_option linter.unusedVariables false
set_option linter.unusedSectionVars false
open Go.ChangeShapes Go.WideShapes Go.ChangeAt Go.RowKit Go.Deep Go.Shelf


def fixL (rule ty st : Int) : List Fl :=
  if rule = 3 then [⟨if wholeF ty st = true then 2 else 1, 6⟩] else if rule = 8 ∨ rule = 19 then [⟨2, 3⟩] else if rule = 13 ∨ rule = 15 then [⟨1, 5⟩] else if rule = 14 then [⟨1, 5⟩, ⟨2, 5⟩] else if rule = 16 then [⟨2, 1⟩, ⟨2, 5⟩]
  else if rule = 17 then [⟨if st = 0 then 2 else 1, 1⟩] else if rule = 18 then [⟨if st = 0 then 2 else 1, 3⟩] else if rule = 20 then [⟨1, 3⟩, ⟨2, 3⟩] else if rule = 24 then [⟨1, 1⟩, ⟨1, 7⟩]
  else if rule = 25 ∨ rule = 26 ∨ rule = 27 then [⟨2, 9⟩] else if 28 ≤ rule ∧ rule ≤ 34 then [⟨1, 1⟩] else if 1 ≤ rule ∧ rule ≤ 35 then [⟨2, 1⟩] else []
def faultsL (rule fr ty fl st : Int) (l : List UInt8) : List Fl :=
  if rule = 5 then ofF [⟨(parseF ty fl st l).1.2.1, (parseF ty fl st l).1.2.2⟩] else if rule = 6 then ofF [⟨(valF fr ty fl st l).1, (valF fr ty fl st l).2⟩] else fixL rule ty st

set_option maxHeartbeats 4000000 in
set_option maxRecDepth 100000 in
theorem rules_few16 (w : World) : Calls Tryz.prog 16 #[.int .i64 16] w (TwoP [⟨2, 1⟩, ⟨2, 5⟩] w) := by
  have H1 : Hid (∀ W, Calls Tryz.prog 11 #[.bool true, .int .i64 5] W (OneP 2 5 W)) := rules_one_conn 5
  have H2 : Hid (∀ W, Calls Tryz.prog 11 #[.bool true, .int .i64 1] W (OneP 2 1 W)) := rules_one_conn 1
  have hof : ofF ([⟨2, 5⟩] ++ [⟨2, 1⟩]) = [⟨2, 1⟩, ⟨2, 5⟩] := by decide +kernel
  go_enter Tryz.func16, Tryz.ntmps16
  go_wp2_with fail
  refine (H1.out _).mono ?_
  rintro e w1 ⟨g1, rfl, hs1, hb1⟩
  have HS1 := Lib.hid hs1
  have HB1 := Lib.hid hb1
  clear hs1 hb1
  go_wp2_with fail
  refine (H2.out _).mono ?_
  rintro e w2 ⟨g2, rfl, hs2, hb2⟩
  have HU := Lib.hid (faults_Union (some ⟨g1, 0, none⟩) (some ⟨g2, 0, none⟩) [⟨2, 5⟩] [⟨2, 1⟩] 1 1 (by simp) (by simp) w2 (SlFl.keep HS1.out hb2) hs2)
  have HB2 := Lib.hid (HB1.out.trans (hb2.mono HB1.out.size))
  rw [hof] at HU
  clear hs2 hb2 HS1 hof
  go_wp2_with fail
  refine HU.out.mono ?_
  rintro e w3 ⟨a3, c3, rfl, _, hs3, hb3⟩
  have HS3 := Lib.hid hs3
  have HB3 := Lib.hid (HB2.out.trans (hb3.mono HB2.out.size))
  clear hs3 hb3
  go_wp2_with fail
  go_ret
  exact ⟨_, _, rfl, HS3.out, HB3.out⟩

set_option maxHeartbeats 4000000 in
set_option maxRecDepth 100000 in
theorem rules_few20 (w : World) : Calls Tryz.prog 16 #[.int .i64 20] w (TwoP [⟨1, 3⟩, ⟨2, 3⟩] w) := by
  have H1 : Hid (∀ W, Calls Tryz.prog 11 #[.bool true, .int .i64 3] W (OneP 2 3 W)) := rules_one_conn 3
  have H2 : Hid (∀ W, Calls Tryz.prog 11 #[.bool false, .int .i64 3] W (OneP 1 3 W)) := rules_one_stream 3
  have hof : ofF ([⟨2, 3⟩] ++ [⟨1, 3⟩]) = [⟨1, 3⟩, ⟨2, 3⟩] := by decide +kernel
  go_enter Tryz.func16, Tryz.ntmps16
  go_wp2_with fail
  refine (H1.out _).mono ?_
  rintro e w1 ⟨g1, rfl, hs1, hb1⟩
  have HS1 := Lib.hid hs1
  have HB1 := Lib.hid hb1
  clear hs1 hb1
  go_wp2_with fail
  refine (H2.out _).mono ?_
  rintro e w2 ⟨g2, rfl, hs2, hb2⟩
  have HU := Lib.hid (faults_Union (some ⟨g1, 0, none⟩) (some ⟨g2, 0, none⟩) [⟨2, 3⟩] [⟨1, 3⟩] 1 1 (by simp) (by simp) w2 (SlFl.keep HS1.out hb2) hs2)
  have HB2 := Lib.hid (HB1.out.trans (hb2.mono HB1.out.size))
  rw [hof] at HU
  clear hs2 hb2 HS1 hof
  go_wp2_with fail
  refine HU.out.mono ?_
  rintro e w3 ⟨a3, c3, rfl, _, hs3, hb3⟩
  have HS3 := Lib.hid hs3
  have HB3 := Lib.hid (HB2.out.trans (hb3.mono HB2.out.size))
  clear hs3 hb3
  go_wp2_with fail
  go_ret
  exact ⟨_, _, rfl, HS3.out, HB3.out⟩

set_option maxHeartbeats 4000000 in
set_option maxRecDepth 100000 in
theorem rules_few24 (w : World) : Calls Tryz.prog 16 #[.int .i64 24] w (TwoP [⟨1, 1⟩, ⟨1, 7⟩] w) := by
  have H1 : Hid (∀ W, Calls Tryz.prog 11 #[.bool false, .int .i64 1] W (OneP 1 1 W)) := rules_one_stream 1
  have H2 : Hid (∀ W, Calls Tryz.prog 11 #[.bool false, .int .i64 7] W (OneP 1 7 W)) := rules_one_stream 7
  have hof : ofF ([⟨1, 1⟩] ++ [⟨1, 7⟩]) = [⟨1, 1⟩, ⟨1, 7⟩] := by decide +kernel
  go_enter Tryz.func16, Tryz.ntmps16
  go_wp2_with fail
  refine (H1.out _).mono ?_
  rintro e w1 ⟨g1, rfl, hs1, hb1⟩
  have HS1 := Lib.hid hs1
  have HB1 := Lib.hid hb1
  clear hs1 hb1
  go_wp2_with fail
  refine (H2.out _).mono ?_
  rintro e w2 ⟨g2, rfl, hs2, hb2⟩
  have HU := Lib.hid (faults_Union (some ⟨g1, 0, none⟩) (some ⟨g2, 0, none⟩) [⟨1, 1⟩] [⟨1, 7⟩] 1 1 (by simp) (by simp) w2 (SlFl.keep HS1.out hb2) hs2)
  have HB2 := Lib.hid (HB1.out.trans (hb2.mono HB1.out.size))
  rw [hof] at HU
  clear hs2 hb2 HS1 hof
  go_wp2_with fail
  refine HU.out.mono ?_
  rintro e w3 ⟨a3, c3, rfl, _, hs3, hb3⟩
  have HS3 := Lib.hid hs3
  have HB3 := Lib.hid (HB2.out.trans (hb3.mono HB2.out.size))
  clear hs3 hb3
  go_wp2_with fail
  go_ret
  exact ⟨_, _, rfl, HS3.out, HB3.out⟩

set_option maxHeartbeats 4000000 in
set_option maxRecDepth 100000 in
theorem rules_Faults_1 (fr ty fl st : Int) (rs : Bool) (a : Option Addr) (c : Nat) (l : List UInt8) (w : World) (m : Int) (hM : w.cell? MaxA = some (.int .i64 m)) :
    Calls Tryz.prog 5 #[.int .i64 1, rawV fr ty fl st rs a l.length c] w (TwoP [⟨2, 1⟩] w) := by
  have H1 : Hid (∀ W, Calls Tryz.prog 11 #[.bool true, .int .i64 1] W (OneP 2 1 W)) := rules_one_conn 1
  have HN : Hid (∀ W, Below w.heap.size w W → Calls Tryz.prog 17 #[.int .i64 1] W fun e w' => e = .returned (bstr (tabN rulW 1)) ∧ ∃ j, w' = W.more j) := fun W hW => rules_Name 1 m W (max_keep hM hW)
  have hne : (tabN rulW 1 == ([] : List UInt8)) = false := by decide
  generalize tabN rulW 1 = R at HN hne
  clear hM
  go_enter Tryz.func5, Tryz.ntmps5
  go_wp2_with (go_at_call 17; (with_reducible refine (HN.out _ bel).mono ?_); rintro e w' ⟨rfl, j, rfl⟩)
  refine (H1.out _).mono ?_
  rintro e w1 ⟨g1, rfl, hs1, hb1⟩
  have HS1 := Lib.hid hs1
  have HB1 : Hid (Below w.heap.size w w1) := Below.trans (B := w.heap.size) bel (hb1.mono (by simp; try omega))
  clear hs1 hb1
  go_wp2_with fail
  go_ret
  exact ⟨_, _, rfl, HS1.out, HB1.out⟩

set_option maxHeartbeats 4000000 in
set_option maxRecDepth 100000 in
theorem rules_Faults_2 (fr ty fl st : Int) (rs : Bool) (a : Option Addr) (c : Nat) (l : List UInt8) (w : World) (m : Int) (hM : w.cell? MaxA = some (.int .i64 m)) :
    Calls Tryz.prog 5 #[.int .i64 2, rawV fr ty fl st rs a l.length c] w (TwoP [⟨2, 1⟩] w) := by
  have H1 : Hid (∀ W, Calls Tryz.prog 11 #[.bool true, .int .i64 1] W (OneP 2 1 W)) := rules_one_conn 1
  have HN : Hid (∀ W, Below w.heap.size w W → Calls Tryz.prog 17 #[.int .i64 2] W fun e w' => e = .returned (bstr (tabN rulW 2)) ∧ ∃ j, w' = W.more j) := fun W hW => rules_Name 2 m W (max_keep hM hW)
  have hne : (tabN rulW 2 == ([] : List UInt8)) = false := by decide
  generalize tabN rulW 2 = R at HN hne
  clear hM
  go_enter Tryz.func5, Tryz.ntmps5
  go_wp2_with (go_at_call 17; (with_reducible refine (HN.out _ bel).mono ?_); rintro e w' ⟨rfl, j, rfl⟩)
  refine (H1.out _).mono ?_
  rintro e w1 ⟨g1, rfl, hs1, hb1⟩
  have HS1 := Lib.hid hs1
  have HB1 : Hid (Below w.heap.size w w1) := Below.trans (B := w.heap.size) bel (hb1.mono (by simp; try omega))
  clear hs1 hb1
  go_wp2_with fail
  go_ret
  exact ⟨_, _, rfl, HS1.out, HB1.out⟩

set_option maxHeartbeats 4000000 in
set_option maxRecDepth 100000 in
theorem rules_Faults_4 (fr ty fl st : Int) (rs : Bool) (a : Option Addr) (c : Nat) (l : List UInt8) (w : World) (m : Int) (hM : w.cell? MaxA = some (.int .i64 m)) :
    Calls Tryz.prog 5 #[.int .i64 4, rawV fr ty fl st rs a l.length c] w (TwoP [⟨2, 1⟩] w) := by
  have H1 : Hid (∀ W, Calls Tryz.prog 11 #[.bool true, .int .i64 1] W (OneP 2 1 W)) := rules_one_conn 1
  have HN : Hid (∀ W, Below w.heap.size w W → Calls Tryz.prog 17 #[.int .i64 4] W fun e w' => e = .returned (bstr (tabN rulW 4)) ∧ ∃ j, w' = W.more j) := fun W hW => rules_Name 4 m W (max_keep hM hW)
  have hne : (tabN rulW 4 == ([] : List UInt8)) = false := by decide
  generalize tabN rulW 4 = R at HN hne
  clear hM
  go_enter Tryz.func5, Tryz.ntmps5
  go_wp2_with (go_at_call 17; (with_reducible refine (HN.out _ bel).mono ?_); rintro e w' ⟨rfl, j, rfl⟩)
  refine (H1.out _).mono ?_
  rintro e w1 ⟨g1, rfl, hs1, hb1⟩
  have HS1 := Lib.hid hs1
  have HB1 : Hid (Below w.heap.size w w1) := Below.trans (B := w.heap.size) bel (hb1.mono (by simp; try omega))
  clear hs1 hb1
  go_wp2_with fail
  go_ret
  exact ⟨_, _, rfl, HS1.out, HB1.out⟩

set_option maxHeartbeats 4000000 in
set_option maxRecDepth 100000 in
theorem rules_Faults_7 (fr ty fl st : Int) (rs : Bool) (a : Option Addr) (c : Nat) (l : List UInt8) (w : World) (m : Int) (hM : w.cell? MaxA = some (.int .i64 m)) :
    Calls Tryz.prog 5 #[.int .i64 7, rawV fr ty fl st rs a l.length c] w (TwoP [⟨2, 1⟩] w) := by
  have H1 : Hid (∀ W, Calls Tryz.prog 11 #[.bool true, .int .i64 1] W (OneP 2 1 W)) := rules_one_conn 1
  have HN : Hid (∀ W, Below w.heap.size w W → Calls Tryz.prog 17 #[.int .i64 7] W fun e w' => e = .returned (bstr (tabN rulW 7)) ∧ ∃ j, w' = W.more j) := fun W hW => rules_Name 7 m W (max_keep hM hW)
  have hne : (tabN rulW 7 == ([] : List UInt8)) = false := by decide
  generalize tabN rulW 7 = R at HN hne
  clear hM
  go_enter Tryz.func5, Tryz.ntmps5
  go_wp2_with (go_at_call 17; (with_reducible refine (HN.out _ bel).mono ?_); rintro e w' ⟨rfl, j, rfl⟩)
  refine (H1.out _).mono ?_
  rintro e w1 ⟨g1, rfl, hs1, hb1⟩
  have HS1 := Lib.hid hs1
  have HB1 : Hid (Below w.heap.size w w1) := Below.trans (B := w.heap.size) bel (hb1.mono (by simp; try omega))
  clear hs1 hb1
  go_wp2_with fail
  go_ret
  exact ⟨_, _, rfl, HS1.out, HB1.out⟩

set_option maxHeartbeats 4000000 in
set_option maxRecDepth 100000 in
theorem rules_Faults_8 (fr ty fl st : Int) (rs : Bool) (a : Option Addr) (c : Nat) (l : List UInt8) (w : World) :
    Calls Tryz.prog 5 #[.int .i64 8, rawV fr ty fl st rs a l.length c] w (TwoP [⟨2, 3⟩] w) := by
  have H1 : Hid (∀ W, Calls Tryz.prog 11 #[.bool true, .int .i64 3] W (OneP 2 3 W)) := rules_one_conn 3
  go_enter Tryz.func5, Tryz.ntmps5
  go_wp2_with fail
  refine (H1.out _).mono ?_
  rintro e w1 ⟨g1, rfl, hs1, hb1⟩
  have HS1 := Lib.hid hs1
  have HB1 : Hid (Below w.heap.size w w1) := Below.trans (B := w.heap.size) bel (hb1.mono (by simp; try omega))
  clear hs1 hb1
  go_wp2_with fail
  go_ret
  exact ⟨_, _, rfl, HS1.out, HB1.out⟩

set_option maxHeartbeats 4000000 in
set_option maxRecDepth 100000 in
theorem rules_Faults_9 (fr ty fl st : Int) (rs : Bool) (a : Option Addr) (c : Nat) (l : List UInt8) (w : World) (m : Int) (hM : w.cell? MaxA = some (.int .i64 m)) :
    Calls Tryz.prog 5 #[.int .i64 9, rawV fr ty fl st rs a l.length c] w (TwoP [⟨2, 1⟩] w) := by
  have H1 : Hid (∀ W, Calls Tryz.prog 11 #[.bool true, .int .i64 1] W (OneP 2 1 W)) := rules_one_conn 1
  have HN : Hid (∀ W, Below w.heap.size w W → Calls Tryz.prog 17 #[.int .i64 9] W fun e w' => e = .returned (bstr (tabN rulW 9)) ∧ ∃ j, w' = W.more j) := fun W hW => rules_Name 9 m W (max_keep hM hW)
  have hne : (tabN rulW 9 == ([] : List UInt8)) = false := by decide
  generalize tabN rulW 9 = R at HN hne
  clear hM
  go_enter Tryz.func5, Tryz.ntmps5
  go_wp2_with (go_at_call 17; (with_reducible refine (HN.out _ bel).mono ?_); rintro e w' ⟨rfl, j, rfl⟩)
  refine (H1.out _).mono ?_
  rintro e w1 ⟨g1, rfl, hs1, hb1⟩
  have HS1 := Lib.hid hs1
  have HB1 : Hid (Below w.heap.size w w1) := Below.trans (B := w.heap.size) bel (hb1.mono (by simp; try omega))
  clear hs1 hb1
  go_wp2_with fail
  go_ret
  exact ⟨_, _, rfl, HS1.out, HB1.out⟩

set_option maxHeartbeats 4000000 in
set_option maxRecDepth 100000 in
theorem rules_Faults_10 (fr ty fl st : Int) (rs : Bool) (a : Option Addr) (c : Nat) (l : List UInt8) (w : World) (m : Int) (hM : w.cell? MaxA = some (.int .i64 m)) :
    Calls Tryz.prog 5 #[.int .i64 10, rawV fr ty fl st rs a l.length c] w (TwoP [⟨2, 1⟩] w) := by
  have H1 : Hid (∀ W, Calls Tryz.prog 11 #[.bool true, .int .i64 1] W (OneP 2 1 W)) := rules_one_conn 1
  have HN : Hid (∀ W, Below w.heap.size w W → Calls Tryz.prog 17 #[.int .i64 10] W fun e w' => e = .returned (bstr (tabN rulW 10)) ∧ ∃ j, w' = W.more j) := fun W hW => rules_Name 10 m W (max_keep hM hW)
  have hne : (tabN rulW 10 == ([] : List UInt8)) = false := by decide
  generalize tabN rulW 10 = R at HN hne
  clear hM
  go_enter Tryz.func5, Tryz.ntmps5
  go_wp2_with (go_at_call 17; (with_reducible refine (HN.out _ bel).mono ?_); rintro e w' ⟨rfl, j, rfl⟩)
  refine (H1.out _).mono ?_
  rintro e w1 ⟨g1, rfl, hs1, hb1⟩
  have HS1 := Lib.hid hs1
  have HB1 : Hid (Below w.heap.size w w1) := Below.trans (B := w.heap.size) bel (hb1.mono (by simp; try omega))
  clear hs1 hb1
  go_wp2_with fail
  go_ret
  exact ⟨_, _, rfl, HS1.out, HB1.out⟩

set_option maxHeartbeats 4000000 in
set_option maxRecDepth 100000 in
theorem rules_Faults_11 (fr ty fl st : Int) (rs : Bool) (a : Option Addr) (c : Nat) (l : List UInt8) (w : World) (m : Int) (hM : w.cell? MaxA = some (.int .i64 m)) :
    Calls Tryz.prog 5 #[.int .i64 11, rawV fr ty fl st rs a l.length c] w (TwoP [⟨2, 1⟩] w) := by
  have H1 : Hid (∀ W, Calls Tryz.prog 11 #[.bool true, .int .i64 1] W (OneP 2 1 W)) := rules_one_conn 1
  have HN : Hid (∀ W, Below w.heap.size w W → Calls Tryz.prog 17 #[.int .i64 11] W fun e w' => e = .returned (bstr (tabN rulW 11)) ∧ ∃ j, w' = W.more j) := fun W hW => rules_Name 11 m W (max_keep hM hW)
  have hne : (tabN rulW 11 == ([] : List UInt8)) = false := by decide
  generalize tabN rulW 11 = R at HN hne
  clear hM
  go_enter Tryz.func5, Tryz.ntmps5
  go_wp2_with (go_at_call 17; (with_reducible refine (HN.out _ bel).mono ?_); rintro e w' ⟨rfl, j, rfl⟩)
  refine (H1.out _).mono ?_
  rintro e w1 ⟨g1, rfl, hs1, hb1⟩
  have HS1 := Lib.hid hs1
  have HB1 : Hid (Below w.heap.size w w1) := Below.trans (B := w.heap.size) bel (hb1.mono (by simp; try omega))
  clear hs1 hb1
  go_wp2_with fail
  go_ret
  exact ⟨_, _, rfl, HS1.out, HB1.out⟩

set_option maxHeartbeats 4000000 in
set_option maxRecDepth 100000 in
theorem rules_Faults_12 (fr ty fl st : Int) (rs : Bool) (a : Option Addr) (c : Nat) (l : List UInt8) (w : World) (m : Int) (hM : w.cell? MaxA = some (.int .i64 m)) :
    Calls Tryz.prog 5 #[.int .i64 12, rawV fr ty fl st rs a l.length c] w (TwoP [⟨2, 1⟩] w) := by
  have H1 : Hid (∀ W, Calls Tryz.prog 11 #[.bool true, .int .i64 1] W (OneP 2 1 W)) := rules_one_conn 1
  have HN : Hid (∀ W, Below w.heap.size w W → Calls Tryz.prog 17 #[.int .i64 12] W fun e w' => e = .returned (bstr (tabN rulW 12)) ∧ ∃ j, w' = W.more j) := fun W hW => rules_Name 12 m W (max_keep hM hW)
  have hne : (tabN rulW 12 == ([] : List UInt8)) = false := by decide
  generalize tabN rulW 12 = R at HN hne
  clear hM
  go_enter Tryz.func5, Tryz.ntmps5
  go_wp2_with (go_at_call 17; (with_reducible refine (HN.out _ bel).mono ?_); rintro e w' ⟨rfl, j, rfl⟩)
  refine (H1.out _).mono ?_
  rintro e w1 ⟨g1, rfl, hs1, hb1⟩
  have HS1 := Lib.hid hs1
  have HB1 : Hid (Below w.heap.size w w1) := Below.trans (B := w.heap.size) bel (hb1.mono (by simp; try omega))
  clear hs1 hb1
  go_wp2_with fail
  go_ret
  exact ⟨_, _, rfl, HS1.out, HB1.out⟩

set_option maxHeartbeats 4000000 in
set_option maxRecDepth 100000 in
theorem rules_Faults_13 (fr ty fl st : Int) (rs : Bool) (a : Option Addr) (c : Nat) (l : List UInt8) (w : World) :
    Calls Tryz.prog 5 #[.int .i64 13, rawV fr ty fl st rs a l.length c] w (TwoP [⟨1, 5⟩] w) := by
  have H1 : Hid (∀ W, Calls Tryz.prog 11 #[.bool false, .int .i64 5] W (OneP 1 5 W)) := rules_one_stream 5
  go_enter Tryz.func5, Tryz.ntmps5
  go_wp2_with fail
  refine (H1.out _).mono ?_
  rintro e w1 ⟨g1, rfl, hs1, hb1⟩
  have HS1 := Lib.hid hs1
  have HB1 : Hid (Below w.heap.size w w1) := Below.trans (B := w.heap.size) bel (hb1.mono (by simp; try omega))
  clear hs1 hb1
  go_wp2_with fail
  go_ret
  exact ⟨_, _, rfl, HS1.out, HB1.out⟩

set_option maxHeartbeats 4000000 in
set_option maxRecDepth 100000 in
theorem rules_Faults_15 (fr ty fl st : Int) (rs : Bool) (a : Option Addr) (c : Nat) (l : List UInt8) (w : World) :
    Calls Tryz.prog 5 #[.int .i64 15, rawV fr ty fl st rs a l.length c] w (TwoP [⟨1, 5⟩] w) := by
  have H1 : Hid (∀ W, Calls Tryz.prog 11 #[.bool false, .int .i64 5] W (OneP 1 5 W)) := rules_one_stream 5
  go_enter Tryz.func5, Tryz.ntmps5
  go_wp2_with fail
  refine (H1.out _).mono ?_
  rintro e w1 ⟨g1, rfl, hs1, hb1⟩
  have HS1 := Lib.hid hs1
  have HB1 : Hid (Below w.heap.size w w1) := Below.trans (B := w.heap.size) bel (hb1.mono (by simp; try omega))
  clear hs1 hb1
  go_wp2_with fail
  go_ret
  exact ⟨_, _, rfl, HS1.out, HB1.out⟩

set_option maxHeartbeats 4000000 in
set_option maxRecDepth 100000 in
theorem rules_Faults_19 (fr ty fl st : Int) (rs : Bool) (a : Option Addr) (c : Nat) (l : List UInt8) (w : World) :
    Calls Tryz.prog 5 #[.int .i64 19, rawV fr ty fl st rs a l.length c] w (TwoP [⟨2, 3⟩] w) := by
  have H1 : Hid (∀ W, Calls Tryz.prog 11 #[.bool true, .int .i64 3] W (OneP 2 3 W)) := rules_one_conn 3
  go_enter Tryz.func5, Tryz.ntmps5
  go_wp2_with fail
  refine (H1.out _).mono ?_
  rintro e w1 ⟨g1, rfl, hs1, hb1⟩
  have HS1 := Lib.hid hs1
  have HB1 : Hid (Below w.heap.size w w1) := Below.trans (B := w.heap.size) bel (hb1.mono (by simp; try omega))
  clear hs1 hb1
  go_wp2_with fail
  go_ret
  exact ⟨_, _, rfl, HS1.out, HB1.out⟩

set_option maxHeartbeats 4000000 in
set_option maxRecDepth 100000 in
theorem rules_Faults_21 (fr ty fl st : Int) (rs : Bool) (a : Option Addr) (c : Nat) (l : List UInt8) (w : World) (m : Int) (hM : w.cell? MaxA = some (.int .i64 m)) :
    Calls Tryz.prog 5 #[.int .i64 21, rawV fr ty fl st rs a l.length c] w (TwoP [⟨2, 1⟩] w) := by
  have H1 : Hid (∀ W, Calls Tryz.prog 11 #[.bool true, .int .i64 1] W (OneP 2 1 W)) := rules_one_conn 1
  have HN : Hid (∀ W, Below w.heap.size w W → Calls Tryz.prog 17 #[.int .i64 21] W fun e w' => e = .returned (bstr (tabN rulW 21)) ∧ ∃ j, w' = W.more j) := fun W hW => rules_Name 21 m W (max_keep hM hW)
  have hne : (tabN rulW 21 == ([] : List UInt8)) = false := by decide
  generalize tabN rulW 21 = R at HN hne
  clear hM
  go_enter Tryz.func5, Tryz.ntmps5
  go_wp2_with (go_at_call 17; (with_reducible refine (HN.out _ bel).mono ?_); rintro e w' ⟨rfl, j, rfl⟩)
  refine (H1.out _).mono ?_
  rintro e w1 ⟨g1, rfl, hs1, hb1⟩
  have HS1 := Lib.hid hs1
  have HB1 : Hid (Below w.heap.size w w1) := Below.trans (B := w.heap.size) bel (hb1.mono (by simp; try omega))
  clear hs1 hb1
  go_wp2_with fail
  go_ret
  exact ⟨_, _, rfl, HS1.out, HB1.out⟩

set_option maxHeartbeats 4000000 in
set_option maxRecDepth 100000 in
theorem rules_Faults_22 (fr ty fl st : Int) (rs : Bool) (a : Option Addr) (c : Nat) (l : List UInt8) (w : World) (m : Int) (hM : w.cell? MaxA = some (.int .i64 m)) :
    Calls Tryz.prog 5 #[.int .i64 22, rawV fr ty fl st rs a l.length c] w (TwoP [⟨2, 1⟩] w) := by
  have H1 : Hid (∀ W, Calls Tryz.prog 11 #[.bool true, .int .i64 1] W (OneP 2 1 W)) := rules_one_conn 1
  have HN : Hid (∀ W, Below w.heap.size w W → Calls Tryz.prog 17 #[.int .i64 22] W fun e w' => e = .returned (bstr (tabN rulW 22)) ∧ ∃ j, w' = W.more j) := fun W hW => rules_Name 22 m W (max_keep hM hW)
  have hne : (tabN rulW 22 == ([] : List UInt8)) = false := by decide
  generalize tabN rulW 22 = R at HN hne
  clear hM
  go_enter Tryz.func5, Tryz.ntmps5
  go_wp2_with (go_at_call 17; (with_reducible refine (HN.out _ bel).mono ?_); rintro e w' ⟨rfl, j, rfl⟩)
  refine (H1.out _).mono ?_
  rintro e w1 ⟨g1, rfl, hs1, hb1⟩
  have HS1 := Lib.hid hs1
  have HB1 : Hid (Below w.heap.size w w1) := Below.trans (B := w.heap.size) bel (hb1.mono (by simp; try omega))
  clear hs1 hb1
  go_wp2_with fail
  go_ret
  exact ⟨_, _, rfl, HS1.out, HB1.out⟩

set_option maxHeartbeats 4000000 in
set_option maxRecDepth 100000 in
theorem rules_Faults_23 (fr ty fl st : Int) (rs : Bool) (a : Option Addr) (c : Nat) (l : List UInt8) (w : World) (m : Int) (hM : w.cell? MaxA = some (.int .i64 m)) :
    Calls Tryz.prog 5 #[.int .i64 23, rawV fr ty fl st rs a l.length c] w (TwoP [⟨2, 1⟩] w) := by
  have H1 : Hid (∀ W, Calls Tryz.prog 11 #[.bool true, .int .i64 1] W (OneP 2 1 W)) := rules_one_conn 1
  have HN : Hid (∀ W, Below w.heap.size w W → Calls Tryz.prog 17 #[.int .i64 23] W fun e w' => e = .returned (bstr (tabN rulW 23)) ∧ ∃ j, w' = W.more j) := fun W hW => rules_Name 23 m W (max_keep hM hW)
  have hne : (tabN rulW 23 == ([] : List UInt8)) = false := by decide
  generalize tabN rulW 23 = R at HN hne
  clear hM
  go_enter Tryz.func5, Tryz.ntmps5
  go_wp2_with (go_at_call 17; (with_reducible refine (HN.out _ bel).mono ?_); rintro e w' ⟨rfl, j, rfl⟩)
  refine (H1.out _).mono ?_
  rintro e w1 ⟨g1, rfl, hs1, hb1⟩
  have HS1 := Lib.hid hs1
  have HB1 : Hid (Below w.heap.size w w1) := Below.trans (B := w.heap.size) bel (hb1.mono (by simp; try omega))
  clear hs1 hb1
  go_wp2_with fail
  go_ret
  exact ⟨_, _, rfl, HS1.out, HB1.out⟩

set_option maxHeartbeats 4000000 in
set_option maxRecDepth 100000 in
theorem rules_Faults_25 (fr ty fl st : Int) (rs : Bool) (a : Option Addr) (c : Nat) (l : List UInt8) (w : World) :
    Calls Tryz.prog 5 #[.int .i64 25, rawV fr ty fl st rs a l.length c] w (TwoP [⟨2, 9⟩] w) := by
  have H1 : Hid (∀ W, Calls Tryz.prog 11 #[.bool true, .int .i64 9] W (OneP 2 9 W)) := rules_one_conn 9
  go_enter Tryz.func5, Tryz.ntmps5
  go_wp2_with fail
  refine (H1.out _).mono ?_
  rintro e w1 ⟨g1, rfl, hs1, hb1⟩
  have HS1 := Lib.hid hs1
  have HB1 : Hid (Below w.heap.size w w1) := Below.trans (B := w.heap.size) bel (hb1.mono (by simp; try omega))
  clear hs1 hb1
  go_wp2_with fail
  go_ret
  exact ⟨_, _, rfl, HS1.out, HB1.out⟩

set_option maxHeartbeats 4000000 in
set_option maxRecDepth 100000 in
theorem rules_Faults_26 (fr ty fl st : Int) (rs : Bool) (a : Option Addr) (c : Nat) (l : List UInt8) (w : World) :
    Calls Tryz.prog 5 #[.int .i64 26, rawV fr ty fl st rs a l.length c] w (TwoP [⟨2, 9⟩] w) := by
  have H1 : Hid (∀ W, Calls Tryz.prog 11 #[.bool true, .int .i64 9] W (OneP 2 9 W)) := rules_one_conn 9
  go_enter Tryz.func5, Tryz.ntmps5
  go_wp2_with fail
  refine (H1.out _).mono ?_
  rintro e w1 ⟨g1, rfl, hs1, hb1⟩
  have HS1 := Lib.hid hs1
  have HB1 : Hid (Below w.heap.size w w1) := Below.trans (B := w.heap.size) bel (hb1.mono (by simp; try omega))
  clear hs1 hb1
  go_wp2_with fail
  go_ret
  exact ⟨_, _, rfl, HS1.out, HB1.out⟩

set_option maxHeartbeats 4000000 in
set_option maxRecDepth 100000 in
theorem rules_Faults_27 (fr ty fl st : Int) (rs : Bool) (a : Option Addr) (c : Nat) (l : List UInt8) (w : World) :
    Calls Tryz.prog 5 #[.int .i64 27, rawV fr ty fl st rs a l.length c] w (TwoP [⟨2, 9⟩] w) := by
  have H1 : Hid (∀ W, Calls Tryz.prog 11 #[.bool true, .int .i64 9] W (OneP 2 9 W)) := rules_one_conn 9
  go_enter Tryz.func5, Tryz.ntmps5
  go_wp2_with fail
  refine (H1.out _).mono ?_
  rintro e w1 ⟨g1, rfl, hs1, hb1⟩
  have HS1 := Lib.hid hs1
  have HB1 : Hid (Below w.heap.size w w1) := Below.trans (B := w.heap.size) bel (hb1.mono (by simp; try omega))
  clear hs1 hb1
  go_wp2_with fail
  go_ret
  exact ⟨_, _, rfl, HS1.out, HB1.out⟩

set_option maxHeartbeats 4000000 in
set_option maxRecDepth 100000 in
theorem rules_Faults_28 (fr ty fl st : Int) (rs : Bool) (a : Option Addr) (c : Nat) (l : List UInt8) (w : World) :
    Calls Tryz.prog 5 #[.int .i64 28, rawV fr ty fl st rs a l.length c] w (TwoP [⟨1, 1⟩] w) := by
  have H1 : Hid (∀ W, Calls Tryz.prog 11 #[.bool false, .int .i64 1] W (OneP 1 1 W)) := rules_one_stream 1
  go_enter Tryz.func5, Tryz.ntmps5
  go_wp2_with fail
  refine (H1.out _).mono ?_
  rintro e w1 ⟨g1, rfl, hs1, hb1⟩
  have HS1 := Lib.hid hs1
  have HB1 : Hid (Below w.heap.size w w1) := Below.trans (B := w.heap.size) bel (hb1.mono (by simp; try omega))
  clear hs1 hb1
  go_wp2_with fail
  go_ret
  exact ⟨_, _, rfl, HS1.out, HB1.out⟩

set_option maxHeartbeats 4000000 in
set_option maxRecDepth 100000 in
theorem rules_Faults_29 (fr ty fl st : Int) (rs : Bool) (a : Option Addr) (c : Nat) (l : List UInt8) (w : World) :
    Calls Tryz.prog 5 #[.int .i64 29, rawV fr ty fl st rs a l.length c] w (TwoP [⟨1, 1⟩] w) := by
  have H1 : Hid (∀ W, Calls Tryz.prog 11 #[.bool false, .int .i64 1] W (OneP 1 1 W)) := rules_one_stream 1
  go_enter Tryz.func5, Tryz.ntmps5
  go_wp2_with fail
  refine (H1.out _).mono ?_
  rintro e w1 ⟨g1, rfl, hs1, hb1⟩
  have HS1 := Lib.hid hs1
  have HB1 : Hid (Below w.heap.size w w1) := Below.trans (B := w.heap.size) bel (hb1.mono (by simp; try omega))
  clear hs1 hb1
  go_wp2_with fail
  go_ret
  exact ⟨_, _, rfl, HS1.out, HB1.out⟩

set_option maxHeartbeats 4000000 in
set_option maxRecDepth 100000 in
theorem rules_Faults_30 (fr ty fl st : Int) (rs : Bool) (a : Option Addr) (c : Nat) (l : List UInt8) (w : World) :
    Calls Tryz.prog 5 #[.int .i64 30, rawV fr ty fl st rs a l.length c] w (TwoP [⟨1, 1⟩] w) := by
  have H1 : Hid (∀ W, Calls Tryz.prog 11 #[.bool false, .int .i64 1] W (OneP 1 1 W)) := rules_one_stream 1
  go_enter Tryz.func5, Tryz.ntmps5
  go_wp2_with fail
  refine (H1.out _).mono ?_
  rintro e w1 ⟨g1, rfl, hs1, hb1⟩
  have HS1 := Lib.hid hs1
  have HB1 : Hid (Below w.heap.size w w1) := Below.trans (B := w.heap.size) bel (hb1.mono (by simp; try omega))
  clear hs1 hb1
  go_wp2_with fail
  go_ret
  exact ⟨_, _, rfl, HS1.out, HB1.out⟩

set_option maxHeartbeats 4000000 in
set_option maxRecDepth 100000 in
theorem rules_Faults_31 (fr ty fl st : Int) (rs : Bool) (a : Option Addr) (c : Nat) (l : List UInt8) (w : World) :
    Calls Tryz.prog 5 #[.int .i64 31, rawV fr ty fl st rs a l.length c] w (TwoP [⟨1, 1⟩] w) := by
  have H1 : Hid (∀ W, Calls Tryz.prog 11 #[.bool false, .int .i64 1] W (OneP 1 1 W)) := rules_one_stream 1
  go_enter Tryz.func5, Tryz.ntmps5
  go_wp2_with fail
  refine (H1.out _).mono ?_
  rintro e w1 ⟨g1, rfl, hs1, hb1⟩
  have HS1 := Lib.hid hs1
  have HB1 : Hid (Below w.heap.size w w1) := Below.trans (B := w.heap.size) bel (hb1.mono (by simp; try omega))
  clear hs1 hb1
  go_wp2_with fail
  go_ret
  exact ⟨_, _, rfl, HS1.out, HB1.out⟩

set_option maxHeartbeats 4000000 in
set_option maxRecDepth 100000 in
theorem rules_Faults_32 (fr ty fl st : Int) (rs : Bool) (a : Option Addr) (c : Nat) (l : List UInt8) (w : World) :
    Calls Tryz.prog 5 #[.int .i64 32, rawV fr ty fl st rs a l.length c] w (TwoP [⟨1, 1⟩] w) := by
  have H1 : Hid (∀ W, Calls Tryz.prog 11 #[.bool false, .int .i64 1] W (OneP 1 1 W)) := rules_one_stream 1
  go_enter Tryz.func5, Tryz.ntmps5
  go_wp2_with fail
  refine (H1.out _).mono ?_
  rintro e w1 ⟨g1, rfl, hs1, hb1⟩
  have HS1 := Lib.hid hs1
  have HB1 : Hid (Below w.heap.size w w1) := Below.trans (B := w.heap.size) bel (hb1.mono (by simp; try omega))
  clear hs1 hb1
  go_wp2_with fail
  go_ret
  exact ⟨_, _, rfl, HS1.out, HB1.out⟩

set_option maxHeartbeats 4000000 in
set_option maxRecDepth 100000 in
theorem rules_Faults_33 (fr ty fl st : Int) (rs : Bool) (a : Option Addr) (c : Nat) (l : List UInt8) (w : World) :
    Calls Tryz.prog 5 #[.int .i64 33, rawV fr ty fl st rs a l.length c] w (TwoP [⟨1, 1⟩] w) := by
  have H1 : Hid (∀ W, Calls Tryz.prog 11 #[.bool false, .int .i64 1] W (OneP 1 1 W)) := rules_one_stream 1
  go_enter Tryz.func5, Tryz.ntmps5
  go_wp2_with fail
  refine (H1.out _).mono ?_
  rintro e w1 ⟨g1, rfl, hs1, hb1⟩
  have HS1 := Lib.hid hs1
  have HB1 : Hid (Below w.heap.size w w1) := Below.trans (B := w.heap.size) bel (hb1.mono (by simp; try omega))
  clear hs1 hb1
  go_wp2_with fail
  go_ret
  exact ⟨_, _, rfl, HS1.out, HB1.out⟩

set_option maxHeartbeats 4000000 in
set_option maxRecDepth 100000 in
theorem rules_Faults_34 (fr ty fl st : Int) (rs : Bool) (a : Option Addr) (c : Nat) (l : List UInt8) (w : World) :
    Calls Tryz.prog 5 #[.int .i64 34, rawV fr ty fl st rs a l.length c] w (TwoP [⟨1, 1⟩] w) := by
  have H1 : Hid (∀ W, Calls Tryz.prog 11 #[.bool false, .int .i64 1] W (OneP 1 1 W)) := rules_one_stream 1
  go_enter Tryz.func5, Tryz.ntmps5
  go_wp2_with fail
  refine (H1.out _).mono ?_
  rintro e w1 ⟨g1, rfl, hs1, hb1⟩
  have HS1 := Lib.hid hs1
  have HB1 : Hid (Below w.heap.size w w1) := Below.trans (B := w.heap.size) bel (hb1.mono (by simp; try omega))
  clear hs1 hb1
  go_wp2_with fail
  go_ret
  exact ⟨_, _, rfl, HS1.out, HB1.out⟩

set_option maxHeartbeats 4000000 in
set_option maxRecDepth 100000 in
theorem rules_Faults_35 (fr ty fl st : Int) (rs : Bool) (a : Option Addr) (c : Nat) (l : List UInt8) (w : World) (m : Int) (hM : w.cell? MaxA = some (.int .i64 m)) :
    Calls Tryz.prog 5 #[.int .i64 35, rawV fr ty fl st rs a l.length c] w (TwoP [⟨2, 1⟩] w) := by
  have H1 : Hid (∀ W, Calls Tryz.prog 11 #[.bool true, .int .i64 1] W (OneP 2 1 W)) := rules_one_conn 1
  have HN : Hid (∀ W, Below w.heap.size w W → Calls Tryz.prog 17 #[.int .i64 35] W fun e w' => e = .returned (bstr (tabN rulW 35)) ∧ ∃ j, w' = W.more j) := fun W hW => rules_Name 35 m W (max_keep hM hW)
  have hne : (tabN rulW 35 == ([] : List UInt8)) = false := by decide
  generalize tabN rulW 35 = R at HN hne
  clear hM
  go_enter Tryz.func5, Tryz.ntmps5
  go_wp2_with (go_at_call 17; (with_reducible refine (HN.out _ bel).mono ?_); rintro e w' ⟨rfl, j, rfl⟩)
  refine (H1.out _).mono ?_
  rintro e w1 ⟨g1, rfl, hs1, hb1⟩
  have HS1 := Lib.hid hs1
  have HB1 : Hid (Below w.heap.size w w1) := Below.trans (B := w.heap.size) bel (hb1.mono (by simp; try omega))
  clear hs1 hb1
  go_wp2_with fail
  go_ret
  exact ⟨_, _, rfl, HS1.out, HB1.out⟩

set_option maxHeartbeats 4000000 in
set_option maxRecDepth 100000 in
theorem rules_Faults_14 (fr ty fl st : Int) (rs : Bool) (a : Option Addr) (c : Nat) (l : List UInt8) (w : World) :
    Calls Tryz.prog 5 #[.int .i64 14, rawV fr ty fl st rs a l.length c] w (TwoP [⟨1, 5⟩, ⟨2, 5⟩] w) := by
  have H1 : Hid (∀ W, Calls Tryz.prog 16 #[.int .i64 14] W (TwoP [⟨1, 5⟩, ⟨2, 5⟩] W)) := rules_few14
  go_enter Tryz.func5, Tryz.ntmps5
  go_wp2_with fail
  refine (H1.out _).mono ?_
  rintro e w1 ⟨a1, c1, rfl, hs1, hb1⟩
  have HS1 := Lib.hid hs1
  have HB1 : Hid (Below w.heap.size w w1) := Below.trans (B := w.heap.size) bel (hb1.mono (by simp; try omega))
  clear hs1 hb1
  go_wp2_with fail
  go_ret
  exact ⟨_, _, rfl, HS1.out, HB1.out⟩

set_option maxHeartbeats 4000000 in
set_option maxRecDepth 100000 in
theorem rules_Faults_16 (fr ty fl st : Int) (rs : Bool) (a : Option Addr) (c : Nat) (l : List UInt8) (w : World) :
    Calls Tryz.prog 5 #[.int .i64 16, rawV fr ty fl st rs a l.length c] w (TwoP [⟨2, 1⟩, ⟨2, 5⟩] w) := by
  have H1 : Hid (∀ W, Calls Tryz.prog 16 #[.int .i64 16] W (TwoP [⟨2, 1⟩, ⟨2, 5⟩] W)) := rules_few16
  go_enter Tryz.func5, Tryz.ntmps5
  go_wp2_with fail
  refine (H1.out _).mono ?_
  rintro e w1 ⟨a1, c1, rfl, hs1, hb1⟩
  have HS1 := Lib.hid hs1
  have HB1 : Hid (Below w.heap.size w w1) := Below.trans (B := w.heap.size) bel (hb1.mono (by simp; try omega))
  clear hs1 hb1
  go_wp2_with fail
  go_ret
  exact ⟨_, _, rfl, HS1.out, HB1.out⟩

set_option maxHeartbeats 4000000 in
set_option maxRecDepth 100000 in
theorem rules_Faults_20 (fr ty fl st : Int) (rs : Bool) (a : Option Addr) (c : Nat) (l : List UInt8) (w : World) :
    Calls Tryz.prog 5 #[.int .i64 20, rawV fr ty fl st rs a l.length c] w (TwoP [⟨1, 3⟩, ⟨2, 3⟩] w) := by
  have H1 : Hid (∀ W, Calls Tryz.prog 16 #[.int .i64 20] W (TwoP [⟨1, 3⟩, ⟨2, 3⟩] W)) := rules_few20
  go_enter Tryz.func5, Tryz.ntmps5
  go_wp2_with fail
  refine (H1.out _).mono ?_
  rintro e w1 ⟨a1, c1, rfl, hs1, hb1⟩
  have HS1 := Lib.hid hs1
  have HB1 : Hid (Below w.heap.size w w1) := Below.trans (B := w.heap.size) bel (hb1.mono (by simp; try omega))
  clear hs1 hb1
  go_wp2_with fail
  go_ret
  exact ⟨_, _, rfl, HS1.out, HB1.out⟩

set_option maxHeartbeats 4000000 in
set_option maxRecDepth 100000 in
theorem rules_Faults_24 (fr ty fl st : Int) (rs : Bool) (a : Option Addr) (c : Nat) (l : List UInt8) (w : World) :
    Calls Tryz.prog 5 #[.int .i64 24, rawV fr ty fl st rs a l.length c] w (TwoP [⟨1, 1⟩, ⟨1, 7⟩] w) := by
  have H1 : Hid (∀ W, Calls Tryz.prog 16 #[.int .i64 24] W (TwoP [⟨1, 1⟩, ⟨1, 7⟩] W)) := rules_few24
  go_enter Tryz.func5, Tryz.ntmps5
  go_wp2_with fail
  refine (H1.out _).mono ?_
  rintro e w1 ⟨a1, c1, rfl, hs1, hb1⟩
  have HS1 := Lib.hid hs1
  have HB1 : Hid (Below w.heap.size w w1) := Below.trans (B := w.heap.size) bel (hb1.mono (by simp; try omega))
  clear hs1 hb1
  go_wp2_with fail
  go_ret
  exact ⟨_, _, rfl, HS1.out, HB1.out⟩

set_option maxHeartbeats 4000000 in
set_option maxRecDepth 100000 in
theorem rules_one (b : Bool) (k : Int) (w : World) : Calls Tryz.prog 11 #[.bool b, .int .i64 k] w (OneP (if b = true then 2 else 1) k w) := by
  cases b
  · exact rules_one_stream k w
  · exact rules_one_conn k w

set_option maxHeartbeats 4000000 in
set_option maxRecDepth 100000 in
theorem rules_Faults_3 (fr ty fl st : Int) (rs : Bool) (a : Option Addr) (c : Nat) (l : List UInt8) (w : World) :
    Calls Tryz.prog 5 #[.int .i64 3, rawV fr ty fl st rs a l.length c] w (TwoP [⟨if wholeF ty st = true then 2 else 1, 6⟩] w) := by
  have HW : Hid (∀ W, Calls Tryz.prog 12 #[rawV fr ty fl st rs a l.length c] W fun e w' => e = .returned (.bool (wholeF ty st)) ∧ ∃ j, w' = W.more j) := rules_whole fr ty fl st rs a l.length c
  generalize wholeF ty st = B at HW ⊢
  have H1 : Hid (∀ W, Calls Tryz.prog 11 #[.bool B, .int .i64 6] W (OneP (if B = true then 2 else 1) 6 W)) := rules_one B 6
  generalize (if B = true then (2 : Int) else 1) = S at H1 ⊢
  go_enter Tryz.func5, Tryz.ntmps5
  go_wp2_with (go_at_call 12; (with_reducible refine (HW.out _).mono ?_); rintro e w' ⟨rfl, j, rfl⟩)
  refine (H1.out _).mono ?_
  rintro e w1 ⟨g1, rfl, hs1, hb1⟩
  have HS1 := Lib.hid hs1
  have HB1 : Hid (Below w.heap.size w w1) := Below.trans (B := w.heap.size) bel (hb1.mono (by simp; try omega))
  clear hs1 hb1
  go_wp2_with fail
  go_ret
  exact ⟨_, _, rfl, HS1.out, HB1.out⟩

set_option maxHeartbeats 4000000 in
set_option maxRecDepth 100000 in
theorem rules_Faults_17 (fr ty fl st : Int) (rs : Bool) (a : Option Addr) (c : Nat) (l : List UInt8) (w : World) :
    Calls Tryz.prog 5 #[.int .i64 17, rawV fr ty fl st rs a l.length c] w (TwoP [⟨if st = 0 then 2 else 1, 1⟩] w) := by
  have H1 : Hid (∀ W, Calls Tryz.prog 11 #[.bool (st == 0), .int .i64 1] W (OneP (if st = 0 then 2 else 1) 1 W)) := fun W => by
    have := rules_one (st == 0) 1 W
    have e : (if (st == 0) = true then (2 : Int) else 1) = if st = 0 then 2 else 1 := by by_cases h : st = 0 <;> simp [h]
    rwa [e] at this
  generalize (if st = 0 then (2 : Int) else 1) = S at H1 ⊢
  go_enter Tryz.func5, Tryz.ntmps5
  go_wp2_with fail
  refine (H1.out _).mono ?_
  rintro e w1 ⟨g1, rfl, hs1, hb1⟩
  have HS1 := Lib.hid hs1
  have HB1 : Hid (Below w.heap.size w w1) := Below.trans (B := w.heap.size) bel (hb1.mono (by simp; try omega))
  clear hs1 hb1
  go_wp2_with fail
  go_ret
  exact ⟨_, _, rfl, HS1.out, HB1.out⟩

set_option maxHeartbeats 4000000 in
set_option maxRecDepth 100000 in
theorem rules_Faults_18 (fr ty fl st : Int) (rs : Bool) (a : Option Addr) (c : Nat) (l : List UInt8) (w : World) :
    Calls Tryz.prog 5 #[.int .i64 18, rawV fr ty fl st rs a l.length c] w (TwoP [⟨if st = 0 then 2 else 1, 3⟩] w) := by
  have H1 : Hid (∀ W, Calls Tryz.prog 11 #[.bool (st == 0), .int .i64 3] W (OneP (if st = 0 then 2 else 1) 3 W)) := fun W => by
    have := rules_one (st == 0) 3 W
    have e : (if (st == 0) = true then (2 : Int) else 1) = if st = 0 then 2 else 1 := by by_cases h : st = 0 <;> simp [h]
    rwa [e] at this
  generalize (if st = 0 then (2 : Int) else 1) = S at H1 ⊢
  go_enter Tryz.func5, Tryz.ntmps5
  go_wp2_with fail
  refine (H1.out _).mono ?_
  rintro e w1 ⟨g1, rfl, hs1, hb1⟩
  have HS1 := Lib.hid hs1
  have HB1 : Hid (Below w.heap.size w w1) := Below.trans (B := w.heap.size) bel (hb1.mono (by simp; try omega))
  clear hs1 hb1
  go_wp2_with fail
  go_ret
  exact ⟨_, _, rfl, HS1.out, HB1.out⟩

set_option maxHeartbeats 4000000 in
set_option maxRecDepth 100000 in
theorem rules_Faults_5 (fr ty fl st : Int) (rs : Bool) (a : Option Addr) (c : Nat) (l : List UInt8) (w : World) (hl : l.length ≤ 1048576) (h : SlB w w.heap.size a l) :
    Calls Tryz.prog 5 #[.int .i64 5, rawV fr ty fl st rs a l.length c] w (TwoP (ofF [⟨(parseF ty fl st l).1.2.1, (parseF ty fl st l).1.2.2⟩]) w) := by
  have HW : Hid (∀ W, Below w.heap.size w W → Calls Tryz.prog 14 #[rawV fr ty fl st rs a l.length c] W (FauP (parseF ty fl st l).1.2 W)) := fun W hW => rules_form fr ty fl st rs a c l hl W (h.grow hW)
  unfold FauP at HW
  generalize (parseF ty fl st l).1.2 = q at HW ⊢
  obtain ⟨q1, q2⟩ := q
  have H1 : Hid (∀ W g, Blk W g FuT #[.int .i64 q1, .int .i64 q2] → Calls Tryz.prog 13 #[.slice (some ⟨g, 0, none⟩) 1 1] W (TwoP (ofF [⟨q1, q2⟩]) W)) := fun W g hg => (faults_Of (some ⟨g, 0, none⟩) [⟨q1, q2⟩] 1 (by simp) W (slFl_one hg)).mono fun e w' ⟨a', c', he, _, hs, hb⟩ => ⟨a', c', he, hs, hb⟩
  simp only at HW ⊢
  generalize ofF [⟨q1, q2⟩] = F at H1 ⊢
  clear h
  go_enter Tryz.func5, Tryz.ntmps5
  go_wp2_with (go_at_call 14; (with_reducible refine (HW.out _ bel).mono ?_); rintro e w' ⟨rfl, j, rfl⟩)
  refine (H1.out _ _ blk).mono ?_
  rintro e w1 ⟨a1, c1, rfl, hs1, hb1⟩
  have HS1 := Lib.hid hs1
  have HB1 : Hid (Below w.heap.size w w1) := Below.trans (B := w.heap.size) bel (hb1.mono (by simp; try omega))
  clear hs1 hb1
  go_wp2_with fail
  go_ret
  exact ⟨_, _, rfl, HS1.out, HB1.out⟩

set_option maxHeartbeats 4000000 in
set_option maxRecDepth 100000 in
theorem rules_Faults_6 (fr ty fl st : Int) (rs : Bool) (a : Option Addr) (c : Nat) (l : List UInt8) (w : World) (hl : l.length ≤ 1048576) (h : SlB w w.heap.size a l) :
    Calls Tryz.prog 5 #[.int .i64 6, rawV fr ty fl st rs a l.length c] w (TwoP (ofF [⟨(valF fr ty fl st l).1, (valF fr ty fl st l).2⟩]) w) := by
  have HW : Hid (∀ W, Below w.heap.size w W → Calls Tryz.prog 15 #[rawV fr ty fl st rs a l.length c] W (FauP (valF fr ty fl st l) W)) := fun W hW => rules_value fr ty fl st rs a c l hl W (h.grow hW)
  unfold FauP at HW
  generalize (valF fr ty fl st l) = q at HW ⊢
  obtain ⟨q1, q2⟩ := q
  have H1 : Hid (∀ W g, Blk W g FuT #[.int .i64 q1, .int .i64 q2] → Calls Tryz.prog 13 #[.slice (some ⟨g, 0, none⟩) 1 1] W (TwoP (ofF [⟨q1, q2⟩]) W)) := fun W g hg => (faults_Of (some ⟨g, 0, none⟩) [⟨q1, q2⟩] 1 (by simp) W (slFl_one hg)).mono fun e w' ⟨a', c', he, _, hs, hb⟩ => ⟨a', c', he, hs, hb⟩
  simp only at HW ⊢
  generalize ofF [⟨q1, q2⟩] = F at H1 ⊢
  clear h
  go_enter Tryz.func5, Tryz.ntmps5
  go_wp2_with (go_at_call 15; (with_reducible refine (HW.out _ bel).mono ?_); rintro e w' ⟨rfl, j, rfl⟩)
  refine (H1.out _ _ blk).mono ?_
  rintro e w1 ⟨a1, c1, rfl, hs1, hb1⟩
  have HS1 := Lib.hid hs1
  have HB1 : Hid (Below w.heap.size w w1) := Below.trans (B := w.heap.size) bel (hb1.mono (by simp; try omega))
  clear hs1 hb1
  go_wp2_with fail
  go_ret
  exact ⟨_, _, rfl, HS1.out, HB1.out⟩

set_option maxHeartbeats 4000000 in
set_option maxRecDepth 100000 in
theorem rules_Faults_out (rule : Int) (fr ty fl st : Int) (rs : Bool) (a : Option Addr) (c : Nat) (l : List UInt8) (w : World) (m : Int) (hM : w.cell? MaxA = some (.int .i64 m)) (hr : rule < 1 ∨ 35 < rule) :
    Calls Tryz.prog 5 #[.int .i64 rule, rawV fr ty fl st rs a l.length c] w (TwoP [] w) := by
  have HN : Hid (∀ W, Below w.heap.size w W → Calls Tryz.prog 17 #[.int .i64 rule] W fun e w' => e = .returned (bstr []) ∧ ∃ j, w' = W.more j) := fun W hW => by
    have := rules_Name rule m W (max_keep hM hW)
    rwa [tab_out rulW hr] at this
  have n3 : (rule == 3) = false := by simp; omega
  have n5 : (rule == 5) = false := by simp; omega
  have n6 : (rule == 6) = false := by simp; omega
  have n8 : (rule == 8) = false := by simp; omega
  have n19 : (rule == 19) = false := by simp; omega
  have n13 : (rule == 13) = false := by simp; omega
  have n15 : (rule == 15) = false := by simp; omega
  have n14 : (rule == 14) = false := by simp; omega
  have n16 : (rule == 16) = false := by simp; omega
  have n20 : (rule == 20) = false := by simp; omega
  have n24 : (rule == 24) = false := by simp; omega
  have n17 : (rule == 17) = false := by simp; omega
  have n18 : (rule == 18) = false := by simp; omega
  have n25 : (rule == 25) = false := by simp; omega
  have n26 : (rule == 26) = false := by simp; omega
  have n27 : (rule == 27) = false := by simp; omega
  have n28 : (rule == 28) = false := by simp; omega
  have n29 : (rule == 29) = false := by simp; omega
  have n30 : (rule == 30) = false := by simp; omega
  have n31 : (rule == 31) = false := by simp; omega
  have n32 : (rule == 32) = false := by simp; omega
  have n33 : (rule == 33) = false := by simp; omega
  have n34 : (rule == 34) = false := by simp; omega
  clear hM hr
  go_enter Tryz.func5, Tryz.ntmps5
  go_wp2_with (go_at_call 17; (with_reducible refine (HN.out _ bel).mono ?_); rintro e w' ⟨rfl, j, rfl⟩)
  go_ret
  exact ⟨none, 0, rfl, .nil, bel⟩

theorem rules_Faults (rule : Int) (fr ty fl st : Int) (rs : Bool) (a : Option Addr) (c : Nat) (l : List UInt8) (w : World) (m : Int) (hM : w.cell? MaxA = some (.int .i64 m)) (hl : l.length ≤ 1048576) (h : SlB w w.heap.size a l) :
    Calls Tryz.prog 5 #[.int .i64 rule, rawV fr ty fl st rs a l.length c] w (TwoP (faultsL rule fr ty fl st l) w) := by
  by_cases hr : rule < 1 ∨ 35 < rule
  · have e : faultsL rule fr ty fl st l = [] := by
      unfold faultsL fixL
      repeat' rw [if_neg (by omega)]
    rw [e]
    exact rules_Faults_out rule fr ty fl st rs a c l w m hM hr
  have hc : rule = 1 ∨ rule = 2 ∨ rule = 3 ∨ rule = 4 ∨ rule = 5 ∨ rule = 6 ∨ rule = 7 ∨ rule = 8 ∨ rule = 9 ∨ rule = 10 ∨ rule = 11 ∨ rule = 12 ∨ rule = 13 ∨ rule = 14 ∨ rule = 15 ∨ rule = 16 ∨ rule = 17 ∨ rule = 18 ∨ rule = 19 ∨ rule = 20 ∨ rule = 21 ∨ rule = 22 ∨ rule = 23 ∨ rule = 24 ∨ rule = 25 ∨ rule = 26 ∨ rule = 27 ∨ rule = 28 ∨ rule = 29 ∨ rule = 30 ∨ rule = 31 ∨ rule = 32 ∨ rule = 33 ∨ rule = 34 ∨ rule = 35 := by omega
  rcases hc with rfl | rfl | rfl | rfl | rfl | rfl | rfl | rfl | rfl | rfl | rfl | rfl | rfl | rfl | rfl | rfl | rfl | rfl | rfl | rfl | rfl | rfl | rfl | rfl | rfl | rfl | rfl | rfl | rfl | rfl | rfl | rfl | rfl | rfl | rfl
  · exact rules_Faults_1 fr ty fl st rs a c l w m hM
  · exact rules_Faults_2 fr ty fl st rs a c l w m hM
  · exact rules_Faults_3 fr ty fl st rs a c l w
  · exact rules_Faults_4 fr ty fl st rs a c l w m hM
  · exact rules_Faults_5 fr ty fl st rs a c l w hl h
  · exact rules_Faults_6 fr ty fl st rs a c l w hl h
  · exact rules_Faults_7 fr ty fl st rs a c l w m hM
  · exact rules_Faults_8 fr ty fl st rs a c l w
  · exact rules_Faults_9 fr ty fl st rs a c l w m hM
  · exact rules_Faults_10 fr ty fl st rs a c l w m hM
  · exact rules_Faults_11 fr ty fl st rs a c l w m hM
  · exact rules_Faults_12 fr ty fl st rs a c l w m hM
  · exact rules_Faults_13 fr ty fl st rs a c l w
  · exact rules_Faults_14 fr ty fl st rs a c l w
  · exact rules_Faults_15 fr ty fl st rs a c l w
  · exact rules_Faults_16 fr ty fl st rs a c l w
  · exact rules_Faults_17 fr ty fl st rs a c l w
  · exact rules_Faults_18 fr ty fl st rs a c l w
  · exact rules_Faults_19 fr ty fl st rs a c l w
  · exact rules_Faults_20 fr ty fl st rs a c l w
  · exact rules_Faults_21 fr ty fl st rs a c l w m hM
  · exact rules_Faults_22 fr ty fl st rs a c l w m hM
  · exact rules_Faults_23 fr ty fl st rs a c l w m hM
  · exact rules_Faults_24 fr ty fl st rs a c l w
  · exact rules_Faults_25 fr ty fl st rs a c l w
  · exact rules_Faults_26 fr ty fl st rs a c l w
  · exact rules_Faults_27 fr ty fl st rs a c l w
  · exact rules_Faults_28 fr ty fl st rs a c l w
  · exact rules_Faults_29 fr ty fl st rs a c l w
  · exact rules_Faults_30 fr ty fl st rs a c l w
  · exact rules_Faults_31 fr ty fl st rs a c l w
  · exact rules_Faults_32 fr ty fl st rs a c l w
  · exact rules_Faults_33 fr ty fl st rs a c l w
  · exact rules_Faults_34 fr ty fl st rs a c l w
  · exact rules_Faults_35 fr ty fl st rs a c l w m hM

end Go.Proofs.YtjhhdgmhocpceaaGreatDoor
