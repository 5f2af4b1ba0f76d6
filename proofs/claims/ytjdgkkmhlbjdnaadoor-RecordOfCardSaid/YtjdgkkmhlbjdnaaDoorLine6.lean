/-
  Lines of words: the laws WordsSplit and WordsLine.
-/
import Derived.Test.YtjdgkkmhlbjdnaaDoorLine5
namespace Go.Proofs.YtjdgkkmhlbjdnaaDoor
set_option linter.unusedSimpArgs false
set_option linter.unusedVariables false
set_option linter.unusedSectionVars false
open Go.ChangeShapes Go.WideShapes Go.ChangeAt Go.RowKit Go.Deep Go.Shelf

theorem max_below {w w' : World} {m : Int} (hM : w.cell? MaxA = some (.int .i64 m)) (hb : Below w.heap.size w w') : w'.cell? MaxA = some (.int .i64 m) := by
  obtain ⟨J, hJ⟩ := hb.junk
  rw [hJ]
  exact max_more hM J
theorem same_self (l : List (List UInt8)) : sameX l l = true := by simp [sameX]
theorem splitF_len (s : List UInt8) : (splitF s).1.length ≤ s.length + 1 := by
  unfold splitF
  have := cut_len 32 s
  split
  · simp
  · split
    · exact this
    · simp
theorem linesF_len (s : List UInt8) : (linesF s).1.length ≤ s.length + 1 := by
  unfold linesF
  have := cut_len 10 s
  split
  · simp; omega
  · simp

set_option maxHeartbeats 8000000 in
set_option maxRecDepth 100000 in
theorem wordsSplit_law (s : List UInt8) (m : Int) (w : World) (hms : s.length ≤ maxLen) (hM : w.cell? MaxA = some (.int .i64 m)) :
    Calls Tryd.prog 5 #[bstr s] w fun e w' => e = .returned (.bool true) ∧ ∃ j, w' = w.more j := by
  unfold maxLen at hms
  by_cases h1 : 500 < (s.length : Int)
  · have HA0 := Lib.hid (law04_alive m w hM)
    clear hM
    go_enter Tryd.func5, Tryd.ntmps5
    go_wp2_with (go_at_call 22; (with_reducible refine (HA0.out).mono ?_); rintro e w' ⟨rfl, j, rfl⟩)
    go_ret
    exact ⟨rfl, Below.junk (by repeat (first | (with_reducible exact Below.refl _ _) | (with_reducible refine Below.allocS ?_ _) | (with_reducible refine Below.moreS ?_ _) | (with_reducible refine Below.drew ?_) | (with_reducible refine below_drewN ?_ _)))⟩
  have hlen := cut_len 32 s
  have H1 := Lib.hid (words_Split s m w (by omega) (by omega) (fun x hx => by have := cut_short 32 s x hx; omega) hM)
  have H2 : Hid (∀ W, _) := fun W => ref04_Split s W (by omega)
  have H3 : Hid (∀ W, Below w.heap.size w W → _) := fun W hb => words_Lines s m W (by omega) (max_below hM hb)
  have H4 : Hid (∀ W, _) := fun W => ref04_Lines s W (by omega)
  have l1 : (splitF s).1.length ≤ 1048576 := by have := splitF_len s; omega
  have l2 : (linesF s).1.length ≤ 1048576 := by have := linesF_len s; omega
  have HMm := Lib.hid hM
  clear hM hlen
  generalize splitF s = p at H1 H2 l1
  generalize linesF s = q at H3 H4 l2
  obtain ⟨p1, p2⟩ := p
  obtain ⟨q1, q2⟩ := q
  simp only at H1 H2 H3 H4 l1 l2
  have e2 : (p2 == p2) = true := by simp
  have e4 : (q2 == q2) = true := by simp
  go_enter Tryd.func5, Tryd.ntmps5
  go_wp2_with fail
  refine H1.out.mono ?_
  rintro e w1 ⟨a1, c1, rfl, hs1, hb1⟩
  go_wp2_with fail
  refine (H2.out w1).mono ?_
  rintro e w2 ⟨a2, c2, rfl, hs2, hb2⟩
  have hb12 := hb1.trans (hb2.mono hb1.size)
  have H3' := Lib.hid (H3.out w2 hb12)
  go_wp2_with fail
  refine H3'.out.mono ?_
  rintro e w3 ⟨a3, c3, rfl, hs3, hb3⟩
  go_wp2_with fail
  refine (H4.out w3).mono ?_
  rintro e w4 ⟨a4, c4, rfl, hs4, hb4⟩
  have z1 := hb1.size
  have z2 := hb2.size
  have z3 := hb3.size
  have z4 := hb4.size
  have hbw := (hb12.trans (hb3.mono (by omega))).trans (hb4.mono (by omega))
  have hs1' := ((hs1.below hb2 (Nat.le_refl _)).below (hb3.mono z2) (Nat.le_refl _)).below (hb4.mono (by omega : w1.heap.size ≤ w3.heap.size)) (Nat.le_refl _)
  have hs2' := (hs2.below hb3 (Nat.le_refl _)).below (hb4.mono z3) (Nat.le_refl _)
  have hs3' := hs3.below hb4 (Nat.le_refl _)
  have hM4 := max_below HMm.out hbw
  have HW := Lib.hid hbw
  have HA : Hid (∀ j, Calls Tryd.prog 22 #[] (w4.more j) fun e w' => e = .returned (.bool true) ∧ ∃ k, w' = (w4.more j).more k) := fun j => law04_alive m _ (max_more hM4 j)
  have HS1 : Hid (Calls Tryd.prog 26 #[.slice a1 p1.length c1, .slice a2 p1.length c2] w4 fun e w' => e = .returned (.bool true) ∧ ∃ k, w' = w4.more k) := by
    have := ref04_Same a1 a2 c1 c2 p1 p1 w4 w4 l1 l1 (Below.refl _ _) (hs1'.mono (by omega) (fun _ _ _ h => h)) (hs2'.mono (by omega) (fun _ _ _ h => h))
    rw [same_self] at this
    exact this
  have HS2 : Hid (∀ j, Calls Tryd.prog 26 #[.slice a3 q1.length c3, .slice a4 q1.length c4] (w4.more j) fun e w' => e = .returned (.bool true) ∧ ∃ k, w' = (w4.more j).more k) := fun j => by
    have := ref04_Same a3 a4 c3 c4 q1 q1 w4 (w4.more j) l2 l2 (Below.moreS (Below.refl _ _) j) (hs3'.mono (by omega) (fun _ _ _ h => h)) hs4
    rw [same_self] at this
    exact this
  clear hbw hb1 hb2 hb3 hb4 hb12 hs1 hs2 hs3 hs4 hs1' hs2' hs3' hM4 l1 l2 z1 z2 z3 z4 H1 H2 H3 H3' H4
  go_wp2_with fail
  refine HS1.out.mono ?_
  rintro e w5 ⟨rfl, j5, rfl⟩
  go_wp2_with (first
    | (go_at_call 26; (with_reducible refine (HS2.out _).mono ?_); rintro e w' ⟨rfl, j, rfl⟩)
    | (go_at_call 22; (with_reducible refine (HA.out _).mono ?_); rintro e w' ⟨rfl, j, rfl⟩))
  go_ret
  exact ⟨rfl, (HW.out.trans ((Below.moreS (Below.refl w4.heap.size w4) _).mono HW.out.size)).junk⟩
