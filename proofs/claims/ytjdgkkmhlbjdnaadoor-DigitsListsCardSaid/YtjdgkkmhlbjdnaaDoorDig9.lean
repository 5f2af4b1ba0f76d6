/-
  Numbers as digits: the chapter's examples, and the laws DigitsTexts, DigitsReads, DigitsNatural.
-/
import Derived.Test.YtjdgkkmhlbjdnaaDoorDig8
import Derived.Test.YtjdgkkmhlbjdnaaDoorDig5
namespace Go.Proofs.YtjdgkkmhlbjdnaaDoor
set_option linter.unusedSimpArgs false
set_option linter.unusedVariables false
set_option linter.unusedSectionVars false
open Go.ChangeShapes Go.WideShapes Go.ChangeAt Go.RowKit Go.Deep Go.Shelf

theorem itoa_m40 : Lib.itoa (-40) = [45, 52, 48] := by
  have := itoa_minus 40 (by omega)
  rw [show (-40 : Int) = -((40 : Nat) : Int) from rfl, this, dec_hi (by omega), dec_lo (n := 40 / 10) (by omega)]
  decide
theorem itoa_1 : Lib.itoa 1 = [49] := by
  rw [show (1 : Int) = ((1 : Nat) : Int) from rfl, itoa_pos, dec_lo (by omega)]
  decide
theorem itoa_m2 : Lib.itoa (-2) = [45, 50] := by
  have := itoa_minus 2 (by omega)
  rw [show (-2 : Int) = -((2 : Nat) : Int) from rfl, this, dec_lo (by omega)]
  decide
theorem list_12 : listF [1, -2] = [49, 44, 45, 50] := by
  unfold listF
  rw [List.map_cons, List.map_cons, List.map_nil, itoa_1, itoa_m2, join_two, Lib.join_one]
  rfl
theorem rl_bad : rlF [49, 44, 44, 50] = ([], false) := by
  unfold rlF
  rw [if_neg (by simp)]
  have e : cutF 44 [49, 44, 44, 50] = [[49], [], [50]] := by decide
  have e2 : (readF []).2 = false := rfl
  rw [e, readAll, readAll_no e2]
  split <;> rfl
theorem slI_new {w : World} {g : Nat} {t : TypeId} {cs : Array Value} {l : List Int} (h : Blk w g t cs) (hl : cs.toList = l.flatMap intC) : SlI w w.heap.size (some ⟨g, 0, none⟩) l :=
  (SlR.of_blk (R := intIs) h hl (fun _ _ => rfl) (fun _ _ => rfl)).mono h.lt (fun _ _ _ h => h)
theorem list_12_call (W : World) (g : Nat) (hE : Env W) (hb : Blk W g 3 #[.int .i64 1, .int .i64 (-2)]) :
    Calls Tryd.prog 58 #[.slice (some ⟨g, 0, none⟩) 2 2] W fun e w' => e = .returned (bstr [49, 44, 45, 50]) ∧ ∃ j, w' = W.more j := by
  have := digits_List (some ⟨g, 0, none⟩) 2 [1, -2] (by decide) (by intro n hn; simp at hn; rcases hn with rfl | rfl <;> exact ⟨by omega, by omega⟩) W hE (slI_new hb rfl)
  rw [list_12] at this
  exact this

set_option maxHeartbeats 4000000 in
set_option maxRecDepth 100000 in
theorem law03_alive (w : World) (hE : Env w) : Calls Tryd.prog 54 #[] w fun e w' => e = .returned (.bool true) ∧ ∃ j, w' = w.more j := by
  have HE := Lib.hid hE
  have H1 : Hid (∀ W, Calls Tryd.prog 56 #[bstr [48, 48, 55], .int .i64 9] W fun e w' => e = .returned (.tuple #[.int .i64 7, .bool true]) ∧ ∃ j, w' = W.more j) := fun W => by
    have := digits_Natural [48, 48, 55] 9 (by decide) (by omega) W
    rw [show natF [48, 48, 55] 9 = (7, true) from by decide] at this
    exact this
  have H2 : Hid (∀ W, Env W → Calls Tryd.prog 59 #[bstr [49, 44, 44, 50]] W fun e w' => ∃ a cap, e = .returned (.tuple #[.slice a 0 cap, .bool false]) ∧ ∃ j, w' = W.more j) := fun W hW => by
    have := digits_ReadList [49, 44, 44, 50] (by decide) W hW
    rw [rl_bad] at this
    exact this.mono fun e w' ⟨a, cap, he, _, _, hb⟩ => ⟨a, cap, he, hb.junk⟩
  have H3 : Hid (∀ W, Env W → Calls Tryd.prog 51 #[.int .i64 (-40)] W fun e w' => e = .returned (bstr [45, 52, 48]) ∧ ∃ j, w' = W.more j) := fun W hW => by
    have := digits_Text (-40) (by omega) (by omega) W hW
    rw [itoa_m40] at this
    exact this
  have H4 := Lib.hid list_12_call
  clear hE
  go_enter Tryd.func54, Tryd.ntmps54
  go_wp2_with (go_at_call 56; (with_reducible refine (H1.out _).mono ?_); rintro e w' ⟨rfl, j, rfl⟩)
  refine (H2.out _ (HE.out.below (by repeat (first | (with_reducible exact Below.refl _ _) | (with_reducible refine Below.allocS ?_ _) | (with_reducible refine Below.moreS ?_ _) | (with_reducible refine Below.drew ?_) | (with_reducible refine below_drewN ?_ _))))).mono ?_
  rintro e w' ⟨a, cap, rfl, j2, rfl⟩
  go_wp2_with (first
    | (go_at_call 51; (with_reducible refine (H3.out _ (HE.out.below (by repeat (first | (with_reducible exact Below.refl _ _) | (with_reducible refine Below.allocS ?_ _) | (with_reducible refine Below.moreS ?_ _) | (with_reducible refine Below.drew ?_) | (with_reducible refine below_drewN ?_ _))))).mono ?_); rintro e w' ⟨rfl, j, rfl⟩)
    | (go_at_call 58; (with_reducible refine (H4.out _ _ (HE.out.below (by repeat (first | (with_reducible exact Below.refl _ _) | (with_reducible refine Below.allocS ?_ _) | (with_reducible refine Below.moreS ?_ _) | (with_reducible refine Below.drew ?_) | (with_reducible refine below_drewN ?_ _)))) (by repeat (first | ((with_reducible apply Blk.at_); (simp; done)) | (with_reducible apply Blk.alloc) | (with_reducible apply Blk.more) | (with_reducible apply Blk.drew)))).mono ?_); rintro e w' ⟨rfl, j, rfl⟩))
  go_ret
  exact ⟨rfl, Below.junk (by repeat (first | (with_reducible exact Below.refl _ _) | (with_reducible refine Below.allocS ?_ _) | (with_reducible refine Below.moreS ?_ _) | (with_reducible refine Below.drew ?_) | (with_reducible refine below_drewN ?_ _)))⟩

set_option maxHeartbeats 4000000 in
set_option maxRecDepth 100000 in
theorem digitsTexts_law (n : Int) (w : World) (hE : Env w) (h0 : -9223372036854775808 ≤ n) (h1 : n ≤ 9223372036854775807) :
    Calls Tryd.prog 10 #[.int .i64 n] w fun e w' => e = .returned (.bool true) ∧ ∃ j, w' = w.more j := by
  have HE := Lib.hid hE
  have hl := itoa_len h0 h1
  have HT : Hid (∀ W, Env W → Calls Tryd.prog 51 #[.int .i64 n] W fun e w' => e = .returned (bstr (Lib.itoa n)) ∧ ∃ j, w' = W.more j) := fun W hW => digits_Text n h0 h1 W hW
  have HR : Hid (∀ W, Env W → Calls Tryd.prog 52 #[bstr (Lib.itoa n)] W fun e w' => e = .returned (.tuple #[.int .i64 n, .bool true]) ∧ ∃ j, w' = W.more j) := fun W hW => by
    have := digits_Read (Lib.itoa n) (by omega) W hW
    rw [readF_itoa h0 h1] at this
    exact this
  have HF : Hid (∀ W, Calls Tryd.prog 53 #[.int .i64 n] W fun e w' => e = .returned (bstr (Lib.itoa n)) ∧ W = w') := fun W => ref03_Text n h0 h1 W
  have HA := Lib.hid law03_alive
  clear hE hl
  generalize Lib.itoa n = t at HT HR HF
  have e1 : (t == t) = true := by simp
  have e2 : (n == n) = true := by simp
  go_enter Tryd.func10, Tryd.ntmps10
  go_wp2_with (first
    | (go_at_call 51; (with_reducible refine (HT.out _ (HE.out.below (by repeat (first | (with_reducible exact Below.refl _ _) | (with_reducible refine Below.allocS ?_ _) | (with_reducible refine Below.moreS ?_ _) | (with_reducible refine Below.drew ?_) | (with_reducible refine below_drewN ?_ _))))).mono ?_); rintro e w' ⟨rfl, j, rfl⟩)
    | (go_at_call 52; (with_reducible refine (HR.out _ (HE.out.below (by repeat (first | (with_reducible exact Below.refl _ _) | (with_reducible refine Below.allocS ?_ _) | (with_reducible refine Below.moreS ?_ _) | (with_reducible refine Below.drew ?_) | (with_reducible refine below_drewN ?_ _))))).mono ?_); rintro e w' ⟨rfl, j, rfl⟩)
    | (go_at_call 53; (with_reducible refine (HF.out _).mono ?_); rintro e w' ⟨rfl, rfl⟩)
    | (go_at_call 54; (with_reducible refine (HA.out _ (HE.out.below (by repeat (first | (with_reducible exact Below.refl _ _) | (with_reducible refine Below.allocS ?_ _) | (with_reducible refine Below.moreS ?_ _) | (with_reducible refine Below.drew ?_) | (with_reducible refine below_drewN ?_ _))))).mono ?_); rintro e w' ⟨rfl, j, rfl⟩))
  go_ret
  exact ⟨rfl, Below.junk (by repeat (first | (with_reducible exact Below.refl _ _) | (with_reducible refine Below.allocS ?_ _) | (with_reducible refine Below.moreS ?_ _) | (with_reducible refine Below.drew ?_) | (with_reducible refine below_drewN ?_ _)))⟩

set_option maxHeartbeats 4000000 in
set_option maxRecDepth 100000 in
theorem digitsReads_law (s : List UInt8) (w : World) (hE : Env w) (hms : s.length ≤ maxLen) :
    Calls Tryd.prog 11 #[bstr s] w fun e w' => e = .returned (.bool true) ∧ ∃ j, w' = w.more j := by
  unfold maxLen at hms
  have HE := Lib.hid hE
  have HA := Lib.hid law03_alive
  clear hE
  by_cases h1 : 200 < (s.length : Int)
  · go_enter Tryd.func11, Tryd.ntmps11
    go_wp2_with (go_at_call 54; (with_reducible refine (HA.out _ (HE.out.below (by repeat (first | (with_reducible exact Below.refl _ _) | (with_reducible refine Below.allocS ?_ _) | (with_reducible refine Below.moreS ?_ _) | (with_reducible refine Below.drew ?_) | (with_reducible refine below_drewN ?_ _))))).mono ?_); rintro e w' ⟨rfl, j, rfl⟩)
    go_ret
    exact ⟨rfl, Below.junk (by repeat (first | (with_reducible exact Below.refl _ _) | (with_reducible refine Below.allocS ?_ _) | (with_reducible refine Below.moreS ?_ _) | (with_reducible refine Below.drew ?_) | (with_reducible refine below_drewN ?_ _)))⟩
  have HR : Hid (∀ W, Env W → Calls Tryd.prog 52 #[bstr s] W fun e w' => e = .returned (.tuple #[.int .i64 (readF s).1, .bool (readF s).2]) ∧ ∃ j, w' = W.more j) := fun W hW => digits_Read s (by omega) W hW
  have HF : Hid (∀ W, Calls Tryd.prog 55 #[bstr s] W fun e w' => e = .returned (.tuple #[.int .i64 (readF s).1, .bool (readF s).2]) ∧ W = w') := fun W => by rw [read_eq]; exact ref03_Read s (by omega) W
  have HT : Hid ((readF s).2 = true → ∀ W, Env W → Calls Tryd.prog 51 #[.int .i64 (readF s).1] W fun e w' => e = .returned (bstr s) ∧ ∃ j, w' = W.more j) := fun h W hW => by
    obtain ⟨g1, g2, g3⟩ := readF_yes h
    have := digits_Text _ g2 g3 W hW
    rw [g1] at this
    exact this
  generalize readF s = V at HR HF HT
  obtain ⟨n, is⟩ := V
  simp only at HR HF HT
  have e1 : (s == s) = true := by simp
  have e2 : (n == n) = true := by simp
  cases is
  · clear HT
    go_enter Tryd.func11, Tryd.ntmps11
    go_wp2_with (first
      | (go_at_call 52; (with_reducible refine (HR.out _ (HE.out.below (by repeat (first | (with_reducible exact Below.refl _ _) | (with_reducible refine Below.allocS ?_ _) | (with_reducible refine Below.moreS ?_ _) | (with_reducible refine Below.drew ?_) | (with_reducible refine below_drewN ?_ _))))).mono ?_); rintro e w' ⟨rfl, j, rfl⟩)
      | (go_at_call 55; (with_reducible refine (HF.out _).mono ?_); rintro e w' ⟨rfl, rfl⟩)
      | (go_at_call 54; (with_reducible refine (HA.out _ (HE.out.below (by repeat (first | (with_reducible exact Below.refl _ _) | (with_reducible refine Below.allocS ?_ _) | (with_reducible refine Below.moreS ?_ _) | (with_reducible refine Below.drew ?_) | (with_reducible refine below_drewN ?_ _))))).mono ?_); rintro e w' ⟨rfl, j, rfl⟩))
    go_ret
    exact ⟨rfl, Below.junk (by repeat (first | (with_reducible exact Below.refl _ _) | (with_reducible refine Below.allocS ?_ _) | (with_reducible refine Below.moreS ?_ _) | (with_reducible refine Below.drew ?_) | (with_reducible refine below_drewN ?_ _)))⟩
  · have HT2 := Lib.hid (HT.out rfl)
    clear HT
    go_enter Tryd.func11, Tryd.ntmps11
    go_wp2_with (first
      | (go_at_call 52; (with_reducible refine (HR.out _ (HE.out.below (by repeat (first | (with_reducible exact Below.refl _ _) | (with_reducible refine Below.allocS ?_ _) | (with_reducible refine Below.moreS ?_ _) | (with_reducible refine Below.drew ?_) | (with_reducible refine below_drewN ?_ _))))).mono ?_); rintro e w' ⟨rfl, j, rfl⟩)
      | (go_at_call 55; (with_reducible refine (HF.out _).mono ?_); rintro e w' ⟨rfl, rfl⟩)
      | (go_at_call 51; (with_reducible refine (HT2.out _ (HE.out.below (by repeat (first | (with_reducible exact Below.refl _ _) | (with_reducible refine Below.allocS ?_ _) | (with_reducible refine Below.moreS ?_ _) | (with_reducible refine Below.drew ?_) | (with_reducible refine below_drewN ?_ _))))).mono ?_); rintro e w' ⟨rfl, j, rfl⟩)
      | (go_at_call 54; (with_reducible refine (HA.out _ (HE.out.below (by repeat (first | (with_reducible exact Below.refl _ _) | (with_reducible refine Below.allocS ?_ _) | (with_reducible refine Below.moreS ?_ _) | (with_reducible refine Below.drew ?_) | (with_reducible refine below_drewN ?_ _))))).mono ?_); rintro e w' ⟨rfl, j, rfl⟩))
    go_ret
    exact ⟨rfl, Below.junk (by repeat (first | (with_reducible exact Below.refl _ _) | (with_reducible refine Below.allocS ?_ _) | (with_reducible refine Below.moreS ?_ _) | (with_reducible refine Below.drew ?_) | (with_reducible refine below_drewN ?_ _)))⟩

set_option maxHeartbeats 4000000 in
set_option maxRecDepth 100000 in
theorem digitsNatural_law (s : List UInt8) (most : Int) (w : World) (hE : Env w) (hms : s.length ≤ maxLen) (_m0 : -9223372036854775808 ≤ most) (m1 : most ≤ 9223372036854775807) :
    Calls Tryd.prog 12 #[bstr s, .int .i64 most] w fun e w' => e = .returned (.bool true) ∧ ∃ j, w' = w.more j := by
  unfold maxLen at hms
  have HE := Lib.hid hE
  have HA := Lib.hid law03_alive
  clear hE
  by_cases h1 : 200 < (s.length : Int)
  · go_enter Tryd.func12, Tryd.ntmps12
    go_wp2_with (go_at_call 54; (with_reducible refine (HA.out _ (HE.out.below (by repeat (first | (with_reducible exact Below.refl _ _) | (with_reducible refine Below.allocS ?_ _) | (with_reducible refine Below.moreS ?_ _) | (with_reducible refine Below.drew ?_) | (with_reducible refine below_drewN ?_ _))))).mono ?_); rintro e w' ⟨rfl, j, rfl⟩)
    go_ret
    exact ⟨rfl, Below.junk (by repeat (first | (with_reducible exact Below.refl _ _) | (with_reducible refine Below.allocS ?_ _) | (with_reducible refine Below.moreS ?_ _) | (with_reducible refine Below.drew ?_) | (with_reducible refine below_drewN ?_ _)))⟩
  have HR : Hid (∀ W, Calls Tryd.prog 56 #[bstr s, .int .i64 most] W fun e w' => e = .returned (.tuple #[.int .i64 (natF s most).1, .bool (natF s most).2]) ∧ ∃ j, w' = W.more j) := fun W => digits_Natural s most (by omega) m1 W
  have HF : Hid (∀ W, Calls Tryd.prog 57 #[bstr s, .int .i64 most] W fun e w' => e = .returned (.tuple #[.int .i64 (natF s most).1, .bool (natF s most).2]) ∧ W = w') := fun W => ref03_Natural s most (by omega) m1 W
  generalize natF s most = V at HR HF
  obtain ⟨n, is⟩ := V
  have e2 : (n == n) = true := by simp
  have e3 : (is == is) = true := by simp
  go_enter Tryd.func12, Tryd.ntmps12
  go_wp2_with (first
    | (go_at_call 56; (with_reducible refine (HR.out _).mono ?_); rintro e w' ⟨rfl, j, rfl⟩)
    | (go_at_call 57; (with_reducible refine (HF.out _).mono ?_); rintro e w' ⟨rfl, rfl⟩)
    | (go_at_call 54; (with_reducible refine (HA.out _ (HE.out.below (by repeat (first | (with_reducible exact Below.refl _ _) | (with_reducible refine Below.allocS ?_ _) | (with_reducible refine Below.moreS ?_ _) | (with_reducible refine Below.drew ?_) | (with_reducible refine below_drewN ?_ _))))).mono ?_); rintro e w' ⟨rfl, j, rfl⟩))
  go_ret
  exact ⟨rfl, Below.junk (by repeat (first | (with_reducible exact Below.refl _ _) | (with_reducible refine Below.allocS ?_ _) | (with_reducible refine Below.moreS ?_ _) | (with_reducible refine Below.drew ?_) | (with_reducible refine below_drewN ?_ _)))⟩
end Go.Proofs.YtjdgkkmhlbjdnaaDoor
