/-
  Numbers as digits: the law DigitsLists.
-/
import Derived.Test.YtjdgkkmhlbjdnaaDoorDig9
namespace Go.Proofs.YtjdgkkmhlbjdnaaDoor
set_option linter.unusedSimpArgs false
set_option linter.unusedVariables false
set_option linter.unusedSectionVars false
open Go.ChangeShapes Go.WideShapes Go.ChangeAt Go.RowKit Go.Deep Go.Shelf

set_option maxHeartbeats 8000000 in
set_option maxRecDepth 100000 in
theorem digitsLists_law (a : Option Addr) (cap : Nat) (l : List Int) (s : List UInt8) (w : World) (hE : Env w) (hml : l.length ≤ maxLen) (hg : ∀ n ∈ l, goodI n) (hs : SlI w w.heap.size a l) (hms : s.length ≤ maxLen) :
    Calls Tryd.prog 13 #[.slice a l.length cap, bstr s] w fun e w' => e = .returned (.bool true) ∧ ∃ j, w' = w.more j := by
  unfold maxLen at hml hms
  have HE := Lib.hid hE
  have HA := Lib.hid law03_alive
  clear hE
  by_cases hbad : 100 < (l.length : Int) ∨ 500 < (s.length : Int)
  · by_cases h1 : 100 < (l.length : Int) <;> by_cases h2 : 500 < (s.length : Int)
    all_goals try (exfalso; omega)
    all_goals
      clear hbad
      go_enter Tryd.func13, Tryd.ntmps13
      go_wp2_with (go_at_call 54; (with_reducible refine (HA.out _ (HE.out.below (by repeat (first | (with_reducible exact Below.refl _ _) | (with_reducible refine Below.allocS ?_ _) | (with_reducible refine Below.moreS ?_ _) | (with_reducible refine Below.drew ?_) | (with_reducible refine below_drewN ?_ _))))).mono ?_); rintro e w' ⟨rfl, j, rfl⟩)
      go_ret
      exact ⟨rfl, Below.junk (by repeat (first | (with_reducible exact Below.refl _ _) | (with_reducible refine Below.allocS ?_ _) | (with_reducible refine Below.moreS ?_ _) | (with_reducible refine Below.drew ?_) | (with_reducible refine below_drewN ?_ _)))⟩
  have h1 : ¬ 100 < (l.length : Int) := by omega
  have h2 : ¬ 500 < (s.length : Int) := by omega
  clear hbad
  have hll := list_len l hg
  have hyl := rlF_len s
  have HSL := Lib.hid hs
  have HG := Lib.hid hg
  have H1 : Hid (∀ W, Below w.heap.size w W → Calls Tryd.prog 58 #[.slice a l.length cap] W fun e w' => e = .returned (bstr (listF l)) ∧ ∃ j, w' = W.more j) := fun W hb =>
    digits_List a cap l (by omega) hg W (HE.out.below hb) ((hs.below hb (Nat.le_refl _)).mono hb.size (fun _ _ _ h => h))
  have H2 : Hid (∀ W, Env W → Calls Tryd.prog 59 #[bstr (listF l)] W fun e w' => ∃ a cap, e = .returned (.tuple #[.slice a l.length cap, .bool true]) ∧ SlI w' w'.heap.size a l ∧ Below W.heap.size W w') := fun W hW => by
    have := digits_ReadList (listF l) (by omega) W hW
    rw [rlF_list l hg] at this
    exact this.mono fun e w' ⟨a, cap, he, _, h1, h2⟩ => ⟨a, cap, he, h1, h2⟩
  have H3 : Hid (∀ W, Env W → Calls Tryd.prog 59 #[bstr s] W fun e w' => ∃ a cap, e = .returned (.tuple #[.slice a (rlF s).1.length cap, .bool (rlF s).2]) ∧ (rlF s).1.length ≤ cap ∧ SlI w' w'.heap.size a (rlF s).1 ∧ Below W.heap.size W w') := fun W hW => digits_ReadList s (by omega) W hW
  have H4 : Hid (∀ W, Calls Tryd.prog 60 #[bstr s] W fun e w' => ∃ a cap, e = .returned (.tuple #[.slice a (rlF s).1.length cap, .bool (rlF s).2]) ∧ (rlF s).1.length ≤ cap ∧ SlI w' w'.heap.size a (rlF s).1 ∧ Below W.heap.size W w') := fun W => ref03_ReadList s (by omega) W
  have H5 : Hid (∀ W, Below w.heap.size w W → Calls Tryd.prog 61 #[.slice a l.length cap] W fun e w' => e = .returned (bstr (listF l)) ∧ W = w') := fun W hb =>
    ref03_List a cap l (by omega) hg W ((hs.below hb (Nat.le_refl _)).mono hb.size (fun _ _ _ h => h))
  have H6 : Hid ((rlF s).2 = true → ∀ (a : Option Addr) (cap : Nat) W, Env W → SlI W W.heap.size a (rlF s).1 → Calls Tryd.prog 58 #[.slice a (rlF s).1.length cap] W fun e w' => e = .returned (bstr s) ∧ ∃ j, w' = W.more j) := fun h a cap W hW hS => by
    obtain ⟨g1, g2⟩ := rlF_back h
    have := digits_List a cap (rlF s).1 (by omega) g2 W hW hS
    rw [g1] at this
    exact this
  clear hll hs hg
  generalize listF l = t at H1 H2 H5
  generalize rlF s = V at H3 H4 H6 hyl
  obtain ⟨y, is⟩ := V
  simp only at H3 H4 H6 hyl
  have hy : y.length ≤ 1048576 := by omega
  clear hyl
  have e1 : (t == t) = true := by simp
  have e2 : (is == is) = true := by simp
  have e3 : (s == s) = true := by simp
  go_enter Tryd.func13, Tryd.ntmps13
  go_wp2_with fail
  refine (H1.out w (Below.refl _ _)).mono ?_
  rintro e w1 ⟨rfl, j1, rfl⟩
  have HB1 : Hid (Below w.heap.size w (w.more j1)) := Below.moreS (Below.refl _ _) j1
  go_wp2_with fail
  refine (H2.out _ (HE.out.below HB1.out)).mono ?_
  rintro e w2 ⟨a2, c2, rfl, hs2, hb2⟩
  have HB2 := Lib.hid (HB1.out.trans (hb2.mono HB1.out.size))
  have HS2 := Lib.hid hs2
  clear hs2 hb2
  go_wp2_with fail
  refine (H3.out _ (HE.out.below HB2.out)).mono ?_
  rintro e w3 ⟨a3, c3, rfl, hc3, hs3, hb3⟩
  have HB3 := Lib.hid (HB2.out.trans (hb3.mono HB2.out.size))
  have HS3 := Lib.hid hs3
  have HB23 := Lib.hid hb3
  clear hs3 hb3 hc3
  go_wp2_with fail
  refine (H4.out _).mono ?_
  rintro e w4 ⟨a4, c4, rfl, hc4, hs4, hb4⟩
  have HB4 := Lib.hid (HB3.out.trans (hb4.mono HB3.out.size))
  have HS4 := Lib.hid hs4
  have HS3' := Lib.hid ((HS3.out.below hb4 (Nat.le_refl _)).mono hb4.size (fun _ _ _ h => h))
  have HS2' := Lib.hid (((HS2.out.below HB23.out (Nat.le_refl _)).below (hb4.mono HB23.out.size) (Nat.le_refl _)).mono (Nat.le_trans HB23.out.size hb4.size) (fun _ _ _ h => h))
  have HS0' := Lib.hid ((HSL.out.below HB4.out (Nat.le_refl _)).mono HB4.out.size (fun _ _ _ h => h))
  clear hs4 hb4 hc4
  have HE4 := Lib.hid (HE.out.below HB4.out)
  have HSA : Hid (Calls Tryd.prog 62 #[.slice a2 l.length c2, .slice a l.length cap] w4 fun e w' => e = .returned (.bool true) ∧ ∃ j, w' = w4.more j) := by
    have := ref03_Same a2 a c2 cap l l w4 w4 (by omega) (by omega) (Below.refl _ _) HS2'.out HS0'.out
    rw [sameI_self] at this
    exact this
  have HSB : Hid (∀ j, Calls Tryd.prog 62 #[.slice a3 y.length c3, .slice a4 y.length c4] (w4.more j) fun e w' => e = .returned (.bool true) ∧ ∃ k, w' = (w4.more j).more k) := fun j => by
    have := ref03_Same a3 a4 c3 c4 y y w4 (w4.more j) hy hy (Below.moreS (Below.refl _ _) j) HS3'.out HS4.out
    rw [sameI_self] at this
    exact this
  have HL : Hid (is = true → ∀ j, Calls Tryd.prog 58 #[.slice a3 y.length c3] (w4.more j) fun e w' => e = .returned (bstr s) ∧ ∃ k, w' = (w4.more j).more k) := fun h j =>
    H6.out h a3 c3 _ (HE4.out.more j) ((HS3'.out.below (Below.moreS (Below.refl w4.heap.size w4) j) (Nat.le_refl _)).mono (by simp) (fun _ _ _ h => h))
  have H5' := Lib.hid (H5.out w4 HB4.out)
  have HA' : Hid (∀ j, Calls Tryd.prog 54 #[] (w4.more j) fun e w' => e = .returned (.bool true) ∧ ∃ k, w' = (w4.more j).more k) := fun j => HA.out _ (HE4.out.more j)
  cases is
  · clear HL
    go_wp2_with (go_at_call 61; (with_reducible refine (H5'.out).mono ?_); rintro e w' ⟨rfl, rfl⟩)
    refine HSA.out.mono ?_
    rintro e w5 ⟨rfl, j5, rfl⟩
    go_wp2_with (first
      | (go_at_call 62; (with_reducible refine (HSB.out _).mono ?_); rintro e w' ⟨rfl, j, rfl⟩)
      | (go_at_call 54; (with_reducible refine (HA'.out _).mono ?_); rintro e w' ⟨rfl, j, rfl⟩))
    go_ret
    exact ⟨rfl, (HB4.out.trans ((Below.moreS (Below.refl w4.heap.size w4) _).mono HB4.out.size)).junk⟩
  · have HL2 := Lib.hid (HL.out rfl)
    clear HL
    go_wp2_with (go_at_call 61; (with_reducible refine (H5'.out).mono ?_); rintro e w' ⟨rfl, rfl⟩)
    refine HSA.out.mono ?_
    rintro e w5 ⟨rfl, j5, rfl⟩
    go_wp2_with (first
      | (go_at_call 62; (with_reducible refine (HSB.out _).mono ?_); rintro e w' ⟨rfl, j, rfl⟩)
      | (go_at_call 58; (with_reducible refine (HL2.out _).mono ?_); rintro e w' ⟨rfl, j, rfl⟩)
      | (go_at_call 54; (with_reducible refine (HA'.out _).mono ?_); rintro e w' ⟨rfl, j, rfl⟩))
    go_ret
    exact ⟨rfl, (HB4.out.trans ((Below.moreS (Below.refl w4.heap.size w4) _).mono HB4.out.size)).junk⟩
end Go.Proofs.YtjdgkkmhlbjdnaaDoor
