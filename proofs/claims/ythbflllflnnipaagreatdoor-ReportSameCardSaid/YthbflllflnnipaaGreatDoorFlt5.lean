/-
  Faults: the document's right ones, their order, one among some, two lists.
-/
import Derived.Test.YthbflllflnnipaaGreatDoorFlt4
namespace Go.Proofs.YthbflllflnnipaaGreatDoor
set_option linter.unusedSimpArgs false
set_option linter.unusedVariables false
set_option linter.unusedSectionVars false
open Go.ChangeShapes Go.WideShapes Go.ChangeAt Go.RowKit Go.Deep Go.Shelf

set_option maxHeartbeats 4000000 in
set_option maxRecDepth 100000 in
theorem ref09_Right (s c : Int) (w : World) : Calls Tryz.prog 76 #[.agg #[.int .i64 s, .int .i64 c]] w fun e w' => e = .returned (.bool (flR ⟨s, c⟩)) ∧ ∃ j, w' = w.more j := by
  have HR : Hid (flR ⟨s, c⟩ = ((s == 1 || s == 2) && (decide (0 ≤ c) && decide (c < 4294967296)))) := rfl
  generalize flR ⟨s, c⟩ = R at HR ⊢
  have hc : (0 ≤ c ∧ c < 4294967296) ∨ (0 ≤ c ∧ ¬ c < 4294967296) ∨ ¬ 0 ≤ c := by omega
  cases h1 : (s == 1)
  · cases h2 : (s == 2)
    · have hR : R = false := by rw [HR.out, h1, h2]; rfl
      subst hR
      clear HR hc
      go_enter Tryz.func76, Tryz.ntmps76
      go_wp2_with fail
      all_goals first
        | (exfalso; simp_all; done)
        | (go_ret; exact ⟨rfl, Below.junk (by repeat (first | (with_reducible exact Below.refl _ _) | (with_reducible refine Below.allocS ?_ _) | (with_reducible refine Below.moreS ?_ _) | (with_reducible refine Below.drew ?_) | (with_reducible refine below_drewN ?_ _)))⟩)
    · rcases hc with ⟨h3, h4⟩ | ⟨h3, h4⟩ | h3
      all_goals
        have hR : R = (decide (0 ≤ c) && decide (c < 4294967296)) := by rw [HR.out, h1, h2]; rfl
        first | simp only [h3, h4, decide_true, decide_false, Bool.and_true, Bool.and_false, Bool.false_and] at hR | simp only [h3, decide_false, Bool.false_and] at hR
        subst hR
        clear HR
        obtain rfl : s = 2 := by simpa using h2
        clear h1 h2
        go_enter Tryz.func76, Tryz.ntmps76
        go_wp2_with fail
        go_ret
        exact ⟨rfl, Below.junk (by repeat (first | (with_reducible exact Below.refl _ _) | (with_reducible refine Below.allocS ?_ _) | (with_reducible refine Below.moreS ?_ _) | (with_reducible refine Below.drew ?_) | (with_reducible refine below_drewN ?_ _)))⟩
  · rcases hc with ⟨h3, h4⟩ | ⟨h3, h4⟩ | h3
    all_goals
      have hR : R = (decide (0 ≤ c) && decide (c < 4294967296)) := by rw [HR.out, h1]; rfl
      first | simp only [h3, h4, decide_true, decide_false, Bool.and_true, Bool.and_false, Bool.false_and] at hR | simp only [h3, decide_false, Bool.false_and] at hR
      subst hR
      clear HR
      obtain rfl : s = 1 := by simpa using h1
      clear h1
      go_enter Tryz.func76, Tryz.ntmps76
      go_wp2_with fail
      go_ret
      exact ⟨rfl, Below.junk (by repeat (first | (with_reducible exact Below.refl _ _) | (with_reducible refine Below.allocS ?_ _) | (with_reducible refine Below.moreS ?_ _) | (with_reducible refine Below.drew ?_) | (with_reducible refine below_drewN ?_ _)))⟩

set_option maxHeartbeats 4000000 in
set_option maxRecDepth 100000 in
theorem ref09_Less (a b c d : Int) (w : World) : Calls Tryz.prog 78 #[.agg #[.int .i64 a, .int .i64 b], .agg #[.int .i64 c, .int .i64 d]] w fun e w' => e = .returned (.bool (ltFl ⟨a, b⟩ ⟨c, d⟩)) ∧ ∃ j, w' = w.more j := by
  have HR : Hid (ltFl ⟨a, b⟩ ⟨c, d⟩ = if a = c then decide (b < d) else decide (a < c)) := rfl
  generalize ltFl ⟨a, b⟩ ⟨c, d⟩ = R at HR ⊢
  by_cases h0 : a < c
  · have hR : R = true := by rw [HR.out, if_neg (by omega)]; simpa using h0
    subst hR
    clear HR
    go_enter Tryz.func78, Tryz.ntmps78
    go_wp2_with fail
    go_ret
    exact ⟨rfl, Below.junk (by repeat (first | (with_reducible exact Below.refl _ _) | (with_reducible refine Below.allocS ?_ _) | (with_reducible refine Below.moreS ?_ _) | (with_reducible refine Below.drew ?_) | (with_reducible refine below_drewN ?_ _)))⟩
  · cases h1 : (a == c)
    · have hR : R = false := by rw [HR.out, if_neg (by simpa using h1)]; simpa using h0
      subst hR
      clear HR
      go_enter Tryz.func78, Tryz.ntmps78
      go_wp2_with fail
      go_ret
      exact ⟨rfl, Below.junk (by repeat (first | (with_reducible exact Below.refl _ _) | (with_reducible refine Below.allocS ?_ _) | (with_reducible refine Below.moreS ?_ _) | (with_reducible refine Below.drew ?_) | (with_reducible refine below_drewN ?_ _)))⟩
    · obtain rfl : a = c := by simpa using h1
      have hR : R = decide (b < d) := by rw [HR.out, if_pos rfl]
      subst hR
      clear HR
      by_cases h2 : b < d
      all_goals
        go_enter Tryz.func78, Tryz.ntmps78
        go_wp2_with fail
        go_ret
        exact ⟨by simp [h2], Below.junk (by repeat (first | (with_reducible exact Below.refl _ _) | (with_reducible refine Below.allocS ?_ _) | (with_reducible refine Below.moreS ?_ _) | (with_reducible refine Below.drew ?_) | (with_reducible refine below_drewN ?_ _)))⟩

set_option maxHeartbeats 4000000 in
set_option maxRecDepth 100000 in
theorem ref09_Has (a : Option Addr) (l : List Fl) (cap : Nat) (s c : Int) (hl : l.length ≤ 100000) (w : World) (hS : SlFl w w.heap.size a l) :
    Calls Tryz.prog 77 #[.slice a l.length cap, .agg #[.int .i64 s, .int .i64 c]] w fun e w' => e = .returned (.bool (decide (⟨s, c⟩ ∈ l))) ∧ ∃ j, w' = w.more j := by
  obtain ⟨R, hR⟩ : ∃ R, R = decide ((⟨s, c⟩ : Fl) ∈ l) := ⟨_, rfl⟩
  rw [← hR]
  have HR := Lib.hid hR
  have HS := Lib.hid hS
  clear hS hR
  go_enter Tryz.func77, Tryz.ntmps77
  go_wp2_with fail
  go_loopg [5] l.length (fun g i wr => ∃ k q : Nat, k + g = l.length ∧ i = .int .i64 k ∧ wr = (w.alloc (.cells #[.int .i64 s, .int .i64 c] 88)).drewN q ∧ Hid (R = decide ((⟨s, c⟩ : Fl) ∈ l.drop k)))
  case atStart => exact ⟨0, 0, by omega, rfl, rfl, HR⟩
  case round =>
    obtain ⟨k, q, hkg, rfl, rfl, HU⟩ := hrel
    have HK := Lib.hid hkg
    clear hkg
    by_cases hlt : k < l.length
    · obtain ⟨b, off, ha, hbb, c0, c1⟩ := SlR.atFl HS.out hlt
      subst ha
      have hd : l.drop k = l[k] :: l.drop (k + 1) := List.drop_eq_getElem_cons hlt
      have HT : Hid (l[k] = ⟨s, c⟩ → R = true) := fun h => by rw [HU.out, hd, h]; simp
      have HF : Hid (l[k] ≠ ⟨s, c⟩ → R = decide ((⟨s, c⟩ : Fl) ∈ l.drop (k + 1))) := fun h => by rw [HU.out, decide_eq_decide, hd, List.mem_cons]; exact ⟨fun h' => h'.resolve_left (Ne.symm h), .inr⟩
      clear hd HU
      generalize l[k] = x at c0 c1 HT HF
      have HQ := fun W => fl_eql x ⟨s, c⟩ W
      have HE : Hid (flEq x ⟨s, c⟩ = true → x = ⟨s, c⟩) := fun h => by simpa [flEq] using h
      have HN : Hid (flEq x ⟨s, c⟩ = false → x ≠ ⟨s, c⟩) := fun h => by simpa [flEq] using h
      generalize flEq x ⟨s, c⟩ = e at HQ HE HN
      cases e
      · have HU2 := Lib.hid (HF.out (HN.out rfl))
        clear HT HF HE HN
        go_wp2_with fail
        go_quiet (fail)
        go_wp2_with fail
        go_roundg (l.length - (k + 1))
        case measure => have := HK.out; omega
        case rel => exact ⟨k + 1, _, by have := HK.out; omega, by go_num, rfl, HU2⟩
      · have hR2 := HT.out (HE.out rfl)
        subst hR2
        clear HT HF HE HN
        go_wp2_with fail
        go_quiet (fail)
        go_wp2_with fail
        go_ret
        exact ⟨rfl, Below.junk (below_drewN (by repeat (first | (with_reducible exact Below.refl _ _) | (with_reducible refine Below.allocS ?_ _) | (with_reducible refine Below.moreS ?_ _) | (with_reducible refine Below.drew ?_) | (with_reducible refine below_drewN ?_ _))) _)⟩
    · have hR2 : R = false := by rw [HU.out, List.drop_of_length_le (by omega)]; simp
      subst hR2
      clear HU
      go_wp2_with fail
      go_ret
      exact ⟨rfl, Below.junk (below_drewN (by repeat (first | (with_reducible exact Below.refl _ _) | (with_reducible refine Below.allocS ?_ _) | (with_reducible refine Below.moreS ?_ _) | (with_reducible refine Below.drew ?_) | (with_reducible refine below_drewN ?_ _))) _)⟩

set_option maxHeartbeats 4000000 in
set_option maxRecDepth 100000 in
theorem ref09_Same (a b : Option Addr) (l m : List Fl) (cap cap2 : Nat) (hl : l.length ≤ 100000) (hm : m.length ≤ 100000) (w : World) (hS : SlFl w w.heap.size a l) (hS2 : SlFl w w.heap.size b m) :
    Calls Tryz.prog 34 #[.slice a l.length cap, .slice b m.length cap2] w fun e w' => e = .returned (.bool (decide (l = m))) ∧ ∃ j, w' = w.more j := by
  obtain ⟨R, hR⟩ : ∃ R, R = decide (l = m) := ⟨_, rfl⟩
  rw [← hR]
  have HR := Lib.hid hR
  have HS := Lib.hid hS
  have HS2 := Lib.hid hS2
  clear hS hS2 hR
  by_cases hlen : l.length = m.length
  rotate_left
  · have hR2 : R = false := by rw [HR.out, decide_eq_false_iff_not]; exact fun h => hlen (by rw [h])
    subst hR2
    have hli : (l.length : Int) ≠ m.length := by omega
    have e0 : ((l.length : Int) != (m.length : Int)) = true := by simpa using hli
    have e1 : ((l.length : Int) == (m.length : Int)) = false := by simpa using hli
    clear HR
    go_enter Tryz.func34, Tryz.ntmps34
    go_wp2_with fail
    go_ret
    exact ⟨rfl, Below.junk (by repeat (first | (with_reducible exact Below.refl _ _) | (with_reducible refine Below.allocS ?_ _) | (with_reducible refine Below.moreS ?_ _) | (with_reducible refine Below.drew ?_) | (with_reducible refine below_drewN ?_ _)))⟩
  have HL := Lib.hid hlen
  rw [← hlen]
  clear hm hlen
  go_enter Tryz.func34, Tryz.ntmps34
  go_wp2_with fail
  go_loopg [5] l.length (fun g i wr => ∃ k q : Nat, k + g = l.length ∧ i = .int .i64 k ∧ wr = w.drewN q ∧ Hid (R = decide (l.drop k = m.drop k)))
  case atStart => exact ⟨0, 0, by omega, rfl, rfl, HR⟩
  case round =>
    obtain ⟨k, q, hkg, rfl, rfl, HU⟩ := hrel
    have HK := Lib.hid hkg
    clear hkg
    by_cases hlt : k < l.length
    · have hlt2 : k < m.length := by rw [← HL.out]; exact hlt
      obtain ⟨b1, off1, ha, hbb, c0, c1⟩ := SlR.atFl HS.out hlt
      obtain ⟨b2, off2, ha2, hbb2, d0, d1⟩ := SlR.atFl HS2.out hlt2
      subst ha ha2
      have hd : l.drop k = l[k] :: l.drop (k + 1) := List.drop_eq_getElem_cons hlt
      have hd2 : m.drop k = m[k] :: m.drop (k + 1) := List.drop_eq_getElem_cons hlt2
      have HF : Hid (l[k] ≠ m[k] → R = false) := fun h => by rw [HU.out, hd, hd2, decide_eq_false_iff_not]; exact fun e => h (List.cons.inj e).1
      have HT : Hid (l[k] = m[k] → R = decide (l.drop (k + 1) = m.drop (k + 1))) := fun h => by rw [HU.out, decide_eq_decide, hd, hd2, h]; exact ⟨fun e => (List.cons.inj e).2, fun e => by rw [e]⟩
      clear hd hd2 HU
      generalize l[k] = x at c0 c1 HT HF
      generalize m[k] = y at d0 d1 HT HF
      have HQ := fun W => fl_neq x y W
      have HE : Hid (flEq x y = true → x = y) := fun h => by simpa [flEq] using h
      have HN : Hid (flEq x y = false → x ≠ y) := fun h => by simpa [flEq] using h
      generalize flEq x y = e at HQ HE HN
      have hltm : (k : Int) < (m.length : Int) := by omega
      cases e
      · have hR2 := HF.out (HN.out rfl)
        subst hR2
        clear HT HF HE HN
        go_wp2_with fail
        go_quiet (fail)
        go_wp2_with fail
        go_ret
        exact ⟨rfl, Below.junk (below_drewN (by repeat (first | (with_reducible exact Below.refl _ _) | (with_reducible refine Below.allocS ?_ _) | (with_reducible refine Below.moreS ?_ _) | (with_reducible refine Below.drew ?_) | (with_reducible refine below_drewN ?_ _))) _)⟩
      · have HU2 := Lib.hid (HT.out (HE.out rfl))
        clear HT HF HE HN
        go_wp2_with fail
        go_quiet (fail)
        go_wp2_with fail
        go_roundg (l.length - (k + 1))
        case measure => have := HK.out; omega
        case rel => exact ⟨k + 1, _, by have := HK.out; omega, by go_num, rfl, HU2⟩
    · have hR2 : R = true := by rw [HU.out, List.drop_of_length_le (by omega), List.drop_of_length_le (by rw [← HL.out]; omega)]; simp
      subst hR2
      clear HU
      go_wp2_with fail
      go_ret
      exact ⟨rfl, Below.junk (below_drewN (by repeat (first | (with_reducible exact Below.refl _ _) | (with_reducible refine Below.allocS ?_ _) | (with_reducible refine Below.moreS ?_ _) | (with_reducible refine Below.drew ?_) | (with_reducible refine below_drewN ?_ _))) _)⟩
end Go.Proofs.YthbflllflnnipaaGreatDoor
