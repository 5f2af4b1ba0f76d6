/-
  Faults: one among some, two lists; the program's road.
-/
import Derived.Test.YtamklaehaadiaaaDoorFlt6
namespace Go.Proofs.YtamklaehaadiaaaDoor
set_option linter.unusedSimpArgs false
set_option linter.unusedVariables false
set_option linter.unusedSectionVars false
open Go.ChangeShapes Go.WideShapes Go.ChangeAt Go.RowKit Go.Deep Go.Shelf

set_option maxHeartbeats 4000000 in
set_option maxRecDepth 100000 in
theorem slices_EqualFl (a b : Option Addr) (l m : List Fl) (cap cap2 : Nat) (hl : l.length ≤ 100000) (hm : m.length ≤ 100000) (w : World) (hS : SlFl w w.heap.size a l) (hS2 : SlFl w w.heap.size b m) :
    Calls Tryd.prog 24 #[.slice a l.length cap, .slice b m.length cap2] w fun e w' => e = .returned (.bool (decide (l = m))) ∧ ∃ j, w' = w.more j := by
  obtain ⟨R, hR⟩ : ∃ R, R = decide (l = m) := ⟨_, rfl⟩
  rw [← hR]
  have HR := Lib.hid hR
  have HS := Lib.hid hS
  have HS2 := Lib.hid hS2
  clear hS hS2 hR
  by_cases hlen : l.length = m.length
  rotate_left
  · have hR2 : R = false := by rw [HR.out, decide_eq_false_iff_not]; exact fun h => hlen (by rw [h])
    subst hR2
    have hli : (l.length : Int) ≠ m.length := by omega
    have e0 : ((l.length : Int) != (m.length : Int)) = true := by simpa using hli
    have e1 : ((l.length : Int) == (m.length : Int)) = false := by simpa using hli
    clear HR
    go_enter Tryd.func24, Tryd.ntmps24
    go_wp2_with fail
    go_ret
    exact ⟨rfl, Below.junk (by repeat (first | (with_reducible exact Below.refl _ _) | (with_reducible refine Below.allocS ?_ _) | (with_reducible refine Below.moreS ?_ _) | (with_reducible refine Below.drew ?_) | (with_reducible refine below_drewN ?_ _)))⟩
  have HL := Lib.hid hlen
  rw [← hlen]
  clear hm hlen
  go_enter Tryd.func24, Tryd.ntmps24
  go_wp2_with fail
  go_loopg [13] l.length (fun g i wr => ∃ k q : Nat, k + g = l.length ∧ i = .int .i64 k ∧ wr = w.drewN q ∧ Hid (R = decide (l.drop k = m.drop k)))
  case atStart => exact ⟨0, 0, by omega, rfl, rfl, HR⟩
  case round =>
    obtain ⟨k, q, hkg, rfl, rfl, HU⟩ := hrel
    have HK := Lib.hid hkg
    clear hkg
    by_cases hlt : k < l.length
    · have hlt2 : k < m.length := by rw [← HL.out]; exact hlt
      obtain ⟨b1, off1, ha, hbb, c0, c1⟩ := SlR.atFl HS.out hlt
      obtain ⟨b2, off2, ha2, hbb2, d0, d1⟩ := SlR.atFl HS2.out hlt2
      subst ha ha2
      have hd : l.drop k = l[k] :: l.drop (k + 1) := List.drop_eq_getElem_cons hlt
      have hd2 : m.drop k = m[k] :: m.drop (k + 1) := List.drop_eq_getElem_cons hlt2
      have HF : Hid (l[k] ≠ m[k] → R = false) := fun h => by rw [HU.out, hd, hd2, decide_eq_false_iff_not]; exact fun e => h (List.cons.inj e).1
      have HT : Hid (l[k] = m[k] → R = decide (l.drop (k + 1) = m.drop (k + 1))) := fun h => by rw [HU.out, decide_eq_decide, hd, hd2, h]; exact ⟨fun e => (List.cons.inj e).2, fun e => by rw [e]⟩
      clear hd hd2 HU
      generalize l[k] = x at c0 c1 HT HF
      generalize m[k] = y at d0 d1 HT HF
      have HQ := fun W => fl_neq x y W
      have HE : Hid (flEq x y = true → x = y) := fun h => by simpa [flEq] using h
      have HN : Hid (flEq x y = false → x ≠ y) := fun h => by simpa [flEq] using h
      generalize flEq x y = e at HQ HE HN
      have hltm : (k : Int) < (m.length : Int) := by omega
      cases e
      · have hR2 := HF.out (HN.out rfl)
        subst hR2
        clear HT HF HE HN
        go_wp2_with fail
        go_quiet (fail)
        go_wp2_with fail
        go_ret
        exact ⟨rfl, Below.junk (below_drewN (by repeat (first | (with_reducible exact Below.refl _ _) | (with_reducible refine Below.allocS ?_ _) | (with_reducible refine Below.moreS ?_ _) | (with_reducible refine Below.drew ?_) | (with_reducible refine below_drewN ?_ _))) _)⟩
      · have HU2 := Lib.hid (HT.out (HE.out rfl))
        clear HT HF HE HN
        go_wp2_with fail
        go_quiet (fail)
        go_wp2_with fail
        go_roundg (l.length - (k + 1))
        case measure => have := HK.out; omega
        case rel => exact ⟨k + 1, _, by have := HK.out; omega, by go_num, rfl, HU2⟩
    · have hR2 : R = true := by rw [HU.out, List.drop_of_length_le (by omega), List.drop_of_length_le (by rw [← HL.out]; omega)]; simp
      subst hR2
      clear HU
      go_wp2_with fail
      go_ret
      exact ⟨rfl, Below.junk (below_drewN (by repeat (first | (with_reducible exact Below.refl _ _) | (with_reducible refine Below.allocS ?_ _) | (with_reducible refine Below.moreS ?_ _) | (with_reducible refine Below.drew ?_) | (with_reducible refine below_drewN ?_ _))) _)⟩

set_option maxHeartbeats 4000000 in
set_option maxRecDepth 100000 in
theorem slices_IndexFl (a : Option Addr) (l : List Fl) (cap : Nat) (s c : Int) (hl : l.length ≤ 100000) (w : World) (hS : SlFl w w.heap.size a l) :
    Calls Tryd.prog 39 #[.slice a l.length cap, .agg #[.int .i64 s, .int .i64 c]] w fun e w' => ∃ r : Int, e = .returned (.int .i64 r) ∧ decide (0 ≤ r) = decide ((⟨s, c⟩ : Fl) ∈ l) ∧ ∃ j, w' = w.more j := by
  obtain ⟨R, hR⟩ : ∃ R, R = decide ((⟨s, c⟩ : Fl) ∈ l) := ⟨_, rfl⟩
  rw [← hR]
  have HR := Lib.hid hR
  have HS := Lib.hid hS
  clear hS hR
  go_enter Tryd.func39, Tryd.ntmps39
  go_wp2_with fail
  go_loopg [8] l.length (fun g i wr => ∃ k q : Nat, k + g = l.length ∧ i = .int .i64 k ∧ wr = (w.alloc (.cells #[.int .i64 s, .int .i64 c] 28)).drewN q ∧ Hid (R = decide ((⟨s, c⟩ : Fl) ∈ l.drop k)))
  case atStart => exact ⟨0, 0, by omega, rfl, rfl, HR⟩
  case round =>
    obtain ⟨k, q, hkg, rfl, rfl, HU⟩ := hrel
    have HK := Lib.hid hkg
    clear hkg
    by_cases hlt : k < l.length
    · obtain ⟨b, off, ha, hbb, c0, c1⟩ := SlR.atFl HS.out hlt
      subst ha
      have hd : l.drop k = l[k] :: l.drop (k + 1) := List.drop_eq_getElem_cons hlt
      have HT : Hid (l[k] = ⟨s, c⟩ → R = true) := fun h => by rw [HU.out, hd, h]; simp
      have HF : Hid (l[k] ≠ ⟨s, c⟩ → R = decide ((⟨s, c⟩ : Fl) ∈ l.drop (k + 1))) := fun h => by rw [HU.out, decide_eq_decide, hd, List.mem_cons]; exact ⟨fun h' => h'.resolve_left (Ne.symm h), .inr⟩
      clear hd HU
      generalize l[k] = x at c0 c1 HT HF
      have HQ := fun W => fl_eql ⟨s, c⟩ x W
      have HE : Hid (flEq ⟨s, c⟩ x = true → x = ⟨s, c⟩) := fun h => by simpa [flEq, eq_comm] using h
      have HN : Hid (flEq ⟨s, c⟩ x = false → x ≠ ⟨s, c⟩) := fun h => by simpa [flEq, eq_comm] using h
      generalize flEq ⟨s, c⟩ x = e at HQ HE HN
      cases e
      · have HU2 := Lib.hid (HF.out (HN.out rfl))
        clear HT HF HE HN
        go_wp2_with fail
        go_quiet (fail)
        go_wp2_with fail
        go_roundg (l.length - (k + 1))
        case measure => have := HK.out; omega
        case rel => exact ⟨k + 1, _, by have := HK.out; omega, by go_num, rfl, HU2⟩
      · have hR2 := HT.out (HE.out rfl)
        subst hR2
        clear HT HF HE HN
        go_wp2_with fail
        go_quiet (fail)
        go_wp2_with fail
        go_ret
        exact ⟨_, rfl, by simp, Below.junk (below_drewN (by repeat (first | (with_reducible exact Below.refl _ _) | (with_reducible refine Below.allocS ?_ _) | (with_reducible refine Below.moreS ?_ _) | (with_reducible refine Below.drew ?_) | (with_reducible refine below_drewN ?_ _))) _)⟩
    · have hR2 : R = false := by rw [HU.out, List.drop_of_length_le (by omega)]; simp
      subst hR2
      clear HU
      go_wp2_with fail
      go_ret
      exact ⟨_, rfl, by decide, Below.junk (below_drewN (by repeat (first | (with_reducible exact Below.refl _ _) | (with_reducible refine Below.allocS ?_ _) | (with_reducible refine Below.moreS ?_ _) | (with_reducible refine Below.drew ?_) | (with_reducible refine below_drewN ?_ _))) _)⟩


set_option maxHeartbeats 4000000 in
set_option maxRecDepth 100000 in
theorem faults_Same (a b : Option Addr) (l m : List Fl) (cap cap2 : Nat) (hl : l.length ≤ 100000) (hm : m.length ≤ 100000) (w : World) (hS : SlFl w w.heap.size a l) (hS2 : SlFl w w.heap.size b m) :
    Calls Tryd.prog 8 #[.slice a l.length cap, .slice b m.length cap2] w fun e w' => e = .returned (.bool (decide (l = m))) ∧ ∃ j, w' = w.more j := by
  have HC := Lib.hid (slices_EqualFl a b l m cap cap2 hl hm w hS hS2)
  clear hS hS2
  generalize decide (l = m) = R at HC ⊢
  generalize l.length = n at HC ⊢
  generalize m.length = n2 at HC ⊢
  go_enter Tryd.func8, Tryd.ntmps8
  go_wp2_with fail
  refine HC.out.mono ?_
  rintro e w' ⟨rfl, j, rfl⟩
  go_wp2_with fail
  go_ret
  exact ⟨rfl, Below.junk (by repeat (first | (with_reducible exact Below.refl _ _) | (with_reducible refine Below.allocS ?_ _) | (with_reducible refine Below.moreS ?_ _) | (with_reducible refine Below.drew ?_) | (with_reducible refine below_drewN ?_ _)))⟩

set_option maxHeartbeats 4000000 in
set_option maxRecDepth 100000 in
theorem slices_ContainsFl (a : Option Addr) (l : List Fl) (cap : Nat) (s c : Int) (hl : l.length ≤ 100000) (w : World) (hS : SlFl w w.heap.size a l) :
    Calls Tryd.prog 28 #[.slice a l.length cap, .agg #[.int .i64 s, .int .i64 c]] w fun e w' => e = .returned (.bool (decide (⟨s, c⟩ ∈ l))) ∧ ∃ j, w' = w.more j := by
  have HC := Lib.hid (slices_IndexFl a l cap s c hl (w.alloc (.cells #[.int .i64 s, .int .i64 c] 28)) ((hS.below (C := w.heap.size) (by repeat (first | (with_reducible exact Below.refl _ _) | (with_reducible refine Below.allocS ?_ _) | (with_reducible refine Below.moreS ?_ _) | (with_reducible refine Below.drew ?_) | (with_reducible refine below_drewN ?_ _))) (Nat.le_refl _)).mono (by simp) (fun _ _ _ h => h)))
  clear hS
  generalize decide ((⟨s, c⟩ : Fl) ∈ l) = R at HC ⊢
  generalize l.length = n at HC ⊢
  go_enter Tryd.func28, Tryd.ntmps28
  go_wp2_with fail
  refine HC.out.mono ?_
  rintro e w' ⟨r, rfl, rfl, j, rfl⟩
  go_wp2_with fail
  go_ret
  exact ⟨rfl, Below.junk (by repeat (first | (with_reducible exact Below.refl _ _) | (with_reducible refine Below.allocS ?_ _) | (with_reducible refine Below.moreS ?_ _) | (with_reducible refine Below.drew ?_) | (with_reducible refine below_drewN ?_ _)))⟩

set_option maxHeartbeats 4000000 in
set_option maxRecDepth 100000 in
theorem faults_Has (a : Option Addr) (l : List Fl) (cap : Nat) (s c : Int) (hl : l.length ≤ 100000) (w : World) (hS : SlFl w w.heap.size a l) :
    Calls Tryd.prog 12 #[.slice a l.length cap, .agg #[.int .i64 s, .int .i64 c]] w fun e w' => e = .returned (.bool (decide (⟨s, c⟩ ∈ l))) ∧ ∃ j, w' = w.more j := by
  have HC := Lib.hid (slices_ContainsFl a l cap s c hl (w.alloc (.cells #[.int .i64 s, .int .i64 c] 28)) ((hS.below (C := w.heap.size) (by repeat (first | (with_reducible exact Below.refl _ _) | (with_reducible refine Below.allocS ?_ _) | (with_reducible refine Below.moreS ?_ _) | (with_reducible refine Below.drew ?_) | (with_reducible refine below_drewN ?_ _))) (Nat.le_refl _)).mono (by simp) (fun _ _ _ h => h)))
  clear hS
  generalize decide ((⟨s, c⟩ : Fl) ∈ l) = R at HC ⊢
  generalize l.length = n at HC ⊢
  go_enter Tryd.func12, Tryd.ntmps12
  go_wp2_with fail
  refine HC.out.mono ?_
  rintro e w' ⟨rfl, j, rfl⟩
  go_wp2_with fail
  go_ret
  exact ⟨rfl, Below.junk (by repeat (first | (with_reducible exact Below.refl _ _) | (with_reducible refine Below.allocS ?_ _) | (with_reducible refine Below.moreS ?_ _) | (with_reducible refine Below.drew ?_) | (with_reducible refine below_drewN ?_ _)))⟩
end Go.Proofs.YtamklaehaadiaaaDoor
