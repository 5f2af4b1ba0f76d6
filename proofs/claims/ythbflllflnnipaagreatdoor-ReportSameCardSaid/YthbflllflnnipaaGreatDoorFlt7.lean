/-
  Faults: one among some, two lists; the program's road.
-/
import Derived.Test.YthbflllflnnipaaGreatDoorFlt6
namespace Go.Proofs.YthbflllflnnipaaGreatDoor
set_option linter.unusedSimpArgs false
set_option linter.unusedVariables false
set_option linter.unusedSectionVars false
open Go.ChangeShapes Go.WideShapes Go.ChangeAt Go.RowKit Go.Deep Go.Shelf

set_option maxHeartbeats 4000000 in
set_option maxRecDepth 100000 in
theorem slices_EqualFl (a b : Option Addr) (l m : List Fl) (cap cap2 : Nat) (hl : l.length ≤ 100000) (hm : m.length ≤ 100000) (w : World) (hS : SlFl w w.heap.size a l) (hS2 : SlFl w w.heap.size b m) :
    Calls Tryz.prog 58 #[.slice a l.length cap, .slice b m.length cap2] w fun e w' => e = .returned (.bool (decide (l = m))) ∧ ∃ j, w' = w.more j := by
  obtain ⟨R, hR⟩ : ∃ R, R = decide (l = m) := ⟨_, rfl⟩
  rw [← hR]
  have HR := Lib.hid hR
  have HS := Lib.hid hS
  have HS2 := Lib.hid hS2
  clear hS hS2 hR
  by_cases hlen : l.length = m.length
  rotate_left
  · have hR2 : R = false := by rw [HR.out, decide_eq_false_iff_not]; exact fun h => hlen (by rw [h])
    subst hR2
    have hli : (l.length : Int) ≠ m.length := by omega
    have e0 : ((l.length : Int) != (m.length : Int)) = true := by simpa using hli
    have e1 : ((l.length : Int) == (m.length : Int)) = false := by simpa using hli
    clear HR
    go_enter Tryz.func58, Tryz.ntmps58
    go_wp2_with fail
    go_ret
    exact ⟨rfl, Below.junk (by repeat (first | (with_reducible exact Below.refl _ _) | (with_reducible refine Below.allocS ?_ _) | (with_reducible refine Below.moreS ?_ _) | (with_reducible refine Below.drew ?_) | (with_reducible refine below_drewN ?_ _)))⟩
  have HL := Lib.hid hlen
  rw [← hlen]
  clear hm hlen
  go_enter Tryz.func58, Tryz.ntmps58
  go_wp2_with fail
  go_loopg [13] l.length (fun g i wr => ∃ k q : Nat, k + g = l.length ∧ i = .int .i64 k ∧ wr = w.drewN q ∧ Hid (R = decide (l.drop k = m.drop k)))
  case atStart => exact ⟨0, 0, by omega, rfl, rfl, HR⟩
  case round =>
    obtain ⟨k, q, hkg, rfl, rfl, HU⟩ := hrel
    have HK := Lib.hid hkg
    clear hkg
    by_cases hlt : k < l.length
    · have hlt2 : k < m.length := by rw [← HL.out]; exact hlt
      obtain ⟨b1, off1, ha, hbb, c0, c1⟩ := SlR.atFl HS.out hlt
      obtain ⟨b2, off2, ha2, hbb2, d0, d1⟩ := SlR.atFl HS2.out hlt2
      subst ha ha2
      have hd : l.drop k = l[k] :: l.drop (k + 1) := List.drop_eq_getElem_cons hlt
      have hd2 : m.drop k = m[k] :: m.drop (k + 1) := List.drop_eq_getElem_cons hlt2
      have HF : Hid (l[k] ≠ m[k] → R = false) := fun h => by rw [HU.out, hd, hd2, decide_eq_false_iff_not]; exact fun e => h (List.cons.inj e).1
      have HT : Hid (l[k] = m[k] → R = decide (l.drop (k + 1) = m.drop (k + 1))) := fun h => by rw [HU.out, decide_eq_decide, hd, hd2, h]; exact ⟨fun e => (List.cons.inj e).2, fun e => by rw [e]⟩
      clear hd hd2 HU
      generalize l[k] = x at c0 c1 HT HF
      generalize m[k] = y at d0 d1 HT HF
      have HQ := fun W => fl_neq x y W
      have HE : Hid (flEq x y = true → x = y) := fun h => by simpa [flEq] using h
      have HN : Hid (flEq x y = false → x ≠ y) := fun h => by simpa [flEq] using h
      generalize flEq x y = e at HQ HE HN
      have hltm : (k : Int) < (m.length : Int) := by omega
      cases e
      · have hR2 := HF.out (HN.out rfl)
        subst hR2
        clear HT HF HE HN
        go_wp2_with fail
        go_quiet (fail)
        go_wp2_with fail
        go_ret
        exact ⟨rfl, Below.junk (below_drewN (by repeat (first | (with_reducible exact Below.refl _ _) | (with_reducible refine Below.allocS ?_ _) | (with_reducible refine Below.moreS ?_ _) | (with_reducible refine Below.drew ?_) | (with_reducible refine below_drewN ?_ _))) _)⟩
      · have HU2 := Lib.hid (HT.out (HE.out rfl))
        clear HT HF HE HN
        go_wp2_with fail
        go_quiet (fail)
        go_wp2_with fail
        go_roundg (l.length - (k + 1))
        case measure => have := HK.out; omega
        case rel => exact ⟨k + 1, _, by have := HK.out; omega, by go_num, rfl, HU2⟩
    · have hR2 : R = true := by rw [HU.out, List.drop_of_length_le (by omega), List.drop_of_length_le (by rw [← HL.out]; omega)]; simp
      subst hR2
      clear HU
      go_wp2_with fail
      go_ret
      exact ⟨rfl, Below.junk (below_drewN (by repeat (first | (with_reducible exact Below.refl _ _) | (with_reducible refine Below.allocS ?_ _) | (with_reducible refine Below.moreS ?_ _) | (with_reducible refine Below.drew ?_) | (with_reducible refine below_drewN ?_ _))) _)⟩

set_option maxHeartbeats 4000000 in
set_option maxRecDepth 100000 in
theorem faults_Same (a b : Option Addr) (l m : List Fl) (cap cap2 : Nat) (hl : l.length ≤ 100000) (hm : m.length ≤ 100000) (w : World) (hS : SlFl w w.heap.size a l) (hS2 : SlFl w w.heap.size b m) :
    Calls Tryz.prog 17 #[.slice a l.length cap, .slice b m.length cap2] w fun e w' => e = .returned (.bool (decide (l = m))) ∧ ∃ j, w' = w.more j := by
  have HC := Lib.hid (slices_EqualFl a b l m cap cap2 hl hm w hS hS2)
  clear hS hS2
  generalize decide (l = m) = R at HC ⊢
  generalize l.length = n at HC ⊢
  generalize m.length = n2 at HC ⊢
  go_enter Tryz.func17, Tryz.ntmps17
  go_wp2_with fail
  refine HC.out.mono ?_
  rintro e w' ⟨rfl, j, rfl⟩
  go_wp2_with fail
  go_ret
  exact ⟨rfl, Below.junk (by repeat (first | (with_reducible exact Below.refl _ _) | (with_reducible refine Below.allocS ?_ _) | (with_reducible refine Below.moreS ?_ _) | (with_reducible refine Below.drew ?_) | (with_reducible refine below_drewN ?_ _)))⟩

end Go.Proofs.YthbflllflnnipaaGreatDoor
