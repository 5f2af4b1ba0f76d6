/-
  The statement FaultsUnion: it does not matter which of two sets is taken to the other one, or whether it is taken twice.
-/
import Derived.Test.YtamklaehaadiaaaDoorFlt14
import Derived.Test.YtamklaehaadiaaaDoorFlt13
namespace Go.Proofs.YtamklaehaadiaaaDoor
set_option linter.unusedSimpArgs false
set_option linter.unusedVariables false
set_option linter.unusedSectionVars false
open Go.ChangeShapes Go.WideShapes Go.ChangeAt Go.RowKit Go.Deep Go.Shelf

def UnPost (L : List Fl) (w : World) (e : Ending) (w' : World) : Prop := ∃ a' cap', e = .returned (.slice a' L.length cap') ∧ L.length ≤ cap' ∧ SlFl w' w'.heap.size a' L ∧ Below w.heap.size w w'
def UnAt (l m L : List Fl) : Prop := ∀ (W : World) (a b : Option Addr) (ca cb : Nat), SlFl W W.heap.size a l → SlFl W W.heap.size b m → Calls Tryd.prog 7 #[.slice a l.length ca, .slice b m.length cb] W (UnPost L W)
theorem unAt {l m L : List Fl} (hl : l.length ≤ 40000) (hm : m.length ≤ 40000) (h : ofF (l ++ m) = L) : UnAt l m L := fun W a b ca cb h1 h2 => by
  have := faults_Union a b l m ca cb hl hm W h1 h2
  rw [h] at this
  exact this
def SameAt (L : List Fl) : Prop := ∀ (W : World) (a b : Option Addr) (ca cb : Nat), SlFl W W.heap.size a L → SlFl W W.heap.size b L → Calls Tryd.prog 8 #[.slice a L.length ca, .slice b L.length cb] W fun e w' => e = .returned (.bool true) ∧ ∃ j, w' = W.more j
theorem sameAt {L : List Fl} (h : L.length ≤ 100000) : SameAt L := fun W a b ca cb h1 h2 => by
  have := faults_Same a b L L ca cb h h W h1 h2
  rw [decide_eq_true (rfl : L = L)] at this
  exact this
theorem below_more (w : World) (j : Junk) : Below w.heap.size w (w.more j) := (Below.refl _ _).moreS j
theorem below_step {w w1 w2 : World} (h : Below w.heap.size w w1) (h2 : Below w1.heap.size w1 w2) : Below w.heap.size w w2 := h.trans (h2.mono h.size)
set_option maxHeartbeats 8000000 in
set_option maxRecDepth 100000 in
theorem faultsUnion_law (a1 : Option Addr) (cap1 : Nat) (l1 : List Fl) (a2 : Option Addr) (cap2 : Nat) (l2 : List Fl) (a3 : Option Addr) (cap3 : Nat) (l3 : List Fl) (w : World) (hF : FN w)
    (_ : l1.length ≤ cap1) (hm1 : l1.length ≤ maxLen) (hs1 : SlFl w w.heap.size a1 l1) (_ : l2.length ≤ cap2) (hm2 : l2.length ≤ maxLen) (hs2 : SlFl w w.heap.size a2 l2) (_ : l3.length ≤ cap3) (hm3 : l3.length ≤ maxLen) (hs3 : SlFl w w.heap.size a3 l3) :
    Calls Tryd.prog 3 #[.slice a1 l1.length cap1, .slice a2 l2.length cap2, .slice a3 l3.length cap3] w fun e w' => e = .returned (.bool true) ∧ ∃ j, w' = w.more j := by
  have HAL : Hid (∀ W, FN W → Calls Tryd.prog 6 #[] W fun e w' => e = .returned (.bool true) ∧ ∃ j, w' = W.more j) := law09_alive
  have HF := Lib.hid hF
  have H1 := Lib.hid hs1
  have H2 := Lib.hid hs2
  have H3 := Lib.hid hs3
  unfold maxLen at hm1 hm2 hm3
  clear hF hs1 hs2 hs3
  by_cases g : (40 < l1.length ∨ 40 < l2.length) ∨ 40 < l3.length
  · rcases g with (g | g) | g
    · have g1 : (40 : Int) < l1.length := by omega
      go_enter Tryd.func3, Tryd.ntmps3
      go_wp2_with (go_at_call 6; (with_reducible refine (HAL.out _ (HF.out.below (by repeat (first | (with_reducible exact Below.refl _ _) | (with_reducible refine Below.allocS ?_ _) | (with_reducible refine Below.moreS ?_ _) | (with_reducible refine Below.drew ?_) | (with_reducible refine below_drewN ?_ _))))).mono ?_); rintro e w' ⟨rfl, j, rfl⟩)
      all_goals first
        | (exfalso; omega)
        | (go_ret
           exact ⟨rfl, Below.junk (by repeat (first | (with_reducible exact Below.refl _ _) | (with_reducible refine Below.allocS ?_ _) | (with_reducible refine Below.moreS ?_ _) | (with_reducible refine Below.drew ?_) | (with_reducible refine below_drewN ?_ _)))⟩)
    · have g1 : (40 : Int) < l2.length := by omega
      go_enter Tryd.func3, Tryd.ntmps3
      go_wp2_with (go_at_call 6; (with_reducible refine (HAL.out _ (HF.out.below (by repeat (first | (with_reducible exact Below.refl _ _) | (with_reducible refine Below.allocS ?_ _) | (with_reducible refine Below.moreS ?_ _) | (with_reducible refine Below.drew ?_) | (with_reducible refine below_drewN ?_ _))))).mono ?_); rintro e w' ⟨rfl, j, rfl⟩)
      all_goals first
        | (exfalso; omega)
        | (go_ret
           exact ⟨rfl, Below.junk (by repeat (first | (with_reducible exact Below.refl _ _) | (with_reducible refine Below.allocS ?_ _) | (with_reducible refine Below.moreS ?_ _) | (with_reducible refine Below.drew ?_) | (with_reducible refine below_drewN ?_ _)))⟩)
    · have g1 : (40 : Int) < l3.length := by omega
      go_enter Tryd.func3, Tryd.ntmps3
      go_wp2_with (go_at_call 6; (with_reducible refine (HAL.out _ (HF.out.below (by repeat (first | (with_reducible exact Below.refl _ _) | (with_reducible refine Below.allocS ?_ _) | (with_reducible refine Below.moreS ?_ _) | (with_reducible refine Below.drew ?_) | (with_reducible refine below_drewN ?_ _))))).mono ?_); rintro e w' ⟨rfl, j, rfl⟩)
      all_goals first
        | (exfalso; omega)
        | (go_ret
           exact ⟨rfl, Below.junk (by repeat (first | (with_reducible exact Below.refl _ _) | (with_reducible refine Below.allocS ?_ _) | (with_reducible refine Below.moreS ?_ _) | (with_reducible refine Below.drew ?_) | (with_reducible refine below_drewN ?_ _)))⟩)
  have g1 : ¬ (40 : Int) < l1.length := by omega
  have g2 : ¬ (40 : Int) < l2.length := by omega
  have g3 : ¬ (40 : Int) < l3.length := by omega
  have HU1 : Hid (UnAt l1 l2 (ofF (l1 ++ l2))) := unAt (by omega) (by omega) rfl
  have HU2 : Hid (UnAt l2 l1 (ofF (l1 ++ l2))) := unAt (by omega) (by omega) (un_comm l2 l1)
  have hL1 := ofF_len (l1 ++ l2)
  have HU3 : Hid (UnAt (ofF (l1 ++ l2)) l2 (ofF (l1 ++ l2))) := unAt (by simp at hL1; omega) (by omega) (un_twice l1 l2)
  have HU4 : Hid (UnAt (ofF (l1 ++ l2)) l3 (ofF (ofF (l1 ++ l2) ++ l3))) := unAt (by simp at hL1; omega) (by omega) rfl
  have HU5 : Hid (UnAt l2 l3 (ofF (l2 ++ l3))) := unAt (by omega) (by omega) rfl
  have hL5 := ofF_len (l2 ++ l3)
  have HU6 : Hid (UnAt l1 (ofF (l2 ++ l3)) (ofF (ofF (l1 ++ l2) ++ l3))) := unAt (by omega) (by simp at hL5; omega) (un_assoc l1 l2 l3).symm
  have hL4 := ofF_len (ofF (l1 ++ l2) ++ l3)
  have HS1 : Hid (SameAt (ofF (l1 ++ l2))) := sameAt (by simp at hL1; omega)
  have HS4 : Hid (SameAt (ofF (ofF (l1 ++ l2) ++ l3))) := sameAt (by simp at hL1 hL4; omega)
  generalize ofF (ofF (l1 ++ l2) ++ l3) = L4 at HU4 HU6 HS4
  generalize ofF (l1 ++ l2) = L1 at HU1 HU2 HU3 HU4 HS1
  generalize ofF (l2 ++ l3) = L5 at HU5 HU6
  clear hL1 hL4 hL5 g
  go_enter Tryd.func3, Tryd.ntmps3
  go_wp2_with fail
  refine (HU1.out _ _ _ _ _ H1.out H2.out).mono ?_
  rintro e w1 ⟨b1, c1, rfl, _, hs, hb⟩
  replace H1 := Lib.hid (SlFl.keep H1.out hb)
  replace H2 := Lib.hid (SlFl.keep H2.out hb)
  replace H3 := Lib.hid (SlFl.keep H3.out hb)
  have K1 := Lib.hid hs
  have HB1 := Lib.hid hb
  clear hs hb
  go_wp2_with fail
  refine (HU2.out _ _ _ _ _ H2.out H1.out).mono ?_
  rintro e w2 ⟨b2, c2, rfl, _, hs, hb⟩
  replace H1 := Lib.hid (SlFl.keep H1.out hb)
  replace H2 := Lib.hid (SlFl.keep H2.out hb)
  replace H3 := Lib.hid (SlFl.keep H3.out hb)
  replace K1 := Lib.hid (SlFl.keep K1.out hb)
  have K2 := Lib.hid hs
  have HB2 := Lib.hid (below_step HB1.out hb)
  clear hs hb
  go_wp2_with fail
  refine (HS1.out _ _ _ _ _ K1.out K2.out).mono ?_
  rintro e w3 ⟨rfl, j, rfl⟩
  replace H1 := Lib.hid (SlFl.keep H1.out (below_more _ j))
  replace H2 := Lib.hid (SlFl.keep H2.out (below_more _ j))
  replace H3 := Lib.hid (SlFl.keep H3.out (below_more _ j))
  replace K1 := Lib.hid (SlFl.keep K1.out (below_more _ j))
  have HB3 := Lib.hid (below_step HB2.out (below_more _ j))
  generalize w2.more j = w3 at *
  go_wp2_with fail
  refine (HU3.out _ _ _ _ _ K1.out H2.out).mono ?_
  rintro e w4 ⟨b4, c4, rfl, _, hs, hb⟩
  replace H1 := Lib.hid (SlFl.keep H1.out hb)
  replace H2 := Lib.hid (SlFl.keep H2.out hb)
  replace H3 := Lib.hid (SlFl.keep H3.out hb)
  replace K1 := Lib.hid (SlFl.keep K1.out hb)
  have K3 := Lib.hid hs
  have HB4 := Lib.hid (below_step HB3.out hb)
  clear hs hb
  go_wp2_with fail
  refine (HS1.out _ _ _ _ _ K3.out K1.out).mono ?_
  rintro e w5 ⟨rfl, j, rfl⟩
  replace H1 := Lib.hid (SlFl.keep H1.out (below_more _ j))
  replace H2 := Lib.hid (SlFl.keep H2.out (below_more _ j))
  replace H3 := Lib.hid (SlFl.keep H3.out (below_more _ j))
  replace K1 := Lib.hid (SlFl.keep K1.out (below_more _ j))
  have HB5 := Lib.hid (below_step HB4.out (below_more _ j))
  generalize w4.more j = w5 at *
  go_wp2_with fail
  refine (HU4.out _ _ _ _ _ K1.out H3.out).mono ?_
  rintro e w6 ⟨b6, c6, rfl, _, hs, hb⟩
  replace H1 := Lib.hid (SlFl.keep H1.out hb)
  replace H2 := Lib.hid (SlFl.keep H2.out hb)
  replace H3 := Lib.hid (SlFl.keep H3.out hb)
  have K4 := Lib.hid hs
  have HB6 := Lib.hid (below_step HB5.out hb)
  clear hs hb
  go_wp2_with fail
  refine (HU5.out _ _ _ _ _ H2.out H3.out).mono ?_
  rintro e w7 ⟨b7, c7, rfl, _, hs, hb⟩
  replace H1 := Lib.hid (SlFl.keep H1.out hb)
  replace K4 := Lib.hid (SlFl.keep K4.out hb)
  have K5 := Lib.hid hs
  have HB7 := Lib.hid (below_step HB6.out hb)
  clear hs hb
  go_wp2_with fail
  refine (HU6.out _ _ _ _ _ H1.out K5.out).mono ?_
  rintro e w8 ⟨b8, c8, rfl, _, hs, hb⟩
  replace K4 := Lib.hid (SlFl.keep K4.out hb)
  have K6 := Lib.hid hs
  have HB8 := Lib.hid (below_step HB7.out hb)
  clear hs hb
  go_wp2_with fail
  refine (HS4.out _ _ _ _ _ K4.out K6.out).mono ?_
  rintro e w9 ⟨rfl, j, rfl⟩
  have HB9 := Lib.hid (below_step HB8.out (below_more _ j))
  generalize w8.more j = w9 at *
  go_wp2_with fail
  refine (HAL.out _ (HF.out.below HB9.out)).mono ?_
  rintro e w10 ⟨rfl, j, rfl⟩
  have HB10 := Lib.hid (below_step HB9.out (below_more _ j))
  go_wp2_with fail
  go_ret
  exact ⟨rfl, HB10.out.junk⟩
end Go.Proofs.YtamklaehaadiaaaDoor
