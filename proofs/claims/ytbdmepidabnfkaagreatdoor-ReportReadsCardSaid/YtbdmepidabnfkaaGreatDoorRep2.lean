/-
  Reports: which may be: the program's parts.
-/
import Derived.Test.YtbdmepidabnfkaaGreatDoorRep1
import Derived.Test.YtbdmepidabnfkaaGreatDoorMh
import Derived.Test.YtbdmepidabnfkaaGreatDoorMj
import Derived.Test.YtbdmepidabnfkaaGreatDoorMb
namespace Go.Proofs.YtbdmepidabnfkaaGreatDoor
set_option linter.unusedSimpArgs false
set_option linter.unusedVariables false
set_option linter.unusedSectionVars false
open Go.ChangeShapes Go.WideShapes Go.ChangeAt Go.RowKit Go.Deep Go.Shelf

abbrev RpT : TypeId := 29
theorem st_Rp : StructTy Tryz.prog RpT 13 := ⟨_, Tryz.underlying29, rfl, by kernel_rfl⟩
set_option maxRecDepth 100000 in
theorem allowed1 (a b c d e f : Int) (w : World) : Calls Tryz.prog 73 #[.agg #[.int .i64 a, .int .i64 b, .int .i64 c, .int .i64 d, .int .i64 e, .int .i64 f]] w fun x w' => x = .returned (.bool (!okK ⟨a, b, c, d, e, f⟩)) ∧ ∃ j, w' = w.more j := by
  unfold okK
  by_cases h1 : f = 1
  · subst h1
    go_enter Tryz.func73, Tryz.ntmps73
    go_wp2_with fail
    go_ret
    exact ⟨rfl, Below.junk (by repeat (first | (with_reducible exact Below.refl _ _) | (with_reducible refine Below.allocS ?_ _) | (with_reducible refine Below.moreS ?_ _) | (with_reducible refine Below.drew ?_) | (with_reducible refine below_drewN ?_ _)))⟩
  · have e1 : (f == 1) = false := by simpa using h1
    have e2 : (f != 1) = true := by simpa using h1
    by_cases h2 : f = 2
    · subst h2
      clear h1 e1 e2
      go_enter Tryz.func73, Tryz.ntmps73
      go_wp2_with fail
      go_ret
      exact ⟨rfl, Below.junk (by repeat (first | (with_reducible exact Below.refl _ _) | (with_reducible refine Below.allocS ?_ _) | (with_reducible refine Below.moreS ?_ _) | (with_reducible refine Below.drew ?_) | (with_reducible refine below_drewN ?_ _)))⟩
    · have e3 : (f == 2) = false := by simpa using h2
      have e4 : (f != 2) = true := by simpa using h2
      rw [decide_eq_false h1, decide_eq_false h2]
      go_enter Tryz.func73, Tryz.ntmps73
      go_wp2_with fail
      go_ret
      exact ⟨rfl, Below.junk (by repeat (first | (with_reducible exact Below.refl _ _) | (with_reducible refine Below.allocS ?_ _) | (with_reducible refine Below.moreS ?_ _) | (with_reducible refine Below.drew ?_) | (with_reducible refine below_drewN ?_ _)))⟩
set_option maxRecDepth 100000 in
theorem right1 (a b c d e f : Int) (w : World) : Calls Tryz.prog 28 #[.agg #[.int .i64 a, .int .i64 b, .int .i64 c, .int .i64 d, .int .i64 e, .int .i64 f]] w fun x w' => x = .returned (.bool (!recR ⟨a, b, c, d, e, f⟩)) ∧ ∃ j, w' = w.more j := by
  have HR : Hid (∀ W, Calls Tryz.prog 29 #[.agg #[.int .i64 a, .int .i64 b, .int .i64 c, .int .i64 d, .int .i64 e, .int .i64 f]] W fun x w' => x = .returned (.bool (recR ⟨a, b, c, d, e, f⟩)) ∧ ∃ j, w' = W.more j) := record_Right a b c d e f
  generalize recR ⟨a, b, c, d, e, f⟩ = r at HR ⊢
  go_enter Tryz.func28, Tryz.ntmps28
  go_wp2_with (go_at_call 29; (with_reducible refine (HR.out _).mono ?_); rintro e w' ⟨rfl, j, rfl⟩)
  go_ret
  exact ⟨rfl, Below.junk (by repeat (first | (with_reducible exact Below.refl _ _) | (with_reducible refine Below.allocS ?_ _) | (with_reducible refine Below.moreS ?_ _) | (with_reducible refine Below.drew ?_) | (with_reducible refine below_drewN ?_ _)))⟩
theorem any_not (l : List Rec) (p : Rec → Bool) : l.any (fun x => !p x) = !l.all p := by
  induction l with
  | nil => rfl
  | cons x r ih => simp only [List.any_cons, List.all_cons, ih, Bool.not_and]
theorem containsNot1 (a : Option Addr) (l : List Rec) (cap : Nat) (hl : l.length ≤ 1048576) (w : World) (hS : SlRc w w.heap.size a l) :
    Calls Tryz.prog 27 #[.slice a l.length cap, .func (.func 73) #[] #[]] w fun e w' => e = .returned (.bool (!l.all okK)) ∧ ∃ j, w' = w.more j := by
  have := slices_ContainsFuncRc 73 (fun x => !okK x) (enters_of Tryz.func73 (by kernel_rfl) rfl) allowed1 a l cap hl w hS
  rw [any_not] at this
  exact this
theorem containsNot2 (a : Option Addr) (l : List Rec) (cap : Nat) (hl : l.length ≤ 1048576) (w : World) (hS : SlRc w w.heap.size a l) :
    Calls Tryz.prog 27 #[.slice a l.length cap, .func (.func 28) #[] #[]] w fun e w' => e = .returned (.bool (!l.all recR)) ∧ ∃ j, w' = w.more j := by
  have := slices_ContainsFuncRc 28 (fun x => !recR x) (enters_of Tryz.func28 (by kernel_rfl) rfl) right1 a l cap hl w hS
  rw [any_not] at this
  exact this
set_option maxRecDepth 100000 in
theorem report_allowed (a : Option Addr) (l : List Rec) (cap : Nat) (hl : l.length ≤ 1048576) (w : World) (hS : SlRc w w.heap.size a l) :
    Calls Tryz.prog 30 #[.slice a l.length cap] w fun e w' => e = .returned (.bool (l.all okK)) ∧ ∃ j, w' = w.more j := by
  have HC := Lib.hid (containsNot1 a l cap hl w hS)
  generalize l.all okK = r at HC ⊢
  clear hS
  go_enter Tryz.func30, Tryz.ntmps30
  go_wp2_with (go_at_call 27; refine HC.out.mono ?_; rintro e w' ⟨rfl, j, rfl⟩)
  go_ret
  exact ⟨by simp, _, rfl⟩
set_option maxHeartbeats 4000000 in
set_option maxRecDepth 100000 in
theorem slices_EqualI (a b : Option Addr) (l m : List Int) (cap cap2 : Nat) (hl : l.length ≤ 1048576) (hm : m.length ≤ 1048576) (w : World) (hS : SlI w w.heap.size a l) (hS2 : SlI w w.heap.size b m) :
    Calls Tryz.prog 18 #[.slice a l.length cap, .slice b m.length cap2] w fun e w' => e = .returned (.bool (decide (l = m))) ∧ ∃ j, w' = w.more j := by
  obtain ⟨R, hR⟩ : ∃ R, R = decide (l = m) := ⟨_, rfl⟩
  rw [← hR]
  have HR := Lib.hid hR
  have HS := Lib.hid hS
  have HS2 := Lib.hid hS2
  clear hS hS2 hR
  by_cases hlen : l.length = m.length
  rotate_left
  · have hR2 : R = false := by rw [HR.out, decide_eq_false_iff_not]; exact fun h => hlen (by rw [h])
    subst hR2
    have hli : (l.length : Int) ≠ m.length := by omega
    have e0 : ((l.length : Int) != (m.length : Int)) = true := by simpa using hli
    have e1 : ((l.length : Int) == (m.length : Int)) = false := by simpa using hli
    clear HR
    go_enter Tryz.func18, Tryz.ntmps18
    go_wp2_with fail
    go_ret
    exact ⟨rfl, Below.junk (by repeat (first | (with_reducible exact Below.refl _ _) | (with_reducible refine Below.allocS ?_ _) | (with_reducible refine Below.moreS ?_ _) | (with_reducible refine Below.drew ?_) | (with_reducible refine below_drewN ?_ _)))⟩
  have HL := Lib.hid hlen
  rw [← hlen]
  clear hm hlen
  go_enter Tryz.func18, Tryz.ntmps18
  go_wp2_with fail
  go_loopg [13] l.length (fun g i wr => ∃ k q : Nat, k + g = l.length ∧ i = .int .i64 k ∧ wr = w.drewN q ∧ Hid (R = decide (l.drop k = m.drop k)))
  case atStart => exact ⟨0, 0, by omega, rfl, rfl, HR⟩
  case round =>
    obtain ⟨k, q, hkg, rfl, rfl, HU⟩ := hrel
    have HK := Lib.hid hkg
    clear hkg
    by_cases hlt : k < l.length
    · have hlt2 : k < m.length := by rw [← HL.out]; exact hlt
      obtain ⟨b1, off1, ha, hbb, c0⟩ := SlR.atI HS.out hlt
      obtain ⟨b2, off2, ha2, hbb2, d0⟩ := SlR.atI HS2.out hlt2
      subst ha ha2
      have hd : l.drop k = l[k] :: l.drop (k + 1) := List.drop_eq_getElem_cons hlt
      have hd2 : m.drop k = m[k] :: m.drop (k + 1) := List.drop_eq_getElem_cons hlt2
      have HF : Hid (l[k] ≠ m[k] → R = false) := fun h => by rw [HU.out, hd, hd2, decide_eq_false_iff_not]; exact fun e => h (List.cons.inj e).1
      have HT : Hid (l[k] = m[k] → R = decide (l.drop (k + 1) = m.drop (k + 1))) := fun h => by rw [HU.out, decide_eq_decide, hd, hd2, h]; exact ⟨fun e => (List.cons.inj e).2, fun e => by rw [e]⟩
      clear hd hd2 HU
      generalize l[k] = x at c0 HT HF
      generalize m[k] = y at d0 HT HF
      have hltm : (k : Int) < (m.length : Int) := by omega
      cases e : (x == y)
      · have hR2 := HF.out (by simpa using e)
        have e2 : (x != y) = true := by unfold bne; rw [e]; rfl
        subst hR2
        clear HT HF
        go_wp2_with fail
        go_quiet (fail)
        go_wp2_with fail
        go_ret
        exact ⟨rfl, Below.junk (below_drewN (by repeat (first | (with_reducible exact Below.refl _ _) | (with_reducible refine Below.allocS ?_ _) | (with_reducible refine Below.moreS ?_ _) | (with_reducible refine Below.drew ?_) | (with_reducible refine below_drewN ?_ _))) _)⟩
      · have HU2 := Lib.hid (HT.out (by simpa using e))
        have e2 : (x != y) = false := by unfold bne; rw [e]; rfl
        clear HT HF
        go_wp2_with fail
        go_quiet (fail)
        go_wp2_with fail
        go_roundg (l.length - (k + 1))
        case measure => have := HK.out; omega
        case rel => exact ⟨k + 1, _, by have := HK.out; omega, by go_num, rfl, HU2⟩
    · have hR2 : R = true := by rw [HU.out, List.drop_of_length_le (by omega), List.drop_of_length_le (by rw [← HL.out]; omega)]; simp
      subst hR2
      clear HU
      go_wp2_with fail
      go_ret
      exact ⟨rfl, Below.junk (below_drewN (by repeat (first | (with_reducible exact Below.refl _ _) | (with_reducible refine Below.allocS ?_ _) | (with_reducible refine Below.moreS ?_ _) | (with_reducible refine Below.drew ?_) | (with_reducible refine below_drewN ?_ _))) _)⟩
end Go.Proofs.YtbdmepidabnfkaaGreatDoor
