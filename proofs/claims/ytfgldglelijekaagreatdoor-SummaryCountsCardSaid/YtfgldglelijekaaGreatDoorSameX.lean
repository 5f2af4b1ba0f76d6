/-
  Two rows of texts compared: the document's.
-/
import Derived.Test.YtfgldglelijekaaGreatDoorMa
import Derived.Deep.LoopGhost
import Derived.Deep.Draws
import Derived.BigGuardPart
namespace Go.Proofs.YtfgldglelijekaaGreatDoor
set_option linter.unusedSimpArgs false
set_option linter.unusedVariables false
set_option linter.unusedSectionVars false
open Go.ChangeShapes Go.WideShapes Go.ChangeAt Go.RowKit Go.Deep Go.Shelf

def sameX (a b : List (List UInt8)) : Bool := a == b
set_option maxHeartbeats 4000000 in
set_option maxRecDepth 100000 in
theorem ref04_Same (a b : Option Addr) (ca cb : Nat) (x y : List (List UInt8)) (w0 w : World) (hx : x.length ≤ 1048576) (hy : y.length ≤ 1048576) (hb : Below w0.heap.size w0 w) (hsx0 : SlX w0 w0.heap.size a x) (hsy0 : SlX w0 w0.heap.size b y) :
    Calls Tryz.prog 9 #[.slice a x.length ca, .slice b y.length cb] w fun e w' => e = .returned (.bool (sameX x y)) ∧ ∃ j, w' = w.more j := by
  have hsx := hsx0.below hb (Nat.le_refl _)
  have hsy := hsy0.below hb (Nat.le_refl _)
  have hz := hb.size
  clear hsx0 hsy0 hb
  by_cases hl : x.length = y.length
  case neg =>
    have HR : Hid (sameX x y = false) := by
      show (x == y) = false
      rw [beq_eq_false_iff_ne]
      exact fun h => hl (by rw [h])
    have h1 : ((x.length : Int) != y.length) = true := by rw [bne_iff_ne]; omega
    go_enter Tryz.func9, Tryz.ntmps9
    go_wp2_with fail
    go_ret
    exact ⟨ret1d (by rw [HR.out]; rfl), Below.junk (by repeat (first | (with_reducible exact Below.refl _ _) | (with_reducible refine Below.allocS ?_ _) | (with_reducible refine Below.moreS ?_ _) | (with_reducible refine Below.drew ?_) | (with_reducible refine below_drewN ?_ _)))⟩
  have h1 : ((x.length : Int) != y.length) = false := by rw [bne_eq_false_iff_eq]; omega
  have HA : Hid (sameX x y = sameX (x.drop 0) (y.drop 0)) := rfl
  have HL := Lib.hid hl
  have hlt0 : y.length ≤ x.length := by omega
  have hlt1 : x.length ≤ y.length := by omega
  clear hl
  go_enter Tryz.func9, Tryz.ntmps9
  go_wp2_with fail
  go_loopw [5] (fun i wr => ∃ k : Nat, k ≤ x.length ∧ i = .int .i64 k ∧ Hid (sameX x y = sameX (x.drop k) (y.drop k)) ∧ ∃ j, wr = w.more j) (fun i _ => x.length - (intOf i).toNat)
  case atStart => exact ⟨0, by omega, rfl, HA, Below.junk (by repeat (first | (with_reducible exact Below.refl _ _) | (with_reducible refine Below.allocS ?_ _) | (with_reducible refine Below.moreS ?_ _) | (with_reducible refine Below.drew ?_) | (with_reducible refine below_drewN ?_ _)))⟩
  case round =>
    clear HA
    obtain ⟨k, hk, rfl, HA, jr, rfl⟩ := hrel
    by_cases hlt : k < x.length
    · obtain ⟨bx, ox, rfl, hbx, cx, _⟩ := hsx.atX hlt
      obtain ⟨by_, oy, rfl, hby, cy, _⟩ := hsy.atX (show k < y.length by omega)
      have HD : Hid (sameX x y = ((x[k] == y[k]'(by omega)) && sameX (x.drop (k + 1)) (y.drop (k + 1)))) := by
        show _ = _
        rw [HA.out, List.drop_eq_getElem_cons hlt, List.drop_eq_getElem_cons (show k < y.length by omega)]
        rfl
      generalize x[k] = u at cx HD
      generalize y[k]'(by omega) = v at cy HD
      have hbx' : bx < w.heap.size := by omega
      have hby' : by_ < w.heap.size := by omega
      have i1 : (k : Int) < x.length := by omega
      have i2 : (k : Int) < y.length := by omega
      have i3 : (0 : Int) ≤ k := by omega
      cases huv : (u == v)
      all_goals
        have huv2 : (u != v) = !(u == v) := rfl
        rw [huv] at huv2
        simp only [Bool.not_true, Bool.not_false] at huv2
        go_wp2_with fail
        go_quiet (fail)
        go_wp2_with fail
      · go_ret
        exact ⟨ret1d (by rw [HD.out, huv]; rfl), Below.junk (by repeat (first | (with_reducible exact Below.refl _ _) | (with_reducible refine Below.allocS ?_ _) | (with_reducible refine Below.moreS ?_ _) | (with_reducible refine Below.drew ?_) | (with_reducible refine below_drewN ?_ _)))⟩
      · go_roundw
        case measure => simp [intOf]; omega
        case rel => exact ⟨k + 1, hlt, by go_num, HD.out.trans (by rw [huv, Bool.true_and]), Below.junk (by repeat (first | (with_reducible exact Below.refl _ _) | (with_reducible refine Below.allocS ?_ _) | (with_reducible refine Below.moreS ?_ _) | (with_reducible refine Below.drew ?_) | (with_reducible refine below_drewN ?_ _)))⟩
    · go_wp2_with fail
      go_ret
      refine ⟨ret1d ?_, Below.junk (by repeat (first | (with_reducible exact Below.refl _ _) | (with_reducible refine Below.allocS ?_ _) | (with_reducible refine Below.moreS ?_ _) | (with_reducible refine Below.drew ?_) | (with_reducible refine below_drewN ?_ _)))⟩
      rw [HA.out, List.drop_of_length_le (by omega), List.drop_of_length_le (by omega)]
      rfl
end Go.Proofs.YtfgldglelijekaaGreatDoor
