/-
  Two rows of numbers compared: the document's.
-/
import Derived.Test.YthbflllflnnipaaGreatDoorMa
import Derived.Deep.LoopGhost
import Derived.Deep.Draws
import Derived.BigGuardPart
namespace Go.Proofs.YthbflllflnnipaaGreatDoor
set_option linter.unusedSimpArgs false
set_option linter.unusedVariables false
set_option linter.unusedSectionVars false
open Go.ChangeShapes Go.WideShapes Go.ChangeAt Go.RowKit Go.Deep

def sameI (a b : List Int) : Bool := a == b
set_option maxHeartbeats 4000000 in
set_option maxRecDepth 100000 in
theorem ref03_Same (a a' : Option Addr) (cap cap' : Nat) (l l' : List Int) (w0 w : World) (hm : l.length ≤ 1048576) (hm' : l'.length ≤ 1048576) (hb : Below w0.heap.size w0 w) (hs0 : SlI w0 w0.heap.size a l) (hs0' : SlI w0 w0.heap.size a' l') :
    Calls Tryz.prog 36 #[.slice a l.length cap, .slice a' l'.length cap'] w fun e w' => e = .returned (.bool (sameI l l')) ∧ ∃ j, w' = w.more j := by
  have hs := hs0.below hb (Nat.le_refl _)
  have hs' := hs0'.below hb (Nat.le_refl _)
  have hz := hb.size
  clear hb hs0 hs0'
  cases hne : ((l.length : Int) == (l'.length : Int)) with
  | false =>
    have hn2 : ((l.length : Int) != (l'.length : Int)) = true := by unfold bne; rw [hne]; rfl
    have hR : sameI l l' = false := by
      cases h : sameI l l' with
      | false => rfl
      | true => have : l = l' := by simpa [sameI] using h
                subst this; simp at hne
    rw [hR]
    go_enter Tryz.func36, Tryz.ntmps36
    go_wp2_with fail
    go_ret
    exact ⟨rfl, Below.junk (by repeat (first | (with_reducible exact Below.refl _ _) | (with_reducible refine Below.allocS ?_ _) | (with_reducible refine Below.moreS ?_ _) | (with_reducible refine Below.drew ?_) | (with_reducible refine below_drewN ?_ _)))⟩
  | true =>
    have hn2 : ((l.length : Int) != (l'.length : Int)) = false := by unfold bne; rw [hne]; rfl
    have hll : l.length = l'.length := by rw [beq_iff_eq] at hne; omega
    have HL := Lib.hid hll
    clear hll
    have HS : Hid (∀ k (h : k < l.length) (h' : k < l'.length), ¬ l[k] = l'[k] → sameI l l' = false) := fun k h h' hd => by
      cases hq : sameI l l' with
      | false => rfl
      | true => have : l = l' := by simpa [sameI] using hq
                subst this; exact absurd rfl hd
    have HT : Hid ((∀ k (h : k < l.length) (h' : k < l'.length), l[k] = l'[k]) → sameI l l' = true) := fun h => by
      have : l = l' := List.ext_getElem HL.out h
      simp [sameI, this]
    generalize sameI l l' = R at HS HT ⊢
    go_enter Tryz.func36, Tryz.ntmps36
    go_wp2_with fail
    go_loopw [5] (fun i wr => ∃ k : Nat, k ≤ l.length ∧ i = .int .i64 k ∧ (∃ j, wr = w.more j) ∧ Hid (∀ q (h : q < l.length) (h' : q < l'.length), q < k → l[q] = l'[q])) (fun i _ => l.length - (intOf i).toNat)
    case atStart => exact ⟨0, by omega, rfl, ⟨_, more_self w⟩, fun q _ _ h => absurd h (by omega)⟩
    case round =>
      obtain ⟨k, hk, rfl, ⟨j, rfl⟩, HQ⟩ := hrel
      by_cases hlt : k < l.length
      · have hlt' : k < l'.length := by have := HL.out; omega
        obtain ⟨b, off, rfl, hb, c0⟩ := hs.atI hlt
        obtain ⟨b', off', rfl, hb', c0'⟩ := hs'.atI hlt'
        have HD := Lib.hid (HS.out k hlt hlt')
        have HE : Hid (l[k] = l'[k] → ∀ q (h : q < l.length) (h' : q < l'.length), q < k + 1 → l[q] = l'[q]) := fun he q h h' hq => by
          by_cases hqk : q = k
          · subst hqk; exact he
          · exact HQ.out q h h' (by omega)
        clear HS HQ HT
        obtain ⟨x, ex⟩ : ∃ x, l[k] = x := ⟨_, rfl⟩
        obtain ⟨y, ey⟩ : ∃ y, l'[k] = y := ⟨_, rfl⟩
        rw [ex] at c0
        rw [ey] at c0'
        rw [ex, ey] at HD HE
        clear ex ey
        cases hq : (x == y)
        · have hq2 : (x != y) = true := by unfold bne; rw [hq]; rfl
          have hR := HD.out (by simpa using hq)
          subst hR
          have d0 : (w.more j).cell? ⟨b, off + k, none⟩ = some (.int .i64 x) := by rw [World.cell?_more _ _ _ (by omega)]; exact c0
          have d1 : (w.more j).cell? ⟨b', off' + k, none⟩ = some (.int .i64 y) := by rw [World.cell?_more _ _ _ (by omega)]; exact c0'
          have i1 : (k : Int) < l.length := by omega
          have i2 : (k : Int) < l'.length := by omega
          go_wp2_with fail
          go_quiet (fail)
          go_wp2_with fail
          go_ret
          exact ⟨rfl, Below.junk (by repeat (first | (with_reducible exact Below.refl _ _) | (with_reducible refine Below.allocS ?_ _) | (with_reducible refine Below.moreS ?_ _) | (with_reducible refine Below.drew ?_) | (with_reducible refine below_drewN ?_ _)))⟩
        · have hq2 : (x != y) = false := by unfold bne; rw [hq]; rfl
          have HE2 := Lib.hid (HE.out (by simpa using hq))
          have d0 : (w.more j).cell? ⟨b, off + k, none⟩ = some (.int .i64 x) := by rw [World.cell?_more _ _ _ (by omega)]; exact c0
          have d1 : (w.more j).cell? ⟨b', off' + k, none⟩ = some (.int .i64 y) := by rw [World.cell?_more _ _ _ (by omega)]; exact c0'
          have i1 : (k : Int) < l.length := by omega
          have i2 : (k : Int) < l'.length := by omega
          clear HE
          go_wp2_with fail
          go_quiet (fail)
          go_wp2_with fail
          go_roundw
          case rel => exact ⟨k + 1, hlt, by go_num, Below.junk (by repeat (first | (with_reducible exact Below.refl _ _) | (with_reducible refine Below.allocS ?_ _) | (with_reducible refine Below.moreS ?_ _) | (with_reducible refine Below.drew ?_) | (with_reducible refine below_drewN ?_ _))), HE2.out⟩
          case measure => simp [intOf]; omega
      · have hR := HT.out (fun q h h' => HQ.out q h h' (by omega))
        subst hR
        clear HS HT HQ
        go_wp2_with fail
        go_ret
        exact ⟨rfl, Below.junk (by repeat (first | (with_reducible exact Below.refl _ _) | (with_reducible refine Below.allocS ?_ _) | (with_reducible refine Below.moreS ?_ _) | (with_reducible refine Below.drew ?_) | (with_reducible refine below_drewN ?_ _)))⟩
end Go.Proofs.YthbflllflnnipaaGreatDoor
