/-
  Pings: the document's two lists of bytes held against each other; rows of such.
-/
import Derived.Test.YtngnjlidfhenkaaPng9
import Derived.Test.YtngnjlidfhenkaaOwn
import Derived.Deep.LoopGhost
namespace Go.Proofs.Ytngnjlidfhenkaa
set_option linter.unusedSimpArgs false
set_option linter.unusedVariables false
set_option linter.unusedSectionVars false
open Go.ChangeShapes Go.WideShapes Go.ChangeAt Go.RowKit Go.Deep Go.ChangeMaps

set_option maxHeartbeats 4000000 in
set_option maxRecDepth 100000 in
theorem ref01_Same (a b : Option Addr) (k l : List UInt8) (ca cb : Nat) (hk : k.length ≤ 100000) (hl : l.length ≤ 100000) (w : World) (hS : SlY w w.heap.size a k) (hT : SlY w w.heap.size b l) :
    Calls Try.prog 14 #[.slice a k.length ca, .slice b l.length cb] w fun e w' => e = .returned (.bool (decide (k = l))) ∧ ∃ j, w' = w.more j := by
  obtain ⟨R, hR⟩ : ∃ R, R = decide (k = l) := ⟨_, rfl⟩
  rw [← hR]
  have HS := Lib.hid hS
  have HT := Lib.hid hT
  by_cases hlen : k.length = l.length
  · have HR : Hid (R = decide (k.drop 0 = l.drop 0)) := hR
    have HL := Lib.hid hlen
    have hne : ((k.length : Int) != l.length) = false := by rw [hlen]; simp
    have hne2 : ((k.length : Int) == l.length) = true := by rw [hlen]; simp
    clear hS hT hR hlen
    go_enter Try.func14, Try.ntmps14
    go_wp2_with fail
    go_loopg [5] k.length (fun g i wr => ∃ q : Nat, q + g = k.length ∧ i = .int .i64 q ∧ Hid (R = decide (k.drop q = l.drop q)) ∧ ∃ j, wr = w.more j)
    case atStart => exact ⟨0, by omega, rfl, HR, _, more_self _⟩
    case round =>
      obtain ⟨q, hqg, rfl, HU, j, rfl⟩ := hrel
      have HK := Lib.hid hqg
      clear hqg
      by_cases hlt : q < k.length
      · have hlt2 : q < l.length := by have := HL.out; omega
        obtain ⟨g1, o1, ha, hg1, c0⟩ := SlR.atY HS.out hlt
        obtain ⟨g2, o2, hb, hg2, d0⟩ := SlR.atY HT.out hlt2
        subst ha hb
        have HX : Hid (R = (decide (k[q] = l[q]) && decide (k.drop (q + 1) = l.drop (q + 1)))) := by
          show _ = _
          rw [HU.out, ← Bool.decide_and, decide_eq_decide, List.drop_eq_getElem_cons hlt, List.drop_eq_getElem_cons hlt2, List.cons.injEq]
        have he : (((k[q].toNat : Int) != (l[q].toNat : Int)) = !decide (k[q] = l[q])) := by
          by_cases h : k[q] = l[q]
          · rw [h]; simp
          · have h2 : ((k[q].toNat : Int) != (l[q].toNat : Int)) = true := by rw [bne_iff_ne]; intro e; exact h (UInt8.toNat_inj.1 (by omega))
            rw [h2, decide_eq_false h]; rfl
        have hlt' : (q : Int) < k.length := by omega
        have hlt2' : (q : Int) < l.length := by omega
        clear HU
        generalize k[q] = x at c0 he HX
        generalize l[q] = y at d0 he HX
        cases hxy : decide (x = y)
        · rw [hxy] at he HX
          have hR : R = false := HX.out
          subst hR
          have he2 : ((x.toNat : Int) == (y.toNat : Int)) = false := by simpa [bne] using he
          clear HX
          go_wp2_with fail
          refine wp_region_more (by kernel_rfl) (by kernel_rfl) ?_
          repeat (go_big_quiet_step (first | fail))
          refine wpQuiet_nil ?_
          intro w' hw'
          obtain ⟨j, rfl⟩ := hw'
          go_wp2_with fail
          go_ret
          exact ⟨rfl, Below.junk (by repeat (first | (with_reducible exact Below.refl _ _) | (with_reducible refine Below.allocS ?_ _) | (with_reducible refine Below.moreS ?_ _) | (with_reducible refine Below.drew ?_) | (with_reducible refine below_drewN ?_ _)))⟩
        · rw [hxy] at he HX
          have HU2 : Hid (R = decide (k.drop (q + 1) = l.drop (q + 1))) := by show _ = _; rw [HX.out]; rfl
          have he2 : ((x.toNat : Int) == (y.toNat : Int)) = true := by simpa [bne] using he
          clear HX
          go_wp2_with fail
          refine wp_region_more (by kernel_rfl) (by kernel_rfl) ?_
          repeat (go_big_quiet_step (first | fail))
          refine wpQuiet_nil ?_
          intro w' hw'
          obtain ⟨j, rfl⟩ := hw'
          go_wp2_with fail
          go_roundg (k.length - (q + 1))
          case measure => have := HK.out; omega
          case rel => exact ⟨q + 1, by have := HK.out; omega, by go_num, HU2, _, rfl⟩
      · have hR : R = true := by rw [HU.out, List.drop_of_length_le (by omega), List.drop_of_length_le (by have := HL.out; omega)]; simp
        subst hR
        have hlt' : ¬ (q : Int) < k.length := by omega
        clear HU
        go_wp2_with fail
        go_ret
        exact ⟨rfl, Below.junk (by repeat (first | (with_reducible exact Below.refl _ _) | (with_reducible refine Below.allocS ?_ _) | (with_reducible refine Below.moreS ?_ _) | (with_reducible refine Below.drew ?_) | (with_reducible refine below_drewN ?_ _)))⟩
  · have hR2 : R = false := by rw [hR, decide_eq_false]; intro e; exact hlen (by rw [e])
    subst hR2
    have hne : ((k.length : Int) != l.length) = true := by rw [bne_iff_ne]; omega
    have hne2 : ((k.length : Int) == l.length) = false := by rw [beq_eq_false_iff_ne]; omega
    clear hS hT hR
    go_enter Try.func14, Try.ntmps14
    go_wp2_with fail
    go_ret
    exact ⟨rfl, Below.junk (by repeat (first | (with_reducible exact Below.refl _ _) | (with_reducible refine Below.allocS ?_ _) | (with_reducible refine Below.moreS ?_ _) | (with_reducible refine Below.drew ?_) | (with_reducible refine below_drewN ?_ _)))⟩
end Go.Proofs.Ytngnjlidfhenkaa
