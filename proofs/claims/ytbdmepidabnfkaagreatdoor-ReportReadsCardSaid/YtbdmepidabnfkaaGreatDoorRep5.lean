/-
  Reports: which may be: the program's, whole.
-/
import Derived.Test.YtbdmepidabnfkaaGreatDoorRep4
namespace Go.Proofs.YtbdmepidabnfkaaGreatDoor
set_option linter.unusedSimpArgs false
set_option linter.unusedVariables false
set_option linter.unusedSectionVars false
open Go.ChangeShapes Go.WideShapes Go.ChangeAt Go.RowKit Go.Deep Go.Shelf

theorem rangeI_blk {w : World} {g : Nat} {t : TypeId} {cs : Array Value} (h : Blk w g t cs) (k : Nat) (xs : List Value) (hx : ∀ j v, xs[j]? = some v → cs[k + j]? = some v) : ∀ j v, xs[j]? = some v → w.cell? ⟨g, k + j, none⟩ = some v := fun j v hj => (h.cell (k + j)).trans (hx j v hj)
set_option maxHeartbeats 8000000 in
set_option maxRecDepth 100000 in
theorem report_Right (c0 c1 c2 c3 c4 c5 : Int) (a : Option Addr) (l : List Rec) (c : Nat) (v t : Int) (fa : Option Addr) (fs : List Fl) (fc : Nat) (ua : Option Addr) (us : List Int) (uc : Nat) (f0 f1 : Int) (hll : l.length ≤ 1000000) (hcap : l.length ≤ c) (hfl : fs.length ≤ 100000) (hul : us.length ≤ 100000) (m : Int) (w : World) (hM : w.cell? MaxA = some (.int .i64 m)) (hS : SlRc w w.heap.size a l) (hF : SlFl w w.heap.size fa fs) (hU : SlI w w.heap.size ua us) :
    Calls Tryz.prog 11 #[.agg #[.int .i64 c0, .int .i64 c1, .int .i64 c2, .int .i64 c3, .int .i64 c4, .int .i64 c5, .slice a l.length c, .int .i64 v, .int .i64 t, .slice fa fs.length fc, .slice ua us.length uc, .int .i64 f0, .int .i64 f1]] w fun e w' => e = .returned (.bool (rightD ⟨c0, c1, c2, c3, c4, c5, l, v, t, fs, us, f0, f1⟩)) ∧ ∃ j, w' = w.more j := by
  have HCF : Hid (∀ W, Calls Tryz.prog 26 #[.agg #[.int .i64 c0, .int .i64 c1, .int .i64 c2, .int .i64 c3, .int .i64 c4, .int .i64 c5]] W fun e w' => e = .returned (.bool (cfgR c0 c1 c2 c3 c4 c5)) ∧ ∃ j, w' = W.more j) := core_Right c0 c1 c2 c3 c4 c5
  have HCO : Hid (∀ W, Below w.heap.size w W → Calls Tryz.prog 27 #[.slice a l.length c, .func (.func 28) #[] #[]] W fun e w' => e = .returned (.bool (!l.all recR)) ∧ ∃ j, w' = W.more j) := fun W hW => containsNot2 a l c (by omega) W (SlRc.keep hS hW)
  have HAL : Hid (∀ W, Below w.heap.size w W → Calls Tryz.prog 30 #[.slice a l.length c] W fun e w' => e = .returned (.bool (l.all okK)) ∧ ∃ j, w' = W.more j) := fun W hW => report_allowed a l c (by omega) W (SlRc.keep hS hW)
  have HEN : Hid (v = 3 ∨ v = 4 → ∀ W, Below w.heap.size w W → Calls Tryz.prog 31 #[.agg #[.int .i64 c0, .int .i64 c1, .int .i64 c2, .int .i64 c3, .int .i64 c4, .int .i64 c5, .slice a l.length c, .int .i64 v, .int .i64 t, .slice fa fs.length fc, .slice ua us.length uc, .int .i64 f0, .int .i64 f1]] W fun e w' => e = .returned (.bool (endD2 l v t fs us f0 f1)) ∧ ∃ j, w' = W.more j) := fun hv W hW =>
    report_ended c0 c1 c2 c3 c4 c5 a l c v t fa fs fc ua us uc f0 f1 hv hll hcap hfl hul m W (max_keep hM hW) (SlRc.keep hS hW) (SlFl.keep hF hW) ((hU.below hW (Nat.le_refl _)).mono hW.size (fun _ _ _ h => h))
  have HND : Hid (noneD fs us = (decide ((fs.length : Int) = 0) && decide ((us.length : Int) = 0))) := by
    show _ = _
    unfold noneD
    cases fs <;> cases us <;> simp <;> omega
  unfold rightD
  simp only
  clear hM hS hF hU hll hcap hfl hul
  generalize cfgR c0 c1 c2 c3 c4 c5 = bc at HCF ⊢
  generalize l.all recR = br at HCO ⊢
  generalize l.all okK = bk at HAL ⊢
  generalize endD2 l v t fs us f0 f1 = be at HEN ⊢
  generalize noneD fs us = bn at HND ⊢
  generalize l.length = n at HCO HAL HEN ⊢
  generalize fs.length = nf at HEN HND ⊢
  generalize us.length = nu at HEN HND ⊢
  cases bc
  case false =>
    clear HCO HAL HEN HND
    simp only [Bool.false_and]
    go_enter Tryz.func11, Tryz.ntmps11
    go_wp2_with (go_at_call 26; (with_reducible refine (HCF.out _).mono ?_); rintro e w' ⟨rfl, j, rfl⟩)
    go_ret
    exact ⟨rfl, Below.junk (by repeat (first | (with_reducible exact Below.refl _ _) | (with_reducible refine Below.allocS ?_ _) | (with_reducible refine Below.moreS ?_ _) | (with_reducible refine Below.drew ?_) | (with_reducible refine below_drewN ?_ _)))⟩
  cases br
  case false =>
    clear HAL HEN HND
    simp only [Bool.true_and, Bool.false_and]
    go_enter Tryz.func11, Tryz.ntmps11
    go_wp2_with (first | (go_at_call 26; (with_reducible refine (HCF.out _).mono ?_); rintro e w' ⟨rfl, j, rfl⟩) | (go_at_call 27; (with_reducible refine (HCO.out _ (by repeat (first | (with_reducible exact Below.refl _ _) | (with_reducible refine Below.allocS ?_ _) | (with_reducible refine Below.moreS ?_ _) | (with_reducible refine Below.drew ?_) | (with_reducible refine below_drewN ?_ _)))).mono ?_); rintro e w' ⟨rfl, j, rfl⟩))
    go_ret
    exact ⟨rfl, Below.junk (by repeat (first | (with_reducible exact Below.refl _ _) | (with_reducible refine Below.allocS ?_ _) | (with_reducible refine Below.moreS ?_ _) | (with_reducible refine Below.drew ?_) | (with_reducible refine below_drewN ?_ _)))⟩
  simp only [Bool.true_and]
  by_cases hv1 : v = 1
  · subst hv1
    rw [if_pos rfl]
    clear HEN
    cases bk
    case false =>
      clear HND
      simp only [Bool.false_and]
      go_enter Tryz.func11, Tryz.ntmps11
      go_wp2_with (first | (go_at_call 26; (with_reducible refine (HCF.out _).mono ?_); rintro e w' ⟨rfl, j, rfl⟩) | (go_at_call 27; (with_reducible refine (HCO.out _ (by repeat (first | (with_reducible exact Below.refl _ _) | (with_reducible refine Below.allocS ?_ _) | (with_reducible refine Below.moreS ?_ _) | (with_reducible refine Below.drew ?_) | (with_reducible refine below_drewN ?_ _)))).mono ?_); rintro e w' ⟨rfl, j, rfl⟩) | (go_at_call 30; (with_reducible refine (HAL.out _ (by repeat (first | (with_reducible exact Below.refl _ _) | (with_reducible refine Below.allocS ?_ _) | (with_reducible refine Below.moreS ?_ _) | (with_reducible refine Below.drew ?_) | (with_reducible refine below_drewN ?_ _)))).mono ?_); rintro e w' ⟨rfl, j, rfl⟩))
      go_ret
      exact ⟨rfl, Below.junk (by repeat (first | (with_reducible exact Below.refl _ _) | (with_reducible refine Below.allocS ?_ _) | (with_reducible refine Below.moreS ?_ _) | (with_reducible refine Below.drew ?_) | (with_reducible refine below_drewN ?_ _)))⟩
    simp only [Bool.true_and]
    by_cases ht : t = (n : Int)
    rotate_left
    · have e1 : (t == (n : Int)) = false := by simpa using ht
      rw [decide_eq_false ht]
      simp only [Bool.false_and]
      clear HND
      go_enter Tryz.func11, Tryz.ntmps11
      go_wp2_with (first | (go_at_call 26; (with_reducible refine (HCF.out _).mono ?_); rintro e w' ⟨rfl, j, rfl⟩) | (go_at_call 27; (with_reducible refine (HCO.out _ (by repeat (first | (with_reducible exact Below.refl _ _) | (with_reducible refine Below.allocS ?_ _) | (with_reducible refine Below.moreS ?_ _) | (with_reducible refine Below.drew ?_) | (with_reducible refine below_drewN ?_ _)))).mono ?_); rintro e w' ⟨rfl, j, rfl⟩) | (go_at_call 30; (with_reducible refine (HAL.out _ (by repeat (first | (with_reducible exact Below.refl _ _) | (with_reducible refine Below.allocS ?_ _) | (with_reducible refine Below.moreS ?_ _) | (with_reducible refine Below.drew ?_) | (with_reducible refine below_drewN ?_ _)))).mono ?_); rintro e w' ⟨rfl, j, rfl⟩))
      go_ret
      exact ⟨rfl, Below.junk (by repeat (first | (with_reducible exact Below.refl _ _) | (with_reducible refine Below.allocS ?_ _) | (with_reducible refine Below.moreS ?_ _) | (with_reducible refine Below.drew ?_) | (with_reducible refine below_drewN ?_ _)))⟩
    have e1 : (t == (n : Int)) = true := by simpa using ht
    rw [decide_eq_true ht]
    simp only [Bool.true_and]
    clear ht
    have e4 : ((nf : Int) == 0) = decide ((nf : Int) = 0) := rfl
    have e5 : ((nu : Int) == 0) = decide ((nu : Int) = 0) := rfl
    cases g1 : decide ((nf : Int) = 0)
    case false =>
      have hb : bn = _ := HND.out
      rw [g1, Bool.false_and] at hb
      subst hb
      rw [g1] at e4
      clear HND g1 e5
      simp only [Bool.false_and]
      go_enter Tryz.func11, Tryz.ntmps11
      go_wp2_with (first | (go_at_call 26; (with_reducible refine (HCF.out _).mono ?_); rintro e w' ⟨rfl, j, rfl⟩) | (go_at_call 27; (with_reducible refine (HCO.out _ (by repeat (first | (with_reducible exact Below.refl _ _) | (with_reducible refine Below.allocS ?_ _) | (with_reducible refine Below.moreS ?_ _) | (with_reducible refine Below.drew ?_) | (with_reducible refine below_drewN ?_ _)))).mono ?_); rintro e w' ⟨rfl, j, rfl⟩) | (go_at_call 30; (with_reducible refine (HAL.out _ (by repeat (first | (with_reducible exact Below.refl _ _) | (with_reducible refine Below.allocS ?_ _) | (with_reducible refine Below.moreS ?_ _) | (with_reducible refine Below.drew ?_) | (with_reducible refine below_drewN ?_ _)))).mono ?_); rintro e w' ⟨rfl, j, rfl⟩))
      go_ret
      exact ⟨rfl, Below.junk (by repeat (first | (with_reducible exact Below.refl _ _) | (with_reducible refine Below.allocS ?_ _) | (with_reducible refine Below.moreS ?_ _) | (with_reducible refine Below.drew ?_) | (with_reducible refine below_drewN ?_ _)))⟩
    cases g2 : decide ((nu : Int) = 0)
    case false =>
      have hb : bn = _ := HND.out
      rw [g1, g2, Bool.true_and] at hb
      subst hb
      rw [g1] at e4
      rw [g2] at e5
      clear HND g1 g2
      simp only [Bool.false_and]
      go_enter Tryz.func11, Tryz.ntmps11
      go_wp2_with (first | (go_at_call 26; (with_reducible refine (HCF.out _).mono ?_); rintro e w' ⟨rfl, j, rfl⟩) | (go_at_call 27; (with_reducible refine (HCO.out _ (by repeat (first | (with_reducible exact Below.refl _ _) | (with_reducible refine Below.allocS ?_ _) | (with_reducible refine Below.moreS ?_ _) | (with_reducible refine Below.drew ?_) | (with_reducible refine below_drewN ?_ _)))).mono ?_); rintro e w' ⟨rfl, j, rfl⟩) | (go_at_call 30; (with_reducible refine (HAL.out _ (by repeat (first | (with_reducible exact Below.refl _ _) | (with_reducible refine Below.allocS ?_ _) | (with_reducible refine Below.moreS ?_ _) | (with_reducible refine Below.drew ?_) | (with_reducible refine below_drewN ?_ _)))).mono ?_); rintro e w' ⟨rfl, j, rfl⟩))
      go_ret
      exact ⟨rfl, Below.junk (by repeat (first | (with_reducible exact Below.refl _ _) | (with_reducible refine Below.allocS ?_ _) | (with_reducible refine Below.moreS ?_ _) | (with_reducible refine Below.drew ?_) | (with_reducible refine below_drewN ?_ _)))⟩
    have hb : bn = _ := HND.out
    rw [g1, g2, Bool.true_and] at hb
    subst hb
    rw [g1] at e4
    rw [g2] at e5
    clear HND g1 g2
    simp only [Bool.true_and]
    go_enter Tryz.func11, Tryz.ntmps11
    go_wp2_with (first | (go_at_call 26; (with_reducible refine (HCF.out _).mono ?_); rintro e w' ⟨rfl, j, rfl⟩) | (go_at_call 27; (with_reducible refine (HCO.out _ (by repeat (first | (with_reducible exact Below.refl _ _) | (with_reducible refine Below.allocS ?_ _) | (with_reducible refine Below.moreS ?_ _) | (with_reducible refine Below.drew ?_) | (with_reducible refine below_drewN ?_ _)))).mono ?_); rintro e w' ⟨rfl, j, rfl⟩) | (go_at_call 30; (with_reducible refine (HAL.out _ (by repeat (first | (with_reducible exact Below.refl _ _) | (with_reducible refine Below.allocS ?_ _) | (with_reducible refine Below.moreS ?_ _) | (with_reducible refine Below.drew ?_) | (with_reducible refine below_drewN ?_ _)))).mono ?_); rintro e w' ⟨rfl, j, rfl⟩))
    go_ret
    exact ⟨rfl, Below.junk (by repeat (first | (with_reducible exact Below.refl _ _) | (with_reducible refine Below.allocS ?_ _) | (with_reducible refine Below.moreS ?_ _) | (with_reducible refine Below.drew ?_) | (with_reducible refine below_drewN ?_ _)))⟩
  rw [if_neg hv1]
  have e1 : (v == 1) = false := by simpa using hv1
  clear HAL HND
  by_cases hv3 : v = 3
  · subst hv3
    have HEN2 := Lib.hid (HEN.out (.inl rfl))
    rw [if_pos (.inl rfl)]
    clear HEN
    go_enter Tryz.func11, Tryz.ntmps11
    go_wp2_with (first | (go_at_call 26; (with_reducible refine (HCF.out _).mono ?_); rintro e w' ⟨rfl, j, rfl⟩) | (go_at_call 27; (with_reducible refine (HCO.out _ (by repeat (first | (with_reducible exact Below.refl _ _) | (with_reducible refine Below.allocS ?_ _) | (with_reducible refine Below.moreS ?_ _) | (with_reducible refine Below.drew ?_) | (with_reducible refine below_drewN ?_ _)))).mono ?_); rintro e w' ⟨rfl, j, rfl⟩) | (go_at_call 31; (with_reducible refine (HEN2.out _ (by repeat (first | (with_reducible exact Below.refl _ _) | (with_reducible refine Below.allocS ?_ _) | (with_reducible refine Below.moreS ?_ _) | (with_reducible refine Below.drew ?_) | (with_reducible refine below_drewN ?_ _)))).mono ?_); rintro e w' ⟨rfl, j, rfl⟩))
    go_ret
    exact ⟨rfl, Below.junk (by repeat (first | (with_reducible exact Below.refl _ _) | (with_reducible refine Below.allocS ?_ _) | (with_reducible refine Below.moreS ?_ _) | (with_reducible refine Below.drew ?_) | (with_reducible refine below_drewN ?_ _)))⟩
  by_cases hv4 : v = 4
  · subst hv4
    have HEN2 := Lib.hid (HEN.out (.inr rfl))
    rw [if_pos (.inr rfl)]
    clear HEN
    go_enter Tryz.func11, Tryz.ntmps11
    go_wp2_with (first | (go_at_call 26; (with_reducible refine (HCF.out _).mono ?_); rintro e w' ⟨rfl, j, rfl⟩) | (go_at_call 27; (with_reducible refine (HCO.out _ (by repeat (first | (with_reducible exact Below.refl _ _) | (with_reducible refine Below.allocS ?_ _) | (with_reducible refine Below.moreS ?_ _) | (with_reducible refine Below.drew ?_) | (with_reducible refine below_drewN ?_ _)))).mono ?_); rintro e w' ⟨rfl, j, rfl⟩) | (go_at_call 31; (with_reducible refine (HEN2.out _ (by repeat (first | (with_reducible exact Below.refl _ _) | (with_reducible refine Below.allocS ?_ _) | (with_reducible refine Below.moreS ?_ _) | (with_reducible refine Below.drew ?_) | (with_reducible refine below_drewN ?_ _)))).mono ?_); rintro e w' ⟨rfl, j, rfl⟩))
    go_ret
    exact ⟨rfl, Below.junk (by repeat (first | (with_reducible exact Below.refl _ _) | (with_reducible refine Below.allocS ?_ _) | (with_reducible refine Below.moreS ?_ _) | (with_reducible refine Below.drew ?_) | (with_reducible refine below_drewN ?_ _)))⟩
  rw [if_neg (by omega)]
  have e3 : (v == 3) = false := by simpa using hv3
  have e4 : (v == 4) = false := by simpa using hv4
  clear HEN
  go_enter Tryz.func11, Tryz.ntmps11
  go_wp2_with (first | (go_at_call 26; (with_reducible refine (HCF.out _).mono ?_); rintro e w' ⟨rfl, j, rfl⟩) | (go_at_call 27; (with_reducible refine (HCO.out _ (by repeat (first | (with_reducible exact Below.refl _ _) | (with_reducible refine Below.allocS ?_ _) | (with_reducible refine Below.moreS ?_ _) | (with_reducible refine Below.drew ?_) | (with_reducible refine below_drewN ?_ _)))).mono ?_); rintro e w' ⟨rfl, j, rfl⟩))
  go_ret
  exact ⟨rfl, Below.junk (by repeat (first | (with_reducible exact Below.refl _ _) | (with_reducible refine Below.allocS ?_ _) | (with_reducible refine Below.moreS ?_ _) | (with_reducible refine Below.drew ?_) | (with_reducible refine below_drewN ?_ _)))⟩
end Go.Proofs.YtbdmepidabnfkaaGreatDoor
