/-
  Faults: right ones, their order; neighbours that are the same are struck.
-/
import Derived.Test.YthbflllflnnipaaGreatDoorFlt1
import Derived.Deep.LoopGhost
import Derived.Deep.Draws
namespace Go.Proofs.YthbflllflnnipaaGreatDoor
set_option linter.unusedSimpArgs false
set_option linter.unusedVariables false
set_option linter.unusedSectionVars false
open Go.ChangeShapes Go.WideShapes Go.ChangeAt Go.RowKit Go.Deep Go.Shelf

set_option maxHeartbeats 2000000 in
set_option maxRecDepth 100000 in
theorem faults_Right (s c : Int) (w : World) : Calls Tryz.prog 102 #[.agg #[.int .i64 s, .int .i64 c]] w fun e w' => e = .returned (.bool (flR ⟨s, c⟩)) ∧ ∃ j, w' = w.more j := by
  have HR : Hid (flR ⟨s, c⟩ = ((s == 1 || s == 2) && (decide (0 ≤ c) && decide (c ≤ 4294967295)))) := by
    show _ = _
    unfold flR
    have h1 : decide (c < 4294967296) = decide (c ≤ 4294967295) := by rw [decide_eq_decide]; omega
    rw [h1]
    congr 1
  generalize flR ⟨s, c⟩ = R at HR ⊢
  cases h1 : (s == 1)
  · cases h2 : (s == 2)
    · have hR : R = false := by rw [HR.out, h1, h2]; rfl
      subst hR
      clear HR
      go_enter Tryz.func102, Tryz.ntmps102
      go_wp2_with fail
      go_ret
      exact ⟨rfl, Below.junk (by repeat (first | (with_reducible exact Below.refl _ _) | (with_reducible refine Below.allocS ?_ _) | (with_reducible refine Below.moreS ?_ _) | (with_reducible refine Below.drew ?_) | (with_reducible refine below_drewN ?_ _)))⟩
    · have hc : (0 ≤ c ∧ c ≤ 4294967295) ∨ (0 ≤ c ∧ ¬ c ≤ 4294967295) ∨ ¬ 0 ≤ c := by omega
      rcases hc with ⟨h3, h4⟩ | ⟨h3, h4⟩ | h3
      all_goals
        have hR : R = (decide (0 ≤ c) && decide (c ≤ 4294967295)) := by rw [HR.out, h1, h2]; rfl
        first | simp only [h3, h4, decide_true, decide_false, Bool.and_true, Bool.and_false, Bool.false_and] at hR | simp only [h3, decide_false, Bool.false_and] at hR
        subst hR
        clear HR
        obtain rfl : s = 2 := by simpa using h2
        clear h1 h2
        go_enter Tryz.func102, Tryz.ntmps102
        go_wp2_with fail
        go_ret
        exact ⟨rfl, Below.junk (by repeat (first | (with_reducible exact Below.refl _ _) | (with_reducible refine Below.allocS ?_ _) | (with_reducible refine Below.moreS ?_ _) | (with_reducible refine Below.drew ?_) | (with_reducible refine below_drewN ?_ _)))⟩
  · have hc : (0 ≤ c ∧ c ≤ 4294967295) ∨ (0 ≤ c ∧ ¬ c ≤ 4294967295) ∨ ¬ 0 ≤ c := by omega
    rcases hc with ⟨h3, h4⟩ | ⟨h3, h4⟩ | h3
    all_goals
      have hR : R = (decide (0 ≤ c) && decide (c ≤ 4294967295)) := by rw [HR.out, h1]; rfl
      first | simp only [h3, h4, decide_true, decide_false, Bool.and_true, Bool.and_false, Bool.false_and] at hR | simp only [h3, decide_false, Bool.false_and] at hR
      subst hR
      clear HR
      obtain rfl : s = 1 := by simpa using h1
      clear h1
      go_enter Tryz.func102, Tryz.ntmps102
      go_wp2_with fail
      go_ret
      exact ⟨rfl, Below.junk (by repeat (first | (with_reducible exact Below.refl _ _) | (with_reducible refine Below.allocS ?_ _) | (with_reducible refine Below.moreS ?_ _) | (with_reducible refine Below.drew ?_) | (with_reducible refine below_drewN ?_ _)))⟩

set_option maxHeartbeats 2000000 in
set_option maxRecDepth 100000 in
theorem faults_Less (a b c d : Int) (w : World) : Calls Tryz.prog 83 #[.agg #[.int .i64 a, .int .i64 b], .agg #[.int .i64 c, .int .i64 d]] w fun e w' => e = .returned (.bool (ltFl ⟨a, b⟩ ⟨c, d⟩)) ∧ ∃ j, w' = w.more j := by
  have HR : Hid (ltFl ⟨a, b⟩ ⟨c, d⟩ = if a = c then decide (b < d) else decide (a < c)) := rfl
  generalize ltFl ⟨a, b⟩ ⟨c, d⟩ = R at HR ⊢
  cases h1 : (a == c)
  · have h2 : (a != c) = true := by unfold bne; rw [h1]; rfl
    have hR : R = decide (a < c) := by rw [HR.out, if_neg (by simpa using h1)]
    subst hR
    clear HR
    go_enter Tryz.func83, Tryz.ntmps83
    go_wp2_with fail
    go_ret
    exact ⟨rfl, Below.junk (by repeat (first | (with_reducible exact Below.refl _ _) | (with_reducible refine Below.allocS ?_ _) | (with_reducible refine Below.moreS ?_ _) | (with_reducible refine Below.drew ?_) | (with_reducible refine below_drewN ?_ _)))⟩
  · obtain rfl : a = c := by simpa using h1
    have h2 : (a != a) = false := by simp
    have hR : R = decide (b < d) := by rw [HR.out, if_pos rfl]
    subst hR
    clear HR
    go_enter Tryz.func83, Tryz.ntmps83
    go_wp2_with fail
    go_ret
    exact ⟨rfl, Below.junk (by repeat (first | (with_reducible exact Below.refl _ _) | (with_reducible refine Below.allocS ?_ _) | (with_reducible refine Below.moreS ?_ _) | (with_reducible refine Below.drew ?_) | (with_reducible refine below_drewN ?_ _)))⟩
def cmpFl (x y : Fl) : Int := if x = y then 0 else if ltFl x y = true then -1 else 1
set_option maxHeartbeats 2000000 in
set_option maxRecDepth 100000 in
theorem faults_compare (x y : Fl) (w : World) : Calls Tryz.prog 104 #[.agg #[.int .i64 x.scope, .int .i64 x.code], .agg #[.int .i64 y.scope, .int .i64 y.code]] w fun e w' => e = .returned (.int .i64 (cmpFl x y)) ∧ ∃ j, w' = w.more j := by
  have HL : Hid (∀ W, Calls Tryz.prog 83 #[.agg #[.int .i64 x.scope, .int .i64 x.code], .agg #[.int .i64 y.scope, .int .i64 y.code]] W fun e w' => e = .returned (.bool (ltFl x y)) ∧ ∃ j, w' = W.more j) := faults_Less x.scope x.code y.scope y.code
  have HQ := fun W => fl_eql x y W
  have HR : Hid (cmpFl x y = if flEq x y = true then 0 else if ltFl x y = true then -1 else 1) := by show _ = _; unfold cmpFl flEq; simp
  generalize cmpFl x y = R at HR ⊢
  generalize flEq x y = q at HQ HR
  generalize ltFl x y = t at HL HR
  cases q <;> cases t
  all_goals
    have hR := HR.out
    simp only [Bool.false_eq_true, if_false, if_true] at hR
    subst hR
    clear HR
    go_enter Tryz.func104, Tryz.ntmps104
    go_wp2_with (go_at_call 83; (with_reducible refine (HL.out _).mono ?_); rintro e w' ⟨rfl, j, rfl⟩)
    go_ret
    exact ⟨rfl, Below.junk (by repeat (first | (with_reducible exact Below.refl _ _) | (with_reducible refine Below.allocS ?_ _) | (with_reducible refine Below.moreS ?_ _) | (with_reducible refine Below.drew ?_) | (with_reducible refine below_drewN ?_ _)))⟩

def CompPost (d : Array Fl) (g cap B : Nat) (w : World) (e : Ending) (w' : World) : Prop :=
  e = .returned (.slice (some ⟨g, 0, none⟩) (Lib.compactUpTo d d.size).length cap) ∧ (∃ d' : Array Fl, RowFl w' g d' ∧ d'.toList = Lib.compactUpTo d d.size) ∧ Below B w w'
theorem comp_done {d dk : Array Fl} {m k : Nat} (h : Lib.CompInv d m k dk) (hm : m ≤ d.size) : (dk.extract 0 k).toList = Lib.compactUpTo d m := by
  have hk : k ≤ dk.size := by have := h.lt; have := h.size; omega
  apply List.ext_getElem?
  intro i
  by_cases hi : i < k
  · rw [h.low i hi]
    have : i < dk.size := by omega
    simp [hi, this, getElem!_pos dk i this]
  · rw [List.getElem?_eq_none (by simp; omega), List.getElem?_eq_none (by rw [h.len]; omega)]

set_option maxHeartbeats 8000000 in
set_option maxRecDepth 100000 in
theorem compact_fl (g cap B : Nat) (d : Array Fl) (w : World) (hB : B ≤ g) (hg : g < w.heap.size) (hH : RowFl w g d) (hsz : d.size ≤ 1048576) (hcap : d.size ≤ cap) (hcap2 : cap ≤ 9223372036854775807) :
    Calls Tryz.prog 105 #[.slice (some ⟨g, 0, none⟩) d.size cap] w (CompPost d g cap B w) := by
  have same : ∀ W, RowFl W g d → Below B w W → (∀ j, j < d.size → Lib.keeps d j = true) → CompPost d g cap B w (.returned (.slice (some ⟨g, 0, none⟩) d.size cap)) W := fun W h1 h2 hall => by
    have e : Lib.compactUpTo d d.size = d.toList := by rw [Lib.compactUpTo_all d _ hall, Lib.range_map_get]
    exact ⟨by rw [e]; simp, ⟨d, h1, e.symm⟩, h2⟩
  have HS := Lib.hid same
  clear same
  have HG := Lib.hid hg
  have HBG := Lib.hid hB
  clear hB
  by_cases h2 : d.size < 2
  · have HH := Lib.hid hH
    clear hH
    go_enter Tryz.func105, Tryz.ntmps105
    go_wp2_with fail
    go_ret
    exact HS.out w HH.out (Below.refl _ _) (fun j hj => Lib.keeps_lt_one d j (by omega))
  · go_enter Tryz.func105, Tryz.ntmps105
    go_wp2_with fail
    have HH := Lib.hid hH
    have HCP := Lib.hid hcap
    clear hH
    go_loopg [3] d.size (fun gh s3 wr => ∃ k q : Nat, 1 ≤ k ∧ k ≤ d.size ∧ d.size - k ≤ gh ∧ s3 = .int .i64 k ∧ wr = w.drewN q ∧ Hid (∀ j, j < k → Lib.keeps d j = true))
    case atStart => exact ⟨1, 0, Nat.le_refl _, by omega, by omega, rfl, rfl, Lib.keeps_lt_one d⟩
    case round =>
      obtain ⟨k, q, hk1, hk, hgh, rfl, rfl, HA⟩ := hrel
      have HGH := Lib.hid hgh
      clear hgh
      by_cases hlt : k < d.size
      · obtain ⟨c0, c1, _, _⟩ := HH.out k hlt
        obtain ⟨p0, p1, _, _⟩ := HH.out (k - 1) (by omega)
        have HD : Hid (d[k]! = d[k - 1]! → Lib.keeps d k = false) := fun h => Lib.keeps_neg (by omega) h
        have HN : Hid (d[k]! ≠ d[k - 1]! → ∀ j, j < k + 1 → Lib.keeps d j = true) := fun h j hj => by
          by_cases e : j = k
          · subst e; exact Lib.keeps_pos h
          · exact HA.out j (by omega)
        generalize d[k]! = x at c0 c1 HD HN
        generalize d[k - 1]! = y at p0 p1 HD HN
        have HQ := fun W => fl_eql x y W
        have HE : Hid (flEq x y = true → x = y) := fun h => by simpa [flEq] using h
        have HF : Hid (flEq x y = false → x ≠ y) := fun h => by simpa [flEq] using h
        generalize flEq x y = b at HQ HE HF
        have s1 : IntKind.i64.wrap ((k : Int) - 1) = (k : Int) - 1 := IntWalk.i64_in _ (by omega)
        have s2 : (0 : Int) ≤ (k : Int) - 1 := by omega
        have s3 : ((k : Int) - 1).toNat = k - 1 := by omega
        have s4 : (k : Int) - 1 < d.size := by omega
        have s5 : (k : Int) < d.size := by omega
        cases b
        · have HAL := Lib.hid (HN.out (HF.out rfl))
          go_wp2_with fail
          go_quiet (fail)
          go_wp2_with fail
          go_roundg (d.size - (k + 1))
          case measure => have := HGH.out; omega
          case rel => exact ⟨k + 1, _, by omega, hlt, Nat.le_refl _, by go_num, rfl, HAL.out⟩
        · have HI0 : Hid (Lib.CompInv d (k + 1) k d) := Lib.CompInv.start HA.out (HD.out (HE.out rfl))
          have hkc : ¬ cap = k := by have := HCP.out; omega
          have hkc2 : (k : Int) ≤ cap := by have := HCP.out; omega
          have hkc3 : (k : Int) ≤ d.size := by omega
          clear HD HN HA HE HF
          go_wp2_with fail
          go_quiet (fail)
          go_wp2_with fail
          clear c0 c1 p0 p1 HQ
          go_loopg [3, 5] d.size (fun gh s3 s5 wr => ∃ (kk k2 : Nat) (dk : Array Fl), s3 = .int .i64 kk ∧ s5 = .int .i64 k2 ∧ 1 ≤ k2 ∧ k + k2 ≤ d.size ∧ d.size - (k + k2) ≤ gh ∧ kk < k + k2 ∧ dk.size = d.size ∧ Hid (RowFl wr g dk) ∧ Hid (Below B w wr) ∧ Hid (Lib.CompInv d (k + k2) kk dk))
          case atStart => exact ⟨k, 1, d, rfl, rfl, Nat.le_refl _, by omega, by omega, by omega, rfl, RowFl.drewN HH.out _, below_drewN (Below.refl _ _) _, HI0.out⟩
          case round =>
            obtain ⟨kk, k2, dk, rfl, rfl, h1, hle, hg2, hkk, hds, HR, HB, HI⟩ := hrel
            have HG2 := Lib.hid hg2
            have HDS := Lib.hid hds
            clear hg2 hds
            by_cases hlt2 : k + k2 < d.size
            · obtain ⟨m0, m1, _, _⟩ := HR.out (k + k2) (by rw [HDS.out]; omega)
              obtain ⟨o0, o1, _, _⟩ := HR.out (k + k2 - 1) (by rw [HDS.out]; omega)
              obtain ⟨t0, t1, t2, t3⟩ := HR.out kk (by rw [HDS.out]; omega)
              rw [HI.out.high (k + k2) (by omega), show (k + k2) * 2 = k * 2 + k2 * 2 by omega] at m0 m1
              rw [HI.out.high (k + k2 - 1) (by omega), show (k + k2 - 1) * 2 = k * 2 + (k2 - 1) * 2 by omega] at o0 o1
              have HSK : Hid (d[k + k2]! = d[k + k2 - 1]! → Lib.CompInv d (k + (k2 + 1)) kk dk) := fun h => HI.out.skip (Lib.keeps_neg (by omega) h)
              have HKP : Hid (d[k + k2]! ≠ d[k + k2 - 1]! → Lib.CompInv d (k + (k2 + 1)) (kk + 1) (dk.setIfInBounds kk d[k + k2]!)) := fun h => HI.out.keep hlt2 (Lib.keeps_pos h)
              generalize d[k + k2]! = u at m0 m1 HSK HKP
              generalize d[k + k2 - 1]! = v at o0 o1 HSK HKP
              generalize dk[kk]! = old at t0 t1
              have HQ := fun W => fl_neq u v W
              have HE : Hid (flEq u v = true → u = v) := fun h => by simpa [flEq] using h
              have HF : Hid (flEq u v = false → u ≠ v) := fun h => by simpa [flEq] using h
              generalize flEq u v = b at HQ HE HF
              have r1 : IntKind.i64.wrap ((k2 : Int) - 1) = (k2 : Int) - 1 := IntWalk.i64_in _ (by omega)
              have r2 : (0 : Int) ≤ (k2 : Int) - 1 := by omega
              have r3 : ((k2 : Int) - 1).toNat = k2 - 1 := by omega
              have r4 : (k2 : Int) - 1 < ((d.size - k : Nat) : Int) := by omega
              have r5 : (k2 : Int) < ((d.size - k : Nat) : Int) := by omega
              have r6 : (kk : Int) < d.size := by omega
              have r7 : (k2 : Int) < (d.size : Int) - k := by omega
              cases b
              · have HI2 := Lib.hid (HKP.out (HF.out rfl))
                clear HSK HKP HE HF
                go_wp2_with fail
                go_quiet (fail)
                go_wp2_with fail
                go_roundg (d.size - (k + (k2 + 1)))
                case measure => have := HG2.out; omega
                case rel => exact ⟨kk + 1, k2 + 1, _, by go_num, by go_num, by omega, by omega, Nat.le_refl _, by omega, by simpa using HDS.out, RowFl.set (RowFl.drewN HR.out _) (by rw [HDS.out]; omega) u, ((below_drewN HB.out _).setCell (p := ⟨g, kk * 2, none⟩) HBG.out _).setCell (p := ⟨g, kk * 2 + 1, none⟩) HBG.out _, HI2.out⟩
              · have HI2 := Lib.hid (HSK.out (HE.out rfl))
                clear HSK HKP HE HF
                go_wp2_with fail
                go_quiet (fail)
                go_wp2_with fail
                go_roundg (d.size - (k + (k2 + 1)))
                case measure => have := HG2.out; omega
                case rel => exact ⟨kk, k2 + 1, dk, rfl, by go_num, by omega, by omega, Nat.le_refl _, by omega, HDS.out, RowFl.drewN HR.out _, below_drewN HB.out _, HI2.out⟩
            · have hend : k + k2 = d.size := by omega
              have hcl := fun ty => run_clear_fl wr ty g kk (d.size - kk) (cap - kk) (by omega) (fun j hj => by
                obtain ⟨t0, t1, _, _⟩ := HR.out (kk + j / 2) (by rw [HDS.out]; omega)
                rcases Nat.mod_two_eq_zero_or_one j with e | e
                · rw [show kk * 2 + j = (kk + j / 2) * 2 by omega, t0]; rfl
                · rw [show kk * 2 + j = (kk + j / 2) * 2 + 1 by omega, t1]; rfl) (fun j hj => by
                obtain ⟨_, _, t2, t3⟩ := HR.out (kk + j / 2) (by rw [HDS.out]; omega)
                rcases Nat.mod_two_eq_zero_or_one j with e | e
                · rw [show kk * 2 + j = (kk + j / 2) * 2 by omega, t2]
                · rw [show kk * 2 + j = (kk + j / 2) * 2 + 1 by omega, t3])
              have hkk2 : ¬ cap = kk := by have := HCP.out; omega
              have hkk3 : (kk : Int) ≤ cap := by have := HCP.out; omega
              have hkk4 : (kk : Int) ≤ d.size := by omega
              have hk5 : ¬ (k2 : Int) < ((d.size - k : Nat) : Int) := by omega
              have hk6 : ¬ (k2 : Int) < (d.size : Int) - k := by omega
              have HEN := Lib.hid hend
              clear hend
              go_wp2_with fail
              go_ret
              have hI := HI.out
              rw [HEN.out] at hI
              refine ⟨by rw [hI.len]; rfl, ⟨dk.extract 0 kk, RowFl.clear HR.out _, comp_done hI (Nat.le_refl _)⟩, below_setCells B g _ _ w wr HB.out HBG.out⟩
      · have hke : k = d.size := by omega
        subst hke
        go_wp2_with fail
        go_ret
        exact HS.out _ (RowFl.drewN HH.out q) (below_drewN (Below.refl _ _) q) HA.out
end Go.Proofs.YthbflllflnnipaaGreatDoor
