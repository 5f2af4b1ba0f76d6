/-
  Summaries: a whole report counted: the walk of the document's.
-/
import Derived.Test.YtfgldglelijekaaGreatDoorSumG
import Derived.Deep.RegionWith
namespace Go.Proofs.YtfgldglelijekaaGreatDoor
set_option linter.unusedSimpArgs false
set_option linter.unusedVariables false
set_option linter.unusedSectionVars false
open Go.ChangeShapes Go.WideShapes Go.ChangeAt Go.RowKit Go.Deep Go.Shelf

theorem rowD_zero (l : List Rec) (sec : Value) : rowA (doneF l 0) sec = #[.int .i64 0, .int .i64 0, .int .i64 0, .int .i64 0, .int .i64 0, .int .i64 0, .int .i64 0, .int .i64 0, .int .i64 0, .int .i64 0, .int .i64 0, .int .i64 0, .int .i64 0, .int .i64 0, .int .i64 0, .int .i64 0, .int .i64 0, .int .i64 0, .int .i64 0, .int .i64 0, sec] := rfl
theorem rowA_setSec (F : Nat → Int) (s v : Value) : (rowA F s).setIfInBounds 20 v = rowA F v := by
  apply Array.ext_getElem?
  intro i
  rw [Array.getElem?_setIfInBounds, rowA_size]
  by_cases h : 20 = i
  · subst h
    rw [if_pos rfl, if_pos (by omega), rowA_sec]
  · rw [if_neg h]
    by_cases hi : i < 20
    · rw [rowA_get _ _ hi, rowA_get _ _ hi]
    · rw [Array.getElem?_eq_none (by rw [rowA_size]; omega), Array.getElem?_eq_none (by rw [rowA_size]; omega)]
theorem OwnX.setCell {B : Nat} {w : World} {v : Value} {l : List (List UInt8)} (h : OwnX B w v l) {p : Addr} (hp : p.block < B) (u : Value) : OwnX B (w.setCell p u) v l := by
  have h0 : w.ownsRow B 9 1 v l.length (l.map bstr) := h
  refine World.ownsRow.kept (row := some p.block) h0 ⟨rfl, rfl, rfl, by simp, fun k _ hne => Below.heap_setCell w p u k (fun e => hne (by rw [e]))⟩ ?_
  rcases h0.2 with ⟨rfl, _⟩ | ⟨b, cap, cur, rfl, hb, _⟩
  · exact .inl rfl
  · refine .inr ?_
    simp only [Value.ownBlock]
    intro e
    injection e with e
    omega
theorem bel_setT {g : Nat} (w : World) (j : Nat) (v : Value) : Below g w (w.setCell ⟨g, j, none⟩ v) := (Below.refl g w).setCell (p := ⟨g, j, none⟩) (Nat.le_refl _) _
theorem F_stepT {F : Nat → Int} {m : Int} (hF : ∀ i, i < 20 → 0 ≤ F i ∧ F i ≤ m) (j : Nat) (d e : Int) (hd : 0 ≤ d ∧ d ≤ e) : ∀ i, i < 20 → 0 ≤ stepA F j d i ∧ stepA F j d i ≤ m + e := fun i hi => by
  have := hF i hi
  rw [stepA_at]
  split <;> omega
theorem st_Rs : StructTy Tryz.prog RsT 21 := ⟨_, Tryz.underlying39, rfl, by kernel_rfl⟩
set_option maxHeartbeats 16000000 in
set_option maxRecDepth 100000 in
theorem ref44_Of (c0 c1 c2 c3 c4 c5 vd at_ lf0 lf1 : Int) (a : Option Addr) (l : List Rec) (cap : Nat) (fa : Option Addr) (fn fc : Nat) (ua : Option Addr) (u : List Int) (uc : Nat) (hl : l.length ≤ 1000) (hu : u.length ≤ 1000) (w : World) (hS : SlRc w w.heap.size a l) (hU : SlI w w.heap.size ua u) :
    Calls Tryz.prog 8 #[.agg #[.int .i64 c0, .int .i64 c1, .int .i64 c2, .int .i64 c3, .int .i64 c4, .int .i64 c5, .slice a l.length cap, .int .i64 vd, .int .i64 at_, .slice fa fn fc, .slice ua u.length uc, .int .i64 lf0, .int .i64 lf1]] w (OfP l u w) := by
  have HSE : Hid (∀ W, Below w.heap.size w W → Calls Tryz.prog 15 #[.slice ua u.length uc] W fun e w' => ∃ v, e = .returned v ∧ OwnX W.heap.size w' v (secS u) ∧ Below W.heap.size W w') := fun W hW => ref44_sections ua u uc hu W ((hU.below hW (Nat.le_refl _)).mono hW.size (fun _ _ _ h => h))
  have HP : Hid (∀ e w', (∃ a cap, e = .returned (.agg (rowA (fun i => tot i l) (.slice a (secS u).length cap))) ∧ SlX w' w'.heap.size a (secS u) ∧ (secS u).length ≤ cap ∧ Below w.heap.size w w') → OfP l u w e w') := fun e w' h => h
  generalize OfP l u w = P at HP ⊢
  have hsh := secS_short u
  generalize secS u = R at HSE HP hsh
  have HSH := Lib.hid hsh
  clear hsh
  have HSR := Lib.hid hS
  clear hS hU
  go_enter Tryz.func8, Tryz.ntmps8
  go_wp2_with fail
  obtain ⟨wb, hwb⟩ : ∃ wb, wb = ((w.alloc (.cells #[.int .i64 c0, .int .i64 c1, .int .i64 c2, .int .i64 c3, .int .i64 c4, .int .i64 c5, .slice a l.length cap, .int .i64 vd, .int .i64 at_, .slice fa fn fc, .slice ua u.length uc, .int .i64 lf0, .int .i64 lf1] 29)).alloc (.cells (rowA (doneF l 0) (.slice none 0 0)) RsT)).alloc (.cells (rowA (doneF l 0) (.slice none 0 0)) RsT) := ⟨_, rfl⟩
  have hT2 : Blk wb (w.heap.size + 1) RsT (rowA (doneF l 0) (.slice none 0 0)) := by rw [hwb]; exact (Blk.at_ _ _ _ (by simp)).alloc _
  have hT3 : Blk wb (w.heap.size + 2) RsT (rowA (doneF l 0) (.slice none 0 0)) := by rw [hwb]; exact Blk.at_ _ _ _ (by simp)
  have c6 : wb.cell? ⟨w.heap.size, 6, none⟩ = some (.slice a l.length cap) := by rw [hwb]; go_simp
  have c10 : wb.cell? ⟨w.heap.size, 10, none⟩ = some (.slice ua u.length uc) := by rw [hwb]; go_simp
  have HBW : Hid (Below w.heap.size w wb) := by show Below _ _ _; rw [hwb]; exact (by repeat (first | (with_reducible exact Below.refl _ _) | (with_reducible refine Below.allocS ?_ _) | (with_reducible refine Below.moreS ?_ _) | (with_reducible refine Below.drew ?_) | (with_reducible refine below_drewN ?_ _)))
  have hzb : wb.heap.size = w.heap.size + 3 := by rw [hwb]; simp
  rw [rowD_zero] at hwb
  rw [← hwb]
  clear hwb
  have HT2 := Lib.hid hT2
  have HT3 := Lib.hid hT3
  have HC6 := Lib.hid c6
  have HC10 := Lib.hid c10
  clear hT2 hT3 c6 c10
  go_loopg [4] 2 (fun g i wr => ∃ k : Nat, k + g = 2 ∧ i = .int .i64 k ∧ Blk wr (w.heap.size + 2) RsT (rowA (doneF l k) (.slice none 0 0)) ∧ Below (w.heap.size + 2) wb wr)
  case atStart => exact ⟨0, rfl, rfl, HT3.out, Below.refl _ _⟩
  case round =>
    obtain ⟨k, hkg, rfl, hbk, hb⟩ := hrel
    have HK := Lib.hid hkg
    have HBK := Lib.hid hbk
    have HB := Lib.hid hb
    by_cases hlt : k < 2
    · have k2 : (k : Int) < 2 := by omega
      have k0 : (0 : Int) ≤ k := by omega
      clear hbk hb hkg
      go_wp2_with fail
      go_loopg [5] l.length (fun g i wr => ∃ q : Nat, q + g = l.length ∧ i = .int .i64 q ∧ Blk wr (w.heap.size + 2) RsT (rowA (partF l k q) (.slice none 0 0)) ∧ Below (w.heap.size + 2) wb wr)
      case atStart => exact ⟨0, by omega, rfl, by rw [partF_zero]; exact HBK.out, HB.out⟩
      case round =>
        clear HBK HB
        obtain ⟨q, hqg, rfl, hbk, hb⟩ := hrel
        have HQ := Lib.hid hqg
        have HBK := Lib.hid hbk
        have HB := Lib.hid hb
        have hsz := hb.size
        have c6 := (hb.cell (p := ⟨w.heap.size, 6, none⟩) (by show w.heap.size < _; omega)).trans HC6.out
        have hn : w.heap.size < wr.heap.size := by omega
        by_cases hq : q < l.length
        · have HBR : Hid (Below w.heap.size w wr) := HBW.out.trans (hb.mono (by omega))
          obtain ⟨b, off, ha, hbb, q0, q1, q2, q3, q4, q5⟩ := SlR.atRc HSR.out hq
          subst ha
          have d0 := (HBR.out.cell (p := ⟨b, off + q * 6, none⟩) hbb).trans q0
          have d1 := (HBR.out.cell (p := ⟨b, off + q * 6 + 1, none⟩) hbb).trans q1
          have d2 := (HBR.out.cell (p := ⟨b, off + q * 6 + 2, none⟩) hbb).trans q2
          have d3 := (HBR.out.cell (p := ⟨b, off + q * 6 + 3, none⟩) hbb).trans q3
          have d4 := (HBR.out.cell (p := ⟨b, off + q * 6 + 4, none⟩) hbb).trans q4
          have d5 := (HBR.out.cell (p := ⟨b, off + q * 6 + 5, none⟩) hbb).trans q5
          have hbx : b < wr.heap.size := Nat.lt_of_lt_of_le hbb HBR.out.size
          have HNO : Hid (¬ l[q].fr = (k : Int) → partF l k (q + 1) = partF l k q) := partF_no l k q hq
          have HYES : Hid (l[q].fr = (k : Int) → ∀ i, partF l k (q + 1) i = partF l k q i + cv i l[q]) := partF_yes l k q hq
          generalize l[q] = x at d0 d1 d2 d3 d4 d5 HNO HYES
          obtain ⟨x0, x1, x2, x3, x4, x5⟩ := x
          have HCT : Hid (∀ W, Calls Tryz.prog 13 #[.agg #[.int .i64 x0, .int .i64 x1, .int .i64 x2, .int .i64 x3, .int .i64 x4, .int .i64 x5], .int .i64 k] W fun en w' => en = .returned (.bool (x0 == (k : Int))) ∧ ∃ j, w' = W.more j) := ref44_counts x0 x1 x2 x3 x4 x5 k
          clear q0 q1 q2 q3 q4 q5 hbk hb hqg
          by_cases hc : x0 = (k : Int)
          · have hY := HYES.out hc
            have hcb : (x0 == (k : Int)) = true := by rw [beq_iff_eq]; exact hc
            rw [hcb] at HCT
            clear HNO HYES hcb
            have hF0 : ∀ i, i < 20 → 0 ≤ partF l k q i ∧ partF l k q i ≤ 100000000000 := fun i _ => partF_bd l hl k q i
            obtain ⟨Gn, hGn⟩ : ∃ G, partF l k (q + 1) = G := ⟨_, rfl⟩
            have HGG := Lib.hid hGn
            have HSZ : Hid (∀ W, Calls Tryz.prog 14 #[.agg #[.int .i64 x0, .int .i64 x1, .int .i64 x2, .int .i64 x3, .int .i64 x4, .int .i64 x5]] W fun en w' => en = .returned (.int .i64 (szR ⟨x0, x1, x2, x3, x4, x5⟩)) ∧ ∃ j, w' = W.more j) := ref44_bytes x0 x1 x2 x3 x4 x5
            have hz := szR_bd ⟨x0, x1, x2, x3, x4, x5⟩
            have hF1 := F_stepT hF0 k 1 1 (by omega)
            have hF2 := F_stepT hF1 (2 + k) (szR ⟨x0, x1, x2, x3, x4, x5⟩) 20000000 (by omega)
            have hF3 := F_stepT hF2 (4 + tyI ⟨x0, x1, x2, x3, x4, x5⟩) 1 1 (by omega)
            have hty := tyI_lt ⟨x0, x1, x2, x3, x4, x5⟩
            have HY : Hid (kdOk ⟨x0, x1, x2, x3, x4, x5⟩ = true → ∀ p : Nat, x5 = (p : Int) → ∀ i, i < 20 → stepA (stepA (stepA (stepA (partF l k q) k 1) (2 + k) (szR ⟨x0, x1, x2, x3, x4, x5⟩)) (4 + tyI ⟨x0, x1, x2, x3, x4, x5⟩) 1) (15 + p) 1 i = partF l k (q + 1) i) := fun h p hp i hi => (step_yes _ ⟨x0, x1, x2, x3, x4, x5⟩ k hlt hc p hp h i hi).trans (hY i).symm
            have HN : Hid (kdOk ⟨x0, x1, x2, x3, x4, x5⟩ = false → ∀ i, i < 20 → stepA (stepA (stepA (partF l k q) k 1) (2 + k) (szR ⟨x0, x1, x2, x3, x4, x5⟩)) (4 + tyI ⟨x0, x1, x2, x3, x4, x5⟩) 1 i = partF l k (q + 1) i) := fun h i hi => (step_no _ ⟨x0, x1, x2, x3, x4, x5⟩ k hlt hc h i hi).trans (hY i).symm
            have HT1 : Hid (inB x1 9 = true → x1 = ((tyI ⟨x0, x1, x2, x3, x4, x5⟩ : Nat) : Int) ∧ tyI ⟨x0, x1, x2, x3, x4, x5⟩ ≤ 9) := fun h => by
              have h2 := inB_iff.1 h
              have e : tyI ⟨x0, x1, x2, x3, x4, x5⟩ = x1.toNat := by unfold tyI; rw [if_pos h]
              rw [e]
              exact ⟨by omega, by omega⟩
            have HT2 : Hid (inB x1 9 = false → tyI ⟨x0, x1, x2, x3, x4, x5⟩ = 10) := fun h => by
              unfold tyI
              rw [if_neg (by show ¬ inB x1 9 = true; rw [h]; simp)]
            have HT3 : Hid (inB x1 9 = true ∨ inB x1 9 = false ∧ x1 < 0 ∨ inB x1 9 = false ∧ ¬ x1 ≤ 9 ∧ 0 ≤ x1) := by
              by_cases h : 0 ≤ x1 ∧ x1 ≤ 9
              · exact .inl (inB_iff.2 (by omega))
              · have h2 : inB x1 9 = false := by cases h3 : inB x1 9; rfl; exact absurd (inB_iff.1 h3) (by omega)
                by_cases h4 : x1 < 0
                · exact .inr (.inl ⟨h2, h4⟩)
                · exact .inr (.inr ⟨h2, by omega, by omega⟩)
            have HK3 : Hid (kdOk ⟨x0, x1, x2, x3, x4, x5⟩ = true ∧ (∃ p : Nat, x5 = (p : Int) ∧ 1 ≤ p ∧ p ≤ 4) ∨ kdOk ⟨x0, x1, x2, x3, x4, x5⟩ = false ∧ x5 < 1 ∨ kdOk ⟨x0, x1, x2, x3, x4, x5⟩ = false ∧ ¬ x5 ≤ 4 ∧ 1 ≤ x5) := by
              cases h : kdOk ⟨x0, x1, x2, x3, x4, x5⟩
              · have hne : ¬ (1 ≤ x5 ∧ x5 ≤ 4) := fun hh => by
                  have h : inB (x5 - 1) 3 = false := h
                  rw [inB_iff.2 (by omega)] at h; cases h
                by_cases h4 : x5 < 1
                · exact .inr (.inl ⟨rfl, h4⟩)
                · exact .inr (.inr ⟨rfl, by omega, by omega⟩)
              · exact .inl ⟨rfl, kd_pos h⟩
            rw [hGn] at HY HN
            clear hY hGn
            generalize partF l k q = F at HBK HY HN hF0 hF1 hF2 hF3
            generalize szR ⟨x0, x1, x2, x3, x4, x5⟩ = Z at HSZ hz hF2 hF3 HY HN
            generalize tyI ⟨x0, x1, x2, x3, x4, x5⟩ = T at hF3 HY HN HT1 HT2 hty
            generalize kdOk ⟨x0, x1, x2, x3, x4, x5⟩ = KO at HK3 HY HN
            generalize inB x1 9 = NO at HT1 HT2 HT3
            have hw1 : IntKind.i64.wrap (F k + 1) = F k + 1 := IntWalk.i64_in _ (by have := hF0 k (by omega); omega)
            have hw2 : IntKind.i64.wrap (stepA F k 1 (2 + k) + Z) = stepA F k 1 (2 + k) + Z := IntWalk.i64_in _ (by have := hF1 (2 + k) (by omega); omega)
            have hw3 : IntKind.i64.wrap (stepA (stepA F k 1) (2 + k) Z (4 + T) + 1) = stepA (stepA F k 1) (2 + k) Z (4 + T) + 1 := IntWalk.i64_in _ (by have := hF2 (4 + T) (by omega); omega)
            have hw4 : ∀ p : Nat, p ≤ 4 → IntKind.i64.wrap (stepA (stepA (stepA F k 1) (2 + k) Z) (4 + T) 1 (15 + p) + 1) = stepA (stepA (stepA F k 1) (2 + k) Z) (4 + T) 1 (15 + p) + 1 := fun p hp => IntWalk.i64_in _ (by have := hF3 (15 + p) (by omega); omega)
            have HW2 := Lib.hid hw2
            have HW3 := Lib.hid hw3
            have HW4 := Lib.hid hw4
            clear hF0 hF1 hF2 hF3 hz hw2 hw3 hw4 hc
            have HB0 : Hid (Blk wr (w.heap.size + 1 + 1) RsT (rowA F (.slice none 0 0))) := HBK
            have d0 : wr.cell? ⟨w.heap.size + 1 + 1, k, none⟩ = some (.int .i64 (F k)) := HB0.out.rowGetT (by omega)
            have f0 := HB0.out.frozen k
            have hg := HB0.out.lt
            have hg1 : w.heap.size + 1 < wr.heap.size := by omega
            have HBEL0 : Hid (Below (w.heap.size + 2) wr wr) := Lib.hid (Below.refl _ _)
            clear HBK
            go_wp2_with ((go_at_call 13; (with_reducible refine (HCT.out _).mono ?_); rintro e w' ⟨rfl, j, rfl⟩))
            have hbA := HB0.out.rowStepT (show k < 20 by omega) 1
            have hzA := size_set wr (w.heap.size + 1 + 1) k (.int .i64 (F k + 1))
            have hbelA := HBEL0.out.trans (bel_setT (g := w.heap.size + 1 + 1) wr k (.int .i64 (F k + 1)))
            rw [← hzA]
            generalize wr.setCell ⟨w.heap.size + 1 + 1, k, none⟩ (.int .i64 (F k + 1)) = wA at hbA hzA hbelA ⊢
            have hw2 := HW2.out
            generalize stepA F k 1 = FA at hbA hw2 HW3 HW4 HY HN
            have dA : wA.cell? ⟨w.heap.size + 1 + 1, 2 + k, none⟩ = some (.int .i64 (FA (2 + k))) := hbA.rowGetT (by omega)
            have fA := hbA.frozen (2 + k)
            have hgA := hbA.lt
            have hgA1 : w.heap.size + 1 < wA.heap.size := by omega
            have HBA := Lib.hid hbA
            have HBELA := Lib.hid hbelA
            clear d0 f0 hg hg1 hzA hw1 hbA hbelA HB0 HW2 HBEL0
            go_region_with (go_at_call 14; refine (HSZ.out _).mono ?_; rintro e w' ⟨rfl, j, rfl⟩)
            all_goals
              have hbB := HBA.out.rowStepT (show 2 + k < 20 by omega) Z
              have hzB := size_set wA (w.heap.size + 1 + 1) (2 + k) (.int .i64 (FA (2 + k) + Z))
              have hbelB := HBELA.out.trans (bel_setT (g := w.heap.size + 1 + 1) wA (2 + k) (.int .i64 (FA (2 + k) + Z)))
              rw [← hzB]
              generalize wA.setCell ⟨w.heap.size + 1 + 1, 2 + k, none⟩ (.int .i64 (FA (2 + k) + Z)) = wB at hbB hzB hbelB ⊢
              have HW3b := HW3
              have HW4b := HW4
              have HYb := HY
              have HNb := HN
              generalize stepA FA (2 + k) Z = FB at hbB HW3b HW4b HYb HNb
              have hgB := hbB.lt
              have hgB1 : w.heap.size + 1 < wB.heap.size := by omega
              have HBB := Lib.hid hbB
              have HBELB := Lib.hid hbelB
              clear dA fA hgA hgA1 hzB hbB hbelB HBA HBELA HW3 HW4 HY HN hw2 HSZ
              obtain hNO | hNO := HT3.out
              · obtain ⟨rfl, ht⟩ := HT1.out hNO
                have hw3 : IntKind.i64.wrap (FB (4 + T) + 1) = FB (4 + T) + 1 := HW3b.out
                have dB : wB.cell? ⟨w.heap.size + 1 + 1, 4 + T, none⟩ = some (.int .i64 (FB (4 + T))) := HBB.out.rowGetT (by omega)
                have fB : wB.frozen? ⟨w.heap.size + 1 + 1, 4 + T, none⟩ = false := HBB.out.frozen (4 + T)
                have ht0 : (0 : Int) ≤ T := by omega
                have ht9 : (T : Int) ≤ 9 := by omega
                have ht11 : (T : Int) < 11 := by omega
                clear HT1 HT2 HT3 HW3b hty hNO
                go_wp2_with fail
                go_region
                have hbC := HBB.out.rowStepT (show 4 + T < 20 by omega) 1
                have hzC := size_set wB (w.heap.size + 1 + 1) (4 + T) (.int .i64 (FB (4 + T) + 1))
                have hbelC := HBELB.out.trans (bel_setT (g := w.heap.size + 1 + 1) wB (4 + T) (.int .i64 (FB (4 + T) + 1)))
                rw [← hzC]
                generalize wB.setCell ⟨w.heap.size + 1 + 1, 4 + T, none⟩ (.int .i64 (FB (4 + T) + 1)) = wC at hbC hzC hbelC ⊢
                generalize hFC : stepA FB (4 + T) 1 = FC at HW4b HYb HNb
                have hbC2 : Blk wC (w.heap.size + 1 + 1) RsT (rowA FC (.slice none 0 0)) := by rw [← hFC]; exact hbC
                have hgC := hbC2.lt
                have hgC1 : w.heap.size + 1 < wC.heap.size := by omega
                have hgC1 : w.heap.size + 1 < wC.heap.size := by omega
                have hgC1 : w.heap.size + 1 < wC.heap.size := by omega
                have HBC := Lib.hid hbC2
                have HBELC := Lib.hid hbelC
                clear dB fB hgB hgB1 hzC hbC hbC2 hbelC HBB HBELB hw3 hFC
                obtain ⟨hK, p, rfl, hp1, hp4⟩ | hK := HK3.out
                · have hG := HYb.out hK p rfl
                  have HRW := Lib.hid (rowA_congr (.slice none 0 0) hG)
                  have hw4 : IntKind.i64.wrap (FC (15 + p) + 1) = FC (15 + p) + 1 := HW4b.out p hp4
                  have dC : wC.cell? ⟨w.heap.size + 1 + 1, 15 + p, none⟩ = some (.int .i64 (FC (15 + p))) := HBC.out.rowGetT (by omega)
                  have fC : wC.frozen? ⟨w.heap.size + 1 + 1, 15 + p, none⟩ = false := HBC.out.frozen (15 + p)
                  have hp5 : (p : Int) < 5 := by omega
                  have hp40 : (p : Int) ≤ 4 := by omega
                  have hp10 : (1 : Int) ≤ p := by omega
                  have hp0 : (0 : Int) ≤ p := by omega
                  clear HK3 HW4b HYb HNb hG hK
                  go_wp2_with fail
                  go_region
                  go_wp2_with fail
                  have hbD := HBC.out.rowStepT (show 15 + p < 20 by omega) 1
                  have hbelD := HBELC.out.trans (bel_setT (g := w.heap.size + 1 + 1) wC (15 + p) (.int .i64 (FC (15 + p) + 1)))
                  generalize wC.setCell ⟨w.heap.size + 1 + 1, 15 + p, none⟩ (.int .i64 (FC (15 + p) + 1)) = wD at hbD hbelD ⊢
                  rw [HRW.out] at hbD
                  have HBD := Lib.hid hbD
                  have HBELD := Lib.hid hbelD
                  clear hbD hbelD
                  go_roundg (l.length - (q + 1))
                  case measure => have := HQ.out; omega
                  case rel => exact ⟨q + 1, by have := HQ.out; omega, by go_num, by rw [HGG.out]; exact HBD.out.below (B := wD.heap.size) (by repeat (first | (with_reducible exact Below.refl _ _) | (with_reducible refine Below.allocS ?_ _) | (with_reducible refine Below.moreS ?_ _) | (with_reducible refine Below.drew ?_) | (with_reducible refine below_drewN ?_ _))) HBD.out.lt, HB.out.trans (HBELD.out.trans (Below.mono (B := wD.heap.size) (by repeat (first | (with_reducible exact Below.refl _ _) | (with_reducible refine Below.allocS ?_ _) | (with_reducible refine Below.moreS ?_ _) | (with_reducible refine Below.drew ?_) | (with_reducible refine below_drewN ?_ _))) (by have := HBD.out.lt; omega)))⟩
                · have hG := HNb.out (by rcases hK with h | h <;> exact h.1)
                  have HRW := Lib.hid (rowA_congr (.slice none 0 0) hG)
                  have hK2 : ¬ 1 ≤ x5 ∧ x5 < 1 ∨ 1 ≤ x5 ∧ ¬ x5 ≤ 4 := by rcases hK with ⟨_, h⟩ | ⟨_, h, h2⟩ <;> omega
                  clear HK3 HW4b HYb HNb hG hK
                  obtain ⟨hx, hx2⟩ | ⟨hx, hx2⟩ := hK2
                  all_goals
                    go_wp2_with fail
                    go_roundg (l.length - (q + 1))
                    case measure => have := HQ.out; omega
                    case rel => exact ⟨q + 1, by have := HQ.out; omega, by go_num, by rw [HGG.out, ← HRW.out]; exact HBC.out.below (B := wC.heap.size) (by repeat (first | (with_reducible exact Below.refl _ _) | (with_reducible refine Below.allocS ?_ _) | (with_reducible refine Below.moreS ?_ _) | (with_reducible refine Below.drew ?_) | (with_reducible refine below_drewN ?_ _))) HBC.out.lt, HB.out.trans (HBELC.out.trans (Below.mono (B := wC.heap.size) (by repeat (first | (with_reducible exact Below.refl _ _) | (with_reducible refine Below.allocS ?_ _) | (with_reducible refine Below.moreS ?_ _) | (with_reducible refine Below.drew ?_) | (with_reducible refine below_drewN ?_ _))) (by have := HBC.out.lt; omega)))⟩
              · have hT : T = 10 := HT2.out (by rcases hNO with h | h <;> exact h.1)
                subst hT
                have hx1 : ¬ 0 ≤ x1 ∧ x1 < 0 ∨ 0 ≤ x1 ∧ ¬ x1 ≤ 9 := by rcases hNO with ⟨_, h⟩ | ⟨_, h, h2⟩ <;> omega
                have hw3 : IntKind.i64.wrap (FB 14 + 1) = FB 14 + 1 := HW3b.out
                have dB : wB.cell? ⟨w.heap.size + 1 + 1, 14, none⟩ = some (.int .i64 (FB 14)) := HBB.out.rowGetT (by omega)
                have fB : wB.frozen? ⟨w.heap.size + 1 + 1, 14, none⟩ = false := HBB.out.frozen 14
                have hbC : Blk (wB.setCell ⟨w.heap.size + 1 + 1, 14, none⟩ (.int .i64 (FB 14 + 1))) (w.heap.size + 1 + 1) RsT (rowA (stepA FB (4 + 10) 1) (.slice none 0 0)) := HBB.out.rowStepT (show 14 < 20 by omega) 1
                have hzC := size_set wB (w.heap.size + 1 + 1) 14 (.int .i64 (FB 14 + 1))
                have HBELC : Hid (Below (w.heap.size + 2) wr (wB.setCell ⟨w.heap.size + 1 + 1, 14, none⟩ (.int .i64 (FB 14 + 1)))) := HBELB.out.trans (bel_setT (g := w.heap.size + 1 + 1) wB 14 (.int .i64 (FB 14 + 1)))
                have HBC := Lib.hid hbC
                clear HT1 HT2 HT3 HW3b hty hNO hbC
                obtain ⟨hK, p, rfl, hp1, hp4⟩ | hK := HK3.out
                · have hG := HYb.out hK p rfl
                  have HRW := Lib.hid (rowA_congr (.slice none 0 0) hG)
                  have e15 : stepA FB (4 + 10) 1 (15 + p) = FB (15 + p) := by rw [stepA_at, if_neg (by omega), Int.add_zero]
                  have hw4 : IntKind.i64.wrap (FB (15 + p) + 1) = FB (15 + p) + 1 := by have := HW4b.out p hp4; rw [e15] at this; exact this
                  have dC : wB.cell? ⟨w.heap.size + 1 + 1, 15 + p, none⟩ = some (.int .i64 (FB (15 + p))) := HBB.out.rowGetT (by omega)
                  have fC : wB.frozen? ⟨w.heap.size + 1 + 1, 15 + p, none⟩ = false := HBB.out.frozen (15 + p)
                  have hp5 : (p : Int) < 5 := by omega
                  have hp40 : (p : Int) ≤ 4 := by omega
                  have hp10 : (1 : Int) ≤ p := by omega
                  have hp0 : (0 : Int) ≤ p := by omega
                  have hbD := HBC.out.rowStepT (show 15 + p < 20 by omega) 1
                  rw [e15, HRW.out] at hbD
                  have HBD := Lib.hid hbD
                  have HBELD : Hid (Below (w.heap.size + 2) wr ((wB.setCell ⟨w.heap.size + 1 + 1, 14, none⟩ (.int .i64 (FB 14 + 1))).setCell ⟨w.heap.size + 1 + 1, 15 + p, none⟩ (.int .i64 (FB (15 + p) + 1)))) := HBELC.out.trans (bel_setT (g := w.heap.size + 1 + 1) _ (15 + p) (.int .i64 (FB (15 + p) + 1)))
                  have hzD := size_set (wB.setCell ⟨w.heap.size + 1 + 1, 14, none⟩ (.int .i64 (FB 14 + 1))) (w.heap.size + 1 + 1) (15 + p) (.int .i64 (FB (15 + p) + 1))
                  have HZD := Lib.hid (hzD.trans hzC)
                  clear HK3 HW4b HYb HNb hG hK hbD HBC HBELC HRW e15 hzD hzC
                  obtain ⟨hx, hx2⟩ | ⟨hx, hx2⟩ := hx1
                  all_goals
                    go_wp2_with fail
                    go_region
                    go_wp2_with fail
                    rw [← HZD.out]
                    generalize (wB.setCell ⟨w.heap.size + 1 + 1, 14, none⟩ (.int .i64 (FB 14 + 1))).setCell ⟨w.heap.size + 1 + 1, 15 + p, none⟩ (.int .i64 (FB (15 + p) + 1)) = wD at HBD HBELD HZD ⊢
                    go_roundg (l.length - (q + 1))
                    case measure => have := HQ.out; omega
                    case rel => exact ⟨q + 1, by have := HQ.out; omega, by go_num, by rw [HGG.out]; exact HBD.out.below (B := wD.heap.size) (by repeat (first | (with_reducible exact Below.refl _ _) | (with_reducible refine Below.allocS ?_ _) | (with_reducible refine Below.moreS ?_ _) | (with_reducible refine Below.drew ?_) | (with_reducible refine below_drewN ?_ _))) HBD.out.lt, HB.out.trans (HBELD.out.trans (Below.mono (B := wD.heap.size) (by repeat (first | (with_reducible exact Below.refl _ _) | (with_reducible refine Below.allocS ?_ _) | (with_reducible refine Below.moreS ?_ _) | (with_reducible refine Below.drew ?_) | (with_reducible refine below_drewN ?_ _))) (by have := HBD.out.lt; omega)))⟩
                · have hG := HNb.out (by rcases hK with h | h <;> exact h.1)
                  have HRW := Lib.hid (rowA_congr (.slice none 0 0) hG)
                  have hK2 : ¬ 1 ≤ x5 ∧ x5 < 1 ∨ 1 ≤ x5 ∧ ¬ x5 ≤ 4 := by rcases hK with ⟨_, h⟩ | ⟨_, h, h2⟩ <;> omega
                  have HZC := Lib.hid hzC
                  clear HK3 HW4b HYb HNb hG hK hzC
                  obtain ⟨hx, hx2⟩ | ⟨hx, hx2⟩ := hx1 <;> obtain ⟨hy, hy2⟩ | ⟨hy, hy2⟩ := hK2
                  all_goals
                    go_wp2_with fail
                    rw [← HZC.out]
                    generalize wB.setCell ⟨w.heap.size + 1 + 1, 14, none⟩ (.int .i64 (FB 14 + 1)) = wC at HBC HBELC HZC ⊢
                    go_roundg (l.length - (q + 1))
                    case measure => have := HQ.out; omega
                    case rel => exact ⟨q + 1, by have := HQ.out; omega, by go_num, by rw [HGG.out, ← HRW.out]; exact HBC.out.below (B := wC.heap.size) (by repeat (first | (with_reducible exact Below.refl _ _) | (with_reducible refine Below.allocS ?_ _) | (with_reducible refine Below.moreS ?_ _) | (with_reducible refine Below.drew ?_) | (with_reducible refine below_drewN ?_ _))) HBC.out.lt, HB.out.trans (HBELC.out.trans (Below.mono (B := wC.heap.size) (by repeat (first | (with_reducible exact Below.refl _ _) | (with_reducible refine Below.allocS ?_ _) | (with_reducible refine Below.moreS ?_ _) | (with_reducible refine Below.drew ?_) | (with_reducible refine below_drewN ?_ _))) (by have := HBC.out.lt; omega)))⟩
          · have HF := Lib.hid (HNO.out hc)
            have hcb : (x0 == (k : Int)) = false := by rw [beq_eq_false_iff_ne]; exact hc
            rw [hcb] at HCT
            clear HNO HYES hc hcb
            go_wp2_with ((go_at_call 13; (with_reducible refine (HCT.out _).mono ?_); rintro e w' ⟨rfl, j, rfl⟩))
            go_roundg (l.length - (q + 1))
            case measure => have := HQ.out; omega
            case rel => exact ⟨q + 1, by have := HQ.out; omega, by go_num, by rw [HF.out]; exact HBK.out.below (B := wr.heap.size) (by repeat (first | (with_reducible exact Below.refl _ _) | (with_reducible refine Below.allocS ?_ _) | (with_reducible refine Below.moreS ?_ _) | (with_reducible refine Below.drew ?_) | (with_reducible refine below_drewN ?_ _))) HBK.out.lt, HB.out.trans (Below.mono (B := wr.heap.size) (by repeat (first | (with_reducible exact Below.refl _ _) | (with_reducible refine Below.allocS ?_ _) | (with_reducible refine Below.moreS ?_ _) | (with_reducible refine Below.drew ?_) | (with_reducible refine below_drewN ?_ _))) (by omega))⟩
        · have hql : q = l.length := by omega
          subst hql
          rw [partF_all l k hlt] at hbk
          have HBK2 := Lib.hid hbk
          clear hbk hb hqg HBK
          go_wp2_with fail
          go_roundg (2 - (k + 1))
          case measure => have := HK.out; omega
          case rel => exact ⟨k + 1, by have := HK.out; omega, by go_num, HBK2.out, HB.out⟩
    · have hk2 : k = 2 := by omega
      subst hk2
      have hk3 : ¬ ((2 : Nat) : Int) < 2 := by omega
      have hG : doneF l 2 = fun i => tot i l := funext (doneF_two l)
      rw [hG] at hbk
      generalize (fun i => tot i l) = G at hbk HP
      have hsz := hb.size
      have c10 := (hb.cell (p := ⟨w.heap.size, 10, none⟩) (by show w.heap.size < _; omega)).trans HC10.out
      have hn : w.heap.size < wr.heap.size := by omega
      have HBR : Hid (Below w.heap.size w wr) := HBW.out.trans (hb.mono (by omega))
      have HT2' : Hid (Blk wr (w.heap.size + 1) RsT (rowA (doneF l 0) (.slice none 0 0))) := HT2.out.below hb (by omega)
      have HB2 := Lib.hid hbk
      clear hbk hb hkg HBK HB hlt hG
      go_wp2_with fail
      refine (HSE.out _ HBR.out).mono ?_
      rintro e w3 ⟨v3, rfl, ho3, hb3⟩
      obtain ⟨a3, cap3, rfl, hcap3⟩ := ho3.cap
      have hz3 := hb3.size
      have hb4 : Blk w3 (w.heap.size + 1 + 1) RsT (rowA G (.slice none 0 0)) := HB2.out.below hb3 HB2.out.lt
      have e20 : w3.cell? ⟨w.heap.size + 1 + 1, 20, none⟩ = some (.slice none 0 0) := (hb4.cell 20).trans (rowA_sec _ _)
      have f20 := hb4.frozen 20
      have hlt4 := hb4.lt
      have hb5 : Blk (w3.setCell ⟨w.heap.size + 1 + 1, 20, none⟩ (.slice a3 R.length cap3)) (w.heap.size + 1 + 1) RsT (rowA G (.slice a3 R.length cap3)) := by
        have := hb4.set_ 20 (.slice a3 R.length cap3)
        rw [rowA_setSec] at this
        exact this
      have hb6 : Blk (w3.setCell ⟨w.heap.size + 1 + 1, 20, none⟩ (.slice a3 R.length cap3)) (w.heap.size + 1) RsT (rowA (doneF l 0) (.slice none 0 0)) := (HT2'.out.below hb3 HT2'.out.lt).far (by show w.heap.size + 1 ≠ w.heap.size + 1 + 1; omega) _
      have HB5 := Lib.hid hb5
      have HB6 := Lib.hid hb6
      have HO3 := Lib.hid ho3
      have HW3 : Hid (Below w.heap.size w w3) := HBR.out.trans (hb3.mono HBR.out.size)
      clear ho3 hb3 hb4 hb5 hb6 HB2 HT2 HT2' HT3
      have HO5 := Lib.hid (HO3.out.setCell (p := ⟨w.heap.size + 1 + 1, 20, none⟩) (by show w.heap.size + 1 + 1 < wr.heap.size; omega) (.slice a3 R.length cap3))
      have HW5 : Hid (Below w.heap.size w (w3.setCell ⟨w.heap.size + 1 + 1, 20, none⟩ (.slice a3 R.length cap3))) := HW3.out.setCell (p := ⟨w.heap.size + 1 + 1, 20, none⟩) (by show w.heap.size ≤ w.heap.size + 1 + 1; omega) _
      go_wp2_with (first
        | (refine wpList_load_row rfl RsT (.tmp 3) rfl (w.heap.size + 1 + 1) rfl RsT (rowA G (.slice a3 R.length cap3)) (0, 0) _ HB5.out Tryz.underlying39 rfl (by rw [rowA_size]; kernel_rfl) ?_)
        | (refine wpList_store_row rfl RsT _ _ rfl (w.heap.size + 1) (rowA G (.slice a3 R.length cap3)) rfl rfl RsT _ HB6.out (by rw [rowA_size]; kernel_rfl) (by rw [rowA_size, rowA_size]) (rowA_one _ _ _ _) ?_))
      generalize w3.setCell ⟨w.heap.size + 1 + 1, 20, none⟩ (.slice a3 R.length cap3) = w5 at HB5 HB6 HO5 HW5 ⊢
      have hr := setRow_heap w5 (w.heap.size + 1) _ (rowA G (.slice a3 R.length cap3)) RsT (0, 0) HB6.out
      have hb7 : Blk (w5.setRow (w.heap.size + 1) (rowA G (.slice a3 R.length cap3))) (w.heap.size + 1) RsT (rowA G (.slice a3 R.length cap3)) := hr
      have ho7 := HO5.out.setRow (show w.heap.size + 1 < wr.heap.size by omega) (rowA G (.slice a3 R.length cap3))
      obtain ⟨a6, cap6, hv, hs6⟩ := ho7.read (fun x hx => by have := HSH.out x hx; unfold maxLen; omega)
      injection hv with z1 z2 z3
      subst z1 z3
      have hbw := below_setRow HW5.out (show w.heap.size ≤ w.heap.size + 1 by omega) (rowA G (.slice a3 R.length cap3))
      refine bodyPost_ret (res_cell rfl st_Rs rfl hb7 (rowA_size _ _)) rfl ?_
      exact HP.out _ _ ⟨a3, cap3, rfl, hs6, hcap3, hbw⟩
end Go.Proofs.YtfgldglelijekaaGreatDoor
