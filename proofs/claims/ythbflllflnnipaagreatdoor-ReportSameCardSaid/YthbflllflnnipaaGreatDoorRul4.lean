/-
  Rules: the set of those among some: both roads.
-/
import Derived.Test.YthbflllflnnipaaGreatDoorMa
import Derived.Deep.LoopGhost
import Derived.BigGuardPart
namespace Go.Proofs.YthbflllflnnipaaGreatDoor
set_option linter.unusedSimpArgs false
set_option linter.unusedVariables false
set_option linter.unusedSectionVars false
open Go.ChangeShapes Go.WideShapes Go.ChangeAt Go.RowKit Go.Deep Go.Shelf

theorem max_keep {w W : World} {m : Int} (hM : w.cell? MaxA = some (.int .i64 m)) (hW : Below w.heap.size w W) : W.cell? MaxA = some (.int .i64 m) :=
  (hW.cell (p := MaxA) (World.block_lt_of_cell? w MaxA hM)).trans hM
set_option maxHeartbeats 8000000 in
set_option maxRecDepth 100000 in
theorem rules_Of (a : Option Addr) (l : List Int) (cap : Nat) (hl : l.length ≤ 100000) (m : Int) (w : World) (hM : w.cell? MaxA = some (.int .i64 m)) (hS : SlI w w.heap.size a l) :
    Calls Tryz.prog 68 #[.slice a l.length cap] w fun e w' => ∃ v, e = .returned v ∧ OwnI w.heap.size w' v (ofR l) ∧ Below w.heap.size w w' := by
  have HR : Hid (ofR l = setS ltI (l.filter rulR)) := rfl
  generalize ofR l = R at HR ⊢
  have HS := Lib.hid hS
  have HM : Hid (∀ W, Below w.heap.size w W → W.cell? MaxA = some (.int .i64 m)) := fun W hW => max_keep hM hW
  clear hS hM
  go_enter Tryz.func68, Tryz.ntmps68
  go_wp2_with fail
  go_loopg [3, 8] l.length (fun g v i wr => ∃ (k : Nat) (out : List Int), k + g = l.length ∧ i = .int .i64 k ∧ out.length ≤ k ∧ OwnI w.heap.size wr v out ∧ Below w.heap.size w wr ∧ Hid (l.filter rulR = out ++ (l.drop k).filter rulR))
  case atStart => exact ⟨0, [], by omega, rfl, by simp, OwnC.nil _ _, Below.refl _ _, rfl⟩
  case round =>
    obtain ⟨k, out, hkg, rfl, hok, HO, hb, HU⟩ := hrel
    have HO := Lib.hid HO
    have HB := Lib.hid hb
    have HK := Lib.hid hkg
    by_cases hlt : k < l.length
    · obtain ⟨b, off, ha, hbb, c00⟩ := SlR.atI HS.out hlt
      subst ha
      have c0 : wr.cell? ⟨b, off + k, none⟩ = some (.int .i64 l[k]) := (hb.cell (p := ⟨b, off + k, none⟩) hbb).trans c00
      have hbx : b < wr.heap.size := Nat.lt_of_lt_of_le hbb hb.size
      have hd : l.drop k = l[k] :: l.drop (k + 1) := List.drop_eq_getElem_cons hlt
      have HT : Hid (rulR l[k] = true → l.filter rulR = (out ++ [l[k]]) ++ (l.drop (k + 1)).filter rulR) := fun h => by rw [HU.out, hd, List.filter_cons_of_pos h]; simp
      have HF : Hid (rulR l[k] = false → l.filter rulR = out ++ (l.drop (k + 1)).filter rulR) := fun h => by rw [HU.out, hd, List.filter_cons_of_neg (by simp [h])]
      have HN := Lib.hid (rules_Name l[k] m wr (HM.out wr hb))
      have hne : (tabN rulW l[k]).isEmpty = !rulR l[k] := nameR_emp _
      clear hd c00 hb hkg HU
      generalize l[k] = x at c0 HT HF HN hne
      generalize tabN rulW x = nm at HN hne
      generalize rulR x = r at HT HF hne
      cases r
      · have HU2 := Lib.hid (HF.out rfl)
        have hne1 : nm.isEmpty = true := hne
        clear HT HF hne
        go_wp2_with fail
        refine HN.out.mono ?_
        rintro e w' ⟨rfl, j, rfl⟩
        go_wp2_with fail
        go_roundg (l.length - (k + 1))
        case measure => have := HK.out; omega
        case rel => exact ⟨k + 1, out, by have := HK.out; omega, by go_num, by omega, HO.out.below (C := wr.heap.size) (by repeat (first | (with_reducible exact Below.refl _ _) | (with_reducible refine Below.allocS ?_ _) | (with_reducible refine Below.moreS ?_ _) | (with_reducible refine Below.drew ?_) | (with_reducible refine below_drewN ?_ _))) (Nat.le_refl _), HB.out.trans (Below.mono (B := wr.heap.size) (by repeat (first | (with_reducible exact Below.refl _ _) | (with_reducible refine Below.allocS ?_ _) | (with_reducible refine Below.moreS ?_ _) | (with_reducible refine Below.drew ?_) | (with_reducible refine below_drewN ?_ _))) HB.out.size), HU2.out⟩
      · have HU2 := Lib.hid (HT.out rfl)
        have hne1 : nm.isEmpty = false := hne
        clear HT HF hne
        go_wp2_with fail
        refine HN.out.mono ?_
        rintro e w' ⟨rfl, j, rfl⟩
        go_wp2_with (at_builtin; refine app_c (y := x) st_ints intC_len intC_one (by omega) (.tmp 15) (.tmp 17) rfl rfl rfl (HO.out.below (C := wr.heap.size) (by repeat (first | (with_reducible exact Below.refl _ _) | (with_reducible refine Below.allocS ?_ _) | (with_reducible refine Below.moreS ?_ _) | (with_reducible refine Below.drew ?_) | (with_reducible refine below_drewN ?_ _))) (Nat.le_refl _)) rfl (Blk.at_ _ _ _ (by simp)) rfl (by omega) (by have := HB.out.size; simp only [World.size_alloc, World.size_more]; omega) ?_; intro v' w2 hown hbw)
        have hb2 := HB.out.trans ((Below.mono (B := wr.heap.size) (by repeat (first | (with_reducible exact Below.refl _ _) | (with_reducible refine Below.allocS ?_ _) | (with_reducible refine Below.moreS ?_ _) | (with_reducible refine Below.drew ?_) | (with_reducible refine below_drewN ?_ _))) HB.out.size).trans hbw)
        have HB2 := Lib.hid hb2
        have HO2 := Lib.hid hown
        clear hbw hb2 hown
        go_wp2_with fail
        go_roundg (l.length - (k + 1))
        case measure => have := HK.out; omega
        case rel => exact ⟨k + 1, out ++ [x], by have := HK.out; omega, by go_num, by simp; omega, HO2.out, HB2.out, HU2⟩
    · have hU : l.filter rulR = out := by rw [HU.out, List.drop_of_length_le (by omega)]; simp
      have hR : R = Lib.compact (out.mergeSort fun x y => decide (x ≤ y)) := by rw [HR.out, hU, sort_setI]
      have HSO := Lib.hid (sort_ints HO.out hb.size (by omega))
      have hol : (out.mergeSort fun x y => decide (x ≤ y)).length ≤ 1048576 := by rw [List.length_mergeSort]; omega
      have HOL := Lib.hid hol
      clear hU HU HR hb hkg HO hol
      generalize (out.mergeSort fun x y => decide (x ≤ y)) = sr at HSO hR HOL
      go_wp2_with fail
      refine HSO.out.mono ?_
      rintro e w1 ⟨rfl, ho1, hb1⟩
      have HB1 := Lib.hid (HB.out.trans hb1)
      have HC := Lib.hid (compact_ints ho1 (Nat.le_trans HB.out.size hb1.size) HOL.out)
      clear ho1 hb1
      go_wp2_with fail
      refine HC.out.mono ?_
      rintro e w2 ⟨v2, rfl, ho2, hb2⟩
      have HB2 := Lib.hid (HB1.out.trans hb2)
      have HO2 := Lib.hid ho2
      clear ho2 hb2
      go_wp2_with fail
      go_ret
      exact ⟨_, rfl, by rw [hR]; exact HO2.out, HB2.out⟩

theorem ofI_step {l : List Int} {r : Int} (hr : 1 ≤ r) (hr2 : r ≤ 35) : (ofR l).filter (fun x => decide (x < r + 1)) = (ofR l).filter (fun x => decide (x < r)) ++ (if r ∈ l then [r] else []) := by
  rw [upto_step _ (strict_ofR l) r]
  have : (r ∈ ofR l) ↔ r ∈ l := by rw [mem_ofR]; simp [rulR, hr, hr2]
  simp only [this]
set_option maxHeartbeats 8000000 in
set_option maxRecDepth 100000 in
theorem ref38_Of (a : Option Addr) (l : List Int) (cap : Nat) (hl : l.length ≤ 100000) (w : World) (hS : SlI w w.heap.size a l) :
    Calls Tryz.prog 37 #[.slice a l.length cap] w fun e w' => ∃ v, e = .returned v ∧ OwnI w.heap.size w' v (ofR l) ∧ Below w.heap.size w w' := by
  have HS := Lib.hid hS
  have H1 : Hid ((ofR l).filter (fun x => decide (x < 1)) = []) := upto_start l
  have H2 : Hid ((ofR l).filter (fun x => decide (x < 36)) = ofR l) := upto_end l
  have H3 : Hid (∀ r : Int, 1 ≤ r → r ≤ 35 → (ofR l).filter (fun x => decide (x < r + 1)) = (ofR l).filter (fun x => decide (x < r)) ++ (if r ∈ l then [r] else [])) := fun r => ofI_step
  clear hS
  generalize ofR l = R at H1 H2 H3 ⊢
  go_enter Tryz.func37, Tryz.ntmps37
  go_wp2_with fail
  go_loopg [3, 4] 35 (fun g v i wr => ∃ (k : Nat) (out : List Int), k + g = 35 ∧ i = .int .i64 ((k : Int) + 1) ∧ out.length ≤ k ∧ OwnI w.heap.size wr v out ∧ Below w.heap.size w wr ∧ Hid (R.filter (fun x => decide (x < (k : Int) + 1)) = out))
  case atStart => exact ⟨0, [], by omega, rfl, by simp, OwnC.nil _ _, Below.refl _ _, H1⟩
  case round =>
    obtain ⟨k, out, hkg, rfl, hok, HO, hb, HU⟩ := hrel
    have HO := Lib.hid HO
    have HB := Lib.hid hb
    have HK := Lib.hid hkg
    by_cases hlt : k < 35
    · have hle : (k : Int) + 1 ≤ 35 := by omega
      have HT : Hid ((k : Int) + 1 ∈ l → R.filter (fun x => decide (x < (k : Int) + 1 + 1)) = out ++ [(k : Int) + 1]) := fun h => by rw [H3.out _ (by omega) (by omega), HU.out, if_pos h]
      have HF : Hid ((k : Int) + 1 ∉ l → R.filter (fun x => decide (x < (k : Int) + 1 + 1)) = out) := fun h => by rw [H3.out _ (by omega) (by omega), HU.out, if_neg h]; simp
      have hw1 : IntKind.i64.wrap ((k : Int) + 1 + 1) = (k : Int) + 1 + 1 := IntWalk.i64_in _ (by omega)
      clear hb hkg HU
      go_wp2_with fail
      go_loopg [3, 5] l.length (fun g v2 i wr2 => ∃ (q : Nat), q + g = l.length ∧ i = .int .i64 q ∧ wr2 = wr ∧ OwnI w.heap.size wr v2 out ∧ Hid (∀ p (hp : p < l.length), p < q → l[p] ≠ (k : Int) + 1))
      case atStart => exact ⟨0, by omega, rfl, rfl, HO.out, fun p _ h => absurd h (by omega)⟩
      case round =>
        clear HO
        obtain ⟨q, hqg, rfl, rfl, HO, HQ⟩ := hrel
        have HO := Lib.hid HO
        have HQK := Lib.hid hqg
        by_cases hq : q < l.length
        · obtain ⟨b, off, ha, hbb, c00⟩ := SlR.atI HS.out hq
          subst ha
          have c0 : wr.cell? ⟨b, off + q, none⟩ = some (.int .i64 l[q]) := (HB.out.cell (p := ⟨b, off + q, none⟩) hbb).trans c00
          have hbx : b < wr.heap.size := Nat.lt_of_lt_of_le hbb HB.out.size
          have HM : Hid (l[q] ∈ l) := List.getElem_mem hq
          have HN : Hid (l[q] ≠ (k : Int) + 1 → ∀ p (hp : p < l.length), p < q + 1 → l[p] ≠ (k : Int) + 1) := fun h p hp hpq => by
            by_cases e : p = q
            · subst e; exact h
            · exact HQ.out p hp (by omega)
          clear c00 hqg
          generalize l[q] = x at c0 HM HN
          cases hx : (x == (k : Int) + 1)
          · have HN2 := Lib.hid (HN.out (by simpa using hx))
            clear HN HM
            go_wp2_with fail
            go_roundg (l.length - (q + 1))
            case measure => have := HQK.out; omega
            case rel => exact ⟨q + 1, by have := HQK.out; omega, by go_num, rfl, HO.out, HN2⟩
          · have he : x = (k : Int) + 1 := by simpa using hx
            subst he
            have HU2 := Lib.hid (HT.out HM.out)
            clear HT HF HM HN
            go_wp2_with (at_builtin; refine app_c (y := (k : Int) + 1) st_ints intC_len intC_one (by omega) (.tmp 22) (.tmp 24) rfl rfl rfl (HO.out.below (C := wr.heap.size) (by repeat (first | (with_reducible exact Below.refl _ _) | (with_reducible refine Below.allocS ?_ _) | (with_reducible refine Below.moreS ?_ _) | (with_reducible refine Below.drew ?_) | (with_reducible refine below_drewN ?_ _))) (Nat.le_refl _)) rfl (Blk.at_ _ _ _ (by simp)) rfl (by omega) (by have := HB.out.size; simp only [World.size_alloc, World.size_more]; omega) ?_; intro v' w2 hown hbw)
            have hb2 := HB.out.trans ((Below.mono (B := wr.heap.size) (by repeat (first | (with_reducible exact Below.refl _ _) | (with_reducible refine Below.allocS ?_ _) | (with_reducible refine Below.moreS ?_ _) | (with_reducible refine Below.drew ?_) | (with_reducible refine below_drewN ?_ _))) HB.out.size).trans hbw)
            have HB2 := Lib.hid hb2
            have HO2 := Lib.hid hown
            clear hbw hb2 hown
            go_wp2_with fail
            go_roundg (35 - (k + 1))
            case measure => have := HK.out; omega
            case rel => exact ⟨k + 1, out ++ [(k : Int) + 1], by have := HK.out; omega, by go_num, by simp; omega, HO2.out, HB2.out, HU2⟩
        · have HU2 := Lib.hid (HF.out (fun hm => by
            obtain ⟨p, hp, e⟩ := List.getElem_of_mem hm
            exact HQ.out p hp (by omega) e))
          clear HT HF HQ
          go_wp2_with fail
          go_roundg (35 - (k + 1))
          case measure => have := HK.out; omega
          case rel => exact ⟨k + 1, out, by have := HK.out; omega, by go_num, by omega, HO.out, HB.out, HU2⟩
    · have hR : R = out := by rw [← H2.out, ← HU.out, show (k : Int) + 1 = 36 by omega]
      have hle : ¬ (k : Int) + 1 ≤ 35 := by omega
      subst hR
      clear HU H1 H2 H3 hb hkg
      go_wp2_with fail
      go_ret
      exact ⟨_, rfl, HO.out, HB.out⟩
end Go.Proofs.YthbflllflnnipaaGreatDoor
