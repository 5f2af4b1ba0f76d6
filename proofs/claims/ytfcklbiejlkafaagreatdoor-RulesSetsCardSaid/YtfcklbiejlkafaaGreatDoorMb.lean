/-
  Parts of the proof, one behind the other: contracts of the program and plain laws; no condition of their own.
-/
import Derived.Test.YtfcklbiejlkafaaGreatDoorMa
import Derived.Deep.LoopGhost
import Derived.BigGuardPart
import Derived.Shelf.SlSortCmp.WholeK
import Derived.Lib.SlicesCompact
import Derived.Laws.StructEq
import Derived.Laws.IdiomCopy
import Derived.Deep.Draws
import Derived.Test.YtfcklbiejlkafaaGreatDoorSort
import Derived.Laws.OwnMore
import Derived.Shelf.SlSortCmp.NoneTotal
import Derived.Test.YtfcklbiejlkafaaGreatDoorShelf2
import Derived.WalkSmall
import Derived.Lib.SmallJoins
/-
  Rules: the set of those among some: both roads.
-/
namespace Go.Proofs.YtfcklbiejlkafaaGreatDoor
set_option linter.unusedSimpArgs false
set_option linter.unusedVariables false
set_option linter.unusedSectionVars false
open Go.ChangeShapes Go.WideShapes Go.ChangeAt Go.RowKit Go.Deep Go.Shelf

theorem max_keep {w W : World} {m : Int} (hM : w.cell? MaxA = some (.int .i64 m)) (hW : Below w.heap.size w W) : W.cell? MaxA = some (.int .i64 m) :=
  (hW.cell (p := MaxA) (World.block_lt_of_cell? w MaxA hM)).trans hM
set_option maxHeartbeats 8000000 in
set_option maxRecDepth 100000 in
theorem rules_Of (a : Option Addr) (l : List Int) (cap : Nat) (hl : l.length ≤ 100000) (m : Int) (w : World) (hM : w.cell? MaxA = some (.int .i64 m)) (hS : SlI w w.heap.size a l) :
    Calls Tryz.prog 6 #[.slice a l.length cap] w fun e w' => ∃ v, e = .returned v ∧ OwnI w.heap.size w' v (ofR l) ∧ Below w.heap.size w w' := by
  have HR : Hid (ofR l = setS ltI (l.filter rulR)) := rfl
  generalize ofR l = R at HR ⊢
  have HS := Lib.hid hS
  have HM : Hid (∀ W, Below w.heap.size w W → W.cell? MaxA = some (.int .i64 m)) := fun W hW => max_keep hM hW
  clear hS hM
  go_enter Tryz.func6, Tryz.ntmps6
  go_wp2_with fail
  go_loopg [3, 8] l.length (fun g v i wr => ∃ (k : Nat) (out : List Int), k + g = l.length ∧ i = .int .i64 k ∧ out.length ≤ k ∧ OwnI w.heap.size wr v out ∧ Below w.heap.size w wr ∧ Hid (l.filter rulR = out ++ (l.drop k).filter rulR))
  case atStart => exact ⟨0, [], by omega, rfl, by simp, OwnC.nil _ _, Below.refl _ _, rfl⟩
  case round =>
    obtain ⟨k, out, hkg, rfl, hok, HO, hb, HU⟩ := hrel
    have HO := Lib.hid HO
    have HB := Lib.hid hb
    have HK := Lib.hid hkg
    by_cases hlt : k < l.length
    · obtain ⟨b, off, ha, hbb, c00⟩ := SlR.atI HS.out hlt
      subst ha
      have c0 : wr.cell? ⟨b, off + k, none⟩ = some (.int .i64 l[k]) := (hb.cell (p := ⟨b, off + k, none⟩) hbb).trans c00
      have hbx : b < wr.heap.size := Nat.lt_of_lt_of_le hbb hb.size
      have hd : l.drop k = l[k] :: l.drop (k + 1) := List.drop_eq_getElem_cons hlt
      have HT : Hid (rulR l[k] = true → l.filter rulR = (out ++ [l[k]]) ++ (l.drop (k + 1)).filter rulR) := fun h => by rw [HU.out, hd, List.filter_cons_of_pos h]; simp
      have HF : Hid (rulR l[k] = false → l.filter rulR = out ++ (l.drop (k + 1)).filter rulR) := fun h => by rw [HU.out, hd, List.filter_cons_of_neg (by simp [h])]
      have HN := Lib.hid (rules_Name l[k] m wr (HM.out wr hb))
      have hne : (tabN rulW l[k]).isEmpty = !rulR l[k] := nameR_emp _
      clear hd c00 hb hkg HU
      generalize l[k] = x at c0 HT HF HN hne
      generalize tabN rulW x = nm at HN hne
      generalize rulR x = r at HT HF hne
      cases r
      · have HU2 := Lib.hid (HF.out rfl)
        have hne1 : nm.isEmpty = true := hne
        clear HT HF hne
        go_wp2_with fail
        refine HN.out.mono ?_
        rintro e w' ⟨rfl, j, rfl⟩
        go_wp2_with fail
        go_roundg (l.length - (k + 1))
        case measure => have := HK.out; omega
        case rel => exact ⟨k + 1, out, by have := HK.out; omega, by go_num, by omega, HO.out.below (C := wr.heap.size) (by repeat (first | (with_reducible exact Below.refl _ _) | (with_reducible refine Below.allocS ?_ _) | (with_reducible refine Below.moreS ?_ _) | (with_reducible refine Below.drew ?_) | (with_reducible refine below_drewN ?_ _))) (Nat.le_refl _), HB.out.trans (Below.mono (B := wr.heap.size) (by repeat (first | (with_reducible exact Below.refl _ _) | (with_reducible refine Below.allocS ?_ _) | (with_reducible refine Below.moreS ?_ _) | (with_reducible refine Below.drew ?_) | (with_reducible refine below_drewN ?_ _))) HB.out.size), HU2.out⟩
      · have HU2 := Lib.hid (HT.out rfl)
        have hne1 : nm.isEmpty = false := hne
        clear HT HF hne
        go_wp2_with fail
        refine HN.out.mono ?_
        rintro e w' ⟨rfl, j, rfl⟩
        go_wp2_with (at_builtin; refine app_c (y := x) st_ints intC_len intC_one (by omega) (.tmp 15) (.tmp 17) rfl rfl rfl (HO.out.below (C := wr.heap.size) (by repeat (first | (with_reducible exact Below.refl _ _) | (with_reducible refine Below.allocS ?_ _) | (with_reducible refine Below.moreS ?_ _) | (with_reducible refine Below.drew ?_) | (with_reducible refine below_drewN ?_ _))) (Nat.le_refl _)) rfl (Blk.at_ _ _ _ (by simp)) rfl (by omega) (by have := HB.out.size; simp only [World.size_alloc, World.size_more]; omega) ?_; intro v' w2 hown hbw)
        have hb2 := HB.out.trans ((Below.mono (B := wr.heap.size) (by repeat (first | (with_reducible exact Below.refl _ _) | (with_reducible refine Below.allocS ?_ _) | (with_reducible refine Below.moreS ?_ _) | (with_reducible refine Below.drew ?_) | (with_reducible refine below_drewN ?_ _))) HB.out.size).trans hbw)
        have HB2 := Lib.hid hb2
        have HO2 := Lib.hid hown
        clear hbw hb2 hown
        go_wp2_with fail
        go_roundg (l.length - (k + 1))
        case measure => have := HK.out; omega
        case rel => exact ⟨k + 1, out ++ [x], by have := HK.out; omega, by go_num, by simp; omega, HO2.out, HB2.out, HU2⟩
    · have hU : l.filter rulR = out := by rw [HU.out, List.drop_of_length_le (by omega)]; simp
      have hR : R = Lib.compact (out.mergeSort fun x y => decide (x ≤ y)) := by rw [HR.out, hU, sort_setI]
      have HSO := Lib.hid (sort_ints HO.out hb.size (by omega))
      have hol : (out.mergeSort fun x y => decide (x ≤ y)).length ≤ 1048576 := by rw [List.length_mergeSort]; omega
      have HOL := Lib.hid hol
      clear hU HU HR hb hkg HO hol
      generalize (out.mergeSort fun x y => decide (x ≤ y)) = sr at HSO hR HOL
      go_wp2_with fail
      refine HSO.out.mono ?_
      rintro e w1 ⟨rfl, ho1, hb1⟩
      have HB1 := Lib.hid (HB.out.trans hb1)
      have HC := Lib.hid (compact_ints ho1 (Nat.le_trans HB.out.size hb1.size) HOL.out)
      clear ho1 hb1
      go_wp2_with fail
      refine HC.out.mono ?_
      rintro e w2 ⟨v2, rfl, ho2, hb2⟩
      have HB2 := Lib.hid (HB1.out.trans hb2)
      have HO2 := Lib.hid ho2
      clear ho2 hb2
      go_wp2_with fail
      go_ret
      exact ⟨_, rfl, by rw [hR]; exact HO2.out, HB2.out⟩

theorem ofI_step {l : List Int} {r : Int} (hr : 1 ≤ r) (hr2 : r ≤ 35) : (ofR l).filter (fun x => decide (x < r + 1)) = (ofR l).filter (fun x => decide (x < r)) ++ (if r ∈ l then [r] else []) := by
  rw [upto_step _ (strict_ofR l) r]
  have : (r ∈ ofR l) ↔ r ∈ l := by rw [mem_ofR]; simp [rulR, hr, hr2]
  simp only [this]
set_option maxHeartbeats 8000000 in
set_option maxRecDepth 100000 in
theorem ref38_Of (a : Option Addr) (l : List Int) (cap : Nat) (hl : l.length ≤ 100000) (w : World) (hS : SlI w w.heap.size a l) :
    Calls Tryz.prog 11 #[.slice a l.length cap] w fun e w' => ∃ v, e = .returned v ∧ OwnI w.heap.size w' v (ofR l) ∧ Below w.heap.size w w' := by
  have HS := Lib.hid hS
  have H1 : Hid ((ofR l).filter (fun x => decide (x < 1)) = []) := upto_start l
  have H2 : Hid ((ofR l).filter (fun x => decide (x < 36)) = ofR l) := upto_end l
  have H3 : Hid (∀ r : Int, 1 ≤ r → r ≤ 35 → (ofR l).filter (fun x => decide (x < r + 1)) = (ofR l).filter (fun x => decide (x < r)) ++ (if r ∈ l then [r] else [])) := fun r => ofI_step
  clear hS
  generalize ofR l = R at H1 H2 H3 ⊢
  go_enter Tryz.func11, Tryz.ntmps11
  go_wp2_with fail
  go_loopg [3, 4] 35 (fun g v i wr => ∃ (k : Nat) (out : List Int), k + g = 35 ∧ i = .int .i64 ((k : Int) + 1) ∧ out.length ≤ k ∧ OwnI w.heap.size wr v out ∧ Below w.heap.size w wr ∧ Hid (R.filter (fun x => decide (x < (k : Int) + 1)) = out))
  case atStart => exact ⟨0, [], by omega, rfl, by simp, OwnC.nil _ _, Below.refl _ _, H1⟩
  case round =>
    obtain ⟨k, out, hkg, rfl, hok, HO, hb, HU⟩ := hrel
    have HO := Lib.hid HO
    have HB := Lib.hid hb
    have HK := Lib.hid hkg
    by_cases hlt : k < 35
    · have hle : (k : Int) + 1 ≤ 35 := by omega
      have HT : Hid ((k : Int) + 1 ∈ l → R.filter (fun x => decide (x < (k : Int) + 1 + 1)) = out ++ [(k : Int) + 1]) := fun h => by rw [H3.out _ (by omega) (by omega), HU.out, if_pos h]
      have HF : Hid ((k : Int) + 1 ∉ l → R.filter (fun x => decide (x < (k : Int) + 1 + 1)) = out) := fun h => by rw [H3.out _ (by omega) (by omega), HU.out, if_neg h]; simp
      have hw1 : IntKind.i64.wrap ((k : Int) + 1 + 1) = (k : Int) + 1 + 1 := IntWalk.i64_in _ (by omega)
      clear hb hkg HU
      go_wp2_with fail
      go_loopg [3, 5] l.length (fun g v2 i wr2 => ∃ (q : Nat), q + g = l.length ∧ i = .int .i64 q ∧ wr2 = wr ∧ OwnI w.heap.size wr v2 out ∧ Hid (∀ p (hp : p < l.length), p < q → l[p] ≠ (k : Int) + 1))
      case atStart => exact ⟨0, by omega, rfl, rfl, HO.out, fun p _ h => absurd h (by omega)⟩
      case round =>
        clear HO
        obtain ⟨q, hqg, rfl, rfl, HO, HQ⟩ := hrel
        have HO := Lib.hid HO
        have HQK := Lib.hid hqg
        by_cases hq : q < l.length
        · obtain ⟨b, off, ha, hbb, c00⟩ := SlR.atI HS.out hq
          subst ha
          have c0 : wr.cell? ⟨b, off + q, none⟩ = some (.int .i64 l[q]) := (HB.out.cell (p := ⟨b, off + q, none⟩) hbb).trans c00
          have hbx : b < wr.heap.size := Nat.lt_of_lt_of_le hbb HB.out.size
          have HM : Hid (l[q] ∈ l) := List.getElem_mem hq
          have HN : Hid (l[q] ≠ (k : Int) + 1 → ∀ p (hp : p < l.length), p < q + 1 → l[p] ≠ (k : Int) + 1) := fun h p hp hpq => by
            by_cases e : p = q
            · subst e; exact h
            · exact HQ.out p hp (by omega)
          clear c00 hqg
          generalize l[q] = x at c0 HM HN
          cases hx : (x == (k : Int) + 1)
          · have HN2 := Lib.hid (HN.out (by simpa using hx))
            clear HN HM
            go_wp2_with fail
            go_roundg (l.length - (q + 1))
            case measure => have := HQK.out; omega
            case rel => exact ⟨q + 1, by have := HQK.out; omega, by go_num, rfl, HO.out, HN2⟩
          · have he : x = (k : Int) + 1 := by simpa using hx
            subst he
            have HU2 := Lib.hid (HT.out HM.out)
            clear HT HF HM HN
            go_wp2_with (at_builtin; refine app_c (y := (k : Int) + 1) st_ints intC_len intC_one (by omega) (.tmp 22) (.tmp 24) rfl rfl rfl (HO.out.below (C := wr.heap.size) (by repeat (first | (with_reducible exact Below.refl _ _) | (with_reducible refine Below.allocS ?_ _) | (with_reducible refine Below.moreS ?_ _) | (with_reducible refine Below.drew ?_) | (with_reducible refine below_drewN ?_ _))) (Nat.le_refl _)) rfl (Blk.at_ _ _ _ (by simp)) rfl (by omega) (by have := HB.out.size; simp only [World.size_alloc, World.size_more]; omega) ?_; intro v' w2 hown hbw)
            have hb2 := HB.out.trans ((Below.mono (B := wr.heap.size) (by repeat (first | (with_reducible exact Below.refl _ _) | (with_reducible refine Below.allocS ?_ _) | (with_reducible refine Below.moreS ?_ _) | (with_reducible refine Below.drew ?_) | (with_reducible refine below_drewN ?_ _))) HB.out.size).trans hbw)
            have HB2 := Lib.hid hb2
            have HO2 := Lib.hid hown
            clear hbw hb2 hown
            go_wp2_with fail
            go_roundg (35 - (k + 1))
            case measure => have := HK.out; omega
            case rel => exact ⟨k + 1, out ++ [(k : Int) + 1], by have := HK.out; omega, by go_num, by simp; omega, HO2.out, HB2.out, HU2⟩
        · have HU2 := Lib.hid (HF.out (fun hm => by
            obtain ⟨p, hp, e⟩ := List.getElem_of_mem hm
            exact HQ.out p hp (by omega) e))
          clear HT HF HQ
          go_wp2_with fail
          go_roundg (35 - (k + 1))
          case measure => have := HK.out; omega
          case rel => exact ⟨k + 1, out, by have := HK.out; omega, by go_num, by omega, HO.out, HB.out, HU2⟩
    · have hR : R = out := by rw [← H2.out, ← HU.out, show (k : Int) + 1 = 36 by omega]
      have hle : ¬ (k : Int) + 1 ≤ 35 := by omega
      subst hR
      clear HU H1 H2 H3 hb hkg
      go_wp2_with fail
      go_ret
      exact ⟨_, rfl, HO.out, HB.out⟩
end Go.Proofs.YtfcklbiejlkafaaGreatDoor
/-
  Rules: what each is, both roads: the statement RulesNames, ahead of the chapter's examples.
-/
namespace Go.Proofs.YtfcklbiejlkafaaGreatDoor
set_option linter.unusedSimpArgs false
set_option linter.unusedVariables false
set_option linter.unusedSectionVars false
open Go.ChangeShapes Go.WideShapes Go.ChangeAt Go.RowKit Go.Deep Go.Shelf

/-- What the examples say. -/
abbrev Alive38 (w : World) : Prop := ∀ W, Below w.heap.size w W → Calls Tryz.prog 5 #[] W fun e w' => e = .returned (.bool true) ∧ ∃ j, w' = W.more j
set_option maxHeartbeats 8000000 in
set_option maxRecDepth 100000 in
theorem rulesNames_at (rule : Int) (s : List UInt8) (m : Int) (w : World) (h0 : -9223372036854775808 ≤ rule) (h1 : rule ≤ 9223372036854775807) (hms : s.length ≤ maxLen) (hM : w.cell? MaxA = some (.int .i64 m)) (hA : Alive38 w) :
    Calls Tryz.prog 4 #[.int .i64 rule, bstr s] w fun e w' => e = .returned (.bool true) ∧ ∃ j, w' = w.more j := by
  have HAL := Lib.hid hA
  unfold maxLen at hms
  by_cases g : 100 < s.length
  · have g1 : (100 : Int) < s.length := by omega
    clear hM hA
    go_enter Tryz.func4, Tryz.ntmps4
    go_wp2_with (go_at_call 5; (with_reducible refine (HAL.out _ (by repeat (first | (with_reducible exact Below.refl _ _) | (with_reducible refine Below.allocS ?_ _) | (with_reducible refine Below.moreS ?_ _) | (with_reducible refine Below.drew ?_) | (with_reducible refine below_drewN ?_ _)))).mono ?_); rintro e w' ⟨rfl, j, rfl⟩)
    go_ret
    exact ⟨rfl, Below.junk (by repeat (first | (with_reducible exact Below.refl _ _) | (with_reducible refine Below.allocS ?_ _) | (with_reducible refine Below.moreS ?_ _) | (with_reducible refine Below.drew ?_) | (with_reducible refine below_drewN ?_ _)))⟩
  have g1 : ¬ (100 : Int) < s.length := by omega
  have HN : Hid (∀ W, Below w.heap.size w W → Calls Tryz.prog 13 #[.int .i64 rule] W fun e w' => e = .returned (bstr (tabN rulW rule)) ∧ ∃ j, w' = W.more j) := fun W hW => rules_Name rule m W (max_keep hM hW)
  have HS : Hid (∀ W, Below w.heap.size w W → Calls Tryz.prog 17 #[.int .i64 rule] W fun e w' => e = .returned (bstr (tabN secW rule)) ∧ ∃ j, w' = W.more j) := fun W hW => rules_Section rule m W (max_keep hM hW)
  have HK : Hid (∀ W, Below w.heap.size w W → Calls Tryz.prog 19 #[.int .i64 rule] W fun e w' => e = .returned (bstr (tabN askW rule)) ∧ ∃ j, w' = W.more j) := fun W hW => rules_Asks rule m W (max_keep hM hW)
  have HB : Hid (∀ W, Below w.heap.size w W → Calls Tryz.prog 14 #[bstr s] W fun e w' => e = .returned (.tuple #[.int .i64 (idxX rulW s + 1), .bool (decide (0 ≤ idxX rulW s))]) ∧ ∃ j, w' = W.more j) := fun W hW => rules_ByName s m W (max_keep hM hW)
  have HB2 : Hid (∀ W, Below w.heap.size w W → Calls Tryz.prog 14 #[bstr (tabN rulW rule)] W fun e w' => e = .returned (.tuple #[.int .i64 (idxX rulW (tabN rulW rule) + 1), .bool (decide (0 ≤ idxX rulW (tabN rulW rule)))]) ∧ ∃ j, w' = W.more j) := fun W hW => rules_ByName _ m W (max_keep hM hW)
  have HN' : Hid (∀ W, Calls Tryz.prog 16 #[.int .i64 rule] W fun e w' => e = .returned (bstr (tabN rulW rule)) ∧ ∃ j, w' = W.more j) := ref38_Name rule
  have HS' : Hid (∀ W, Calls Tryz.prog 18 #[.int .i64 rule] W fun e w' => e = .returned (bstr (tabN secW rule)) ∧ ∃ j, w' = W.more j) := ref38_Section rule
  have HK' : Hid (∀ W, Calls Tryz.prog 20 #[.int .i64 rule] W fun e w' => e = .returned (bstr (tabN askW rule)) ∧ ∃ j, w' = W.more j) := ref38_Asks rule
  have HB' : Hid (∀ W, Calls Tryz.prog 15 #[bstr s] W fun e w' => e = .returned (.tuple #[.int .i64 (idxX rulW s + 1), .bool (decide (0 ≤ idxX rulW s))]) ∧ ∃ j, w' = W.more j) := ref38_ByName s
  generalize decide (0 ≤ idxX rulW s) = is at HB HB'
  generalize idxX rulW s = f at HB HB'
  by_cases hin : 1 ≤ rule ∧ rule ≤ 35
  · obtain ⟨q, rfl⟩ : ∃ q : Nat, rule = (q : Int) + 1 := ⟨(rule - 1).toNat, by omega⟩
    have hq : q < 35 := by omega
    rw [tab_in rulW q hq, rul_idx q hq, decide_eq_true (by omega : (0 : Int) ≤ q)] at HB2
    rw [tab_in rulW q hq] at HN HN'
    have hne : (rulW.getD q [] == ([] : List UInt8)) = false := by have := rul_ne ⟨q, hq⟩; simpa using this
    generalize rulW.getD q [] = N at HN HN' HB2 hne
    generalize tabN secW ((q : Int) + 1) = S at HS HS'
    generalize tabN askW ((q : Int) + 1) = A at HK HK'
    clear hM hA g hin hms h0 h1
    go_enter Tryz.func4, Tryz.ntmps4
    go_wp2_with (first
      | (go_at_call 13; (with_reducible refine (HN.out _ (by repeat (first | (with_reducible exact Below.refl _ _) | (with_reducible refine Below.allocS ?_ _) | (with_reducible refine Below.moreS ?_ _) | (with_reducible refine Below.drew ?_) | (with_reducible refine below_drewN ?_ _)))).mono ?_); rintro e w' ⟨rfl, j, rfl⟩)
      | (go_at_call 14; (with_reducible refine (HB.out _ (by repeat (first | (with_reducible exact Below.refl _ _) | (with_reducible refine Below.allocS ?_ _) | (with_reducible refine Below.moreS ?_ _) | (with_reducible refine Below.drew ?_) | (with_reducible refine below_drewN ?_ _)))).mono ?_); rintro e w' ⟨rfl, j, rfl⟩)
      | (go_at_call 14; (with_reducible refine (HB2.out _ (by repeat (first | (with_reducible exact Below.refl _ _) | (with_reducible refine Below.allocS ?_ _) | (with_reducible refine Below.moreS ?_ _) | (with_reducible refine Below.drew ?_) | (with_reducible refine below_drewN ?_ _)))).mono ?_); rintro e w' ⟨rfl, j, rfl⟩)
      | (go_at_call 15; (with_reducible refine (HB'.out _).mono ?_); rintro e w' ⟨rfl, j, rfl⟩)
      | (go_at_call 16; (with_reducible refine (HN'.out _).mono ?_); rintro e w' ⟨rfl, j, rfl⟩)
      | (go_at_call 17; (with_reducible refine (HS.out _ (by repeat (first | (with_reducible exact Below.refl _ _) | (with_reducible refine Below.allocS ?_ _) | (with_reducible refine Below.moreS ?_ _) | (with_reducible refine Below.drew ?_) | (with_reducible refine below_drewN ?_ _)))).mono ?_); rintro e w' ⟨rfl, j, rfl⟩)
      | (go_at_call 18; (with_reducible refine (HS'.out _).mono ?_); rintro e w' ⟨rfl, j, rfl⟩)
      | (go_at_call 19; (with_reducible refine (HK.out _ (by repeat (first | (with_reducible exact Below.refl _ _) | (with_reducible refine Below.allocS ?_ _) | (with_reducible refine Below.moreS ?_ _) | (with_reducible refine Below.drew ?_) | (with_reducible refine below_drewN ?_ _)))).mono ?_); rintro e w' ⟨rfl, j, rfl⟩)
      | (go_at_call 20; (with_reducible refine (HK'.out _).mono ?_); rintro e w' ⟨rfl, j, rfl⟩)
      | (go_at_call 5; (with_reducible refine (HAL.out _ (by repeat (first | (with_reducible exact Below.refl _ _) | (with_reducible refine Below.allocS ?_ _) | (with_reducible refine Below.moreS ?_ _) | (with_reducible refine Below.drew ?_) | (with_reducible refine below_drewN ?_ _)))).mono ?_); rintro e w' ⟨rfl, j, rfl⟩))
    go_ret
    exact ⟨rfl, Below.junk (by repeat (first | (with_reducible exact Below.refl _ _) | (with_reducible refine Below.allocS ?_ _) | (with_reducible refine Below.moreS ?_ _) | (with_reducible refine Below.drew ?_) | (with_reducible refine below_drewN ?_ _)))⟩
  · rw [tab_out rulW (by omega)] at HN HN' HB2
    generalize decide (0 ≤ idxX rulW []) = is2 at HB2
    generalize idxX rulW [] = f2 at HB2
    generalize tabN secW rule = S at HS HS'
    generalize tabN askW rule = A at HK HK'
    clear hM hA g hin hms h0 h1
    go_enter Tryz.func4, Tryz.ntmps4
    go_wp2_with (first
      | (go_at_call 13; (with_reducible refine (HN.out _ (by repeat (first | (with_reducible exact Below.refl _ _) | (with_reducible refine Below.allocS ?_ _) | (with_reducible refine Below.moreS ?_ _) | (with_reducible refine Below.drew ?_) | (with_reducible refine below_drewN ?_ _)))).mono ?_); rintro e w' ⟨rfl, j, rfl⟩)
      | (go_at_call 14; (with_reducible refine (HB.out _ (by repeat (first | (with_reducible exact Below.refl _ _) | (with_reducible refine Below.allocS ?_ _) | (with_reducible refine Below.moreS ?_ _) | (with_reducible refine Below.drew ?_) | (with_reducible refine below_drewN ?_ _)))).mono ?_); rintro e w' ⟨rfl, j, rfl⟩)
      | (go_at_call 14; (with_reducible refine (HB2.out _ (by repeat (first | (with_reducible exact Below.refl _ _) | (with_reducible refine Below.allocS ?_ _) | (with_reducible refine Below.moreS ?_ _) | (with_reducible refine Below.drew ?_) | (with_reducible refine below_drewN ?_ _)))).mono ?_); rintro e w' ⟨rfl, j, rfl⟩)
      | (go_at_call 15; (with_reducible refine (HB'.out _).mono ?_); rintro e w' ⟨rfl, j, rfl⟩)
      | (go_at_call 16; (with_reducible refine (HN'.out _).mono ?_); rintro e w' ⟨rfl, j, rfl⟩)
      | (go_at_call 17; (with_reducible refine (HS.out _ (by repeat (first | (with_reducible exact Below.refl _ _) | (with_reducible refine Below.allocS ?_ _) | (with_reducible refine Below.moreS ?_ _) | (with_reducible refine Below.drew ?_) | (with_reducible refine below_drewN ?_ _)))).mono ?_); rintro e w' ⟨rfl, j, rfl⟩)
      | (go_at_call 18; (with_reducible refine (HS'.out _).mono ?_); rintro e w' ⟨rfl, j, rfl⟩)
      | (go_at_call 19; (with_reducible refine (HK.out _ (by repeat (first | (with_reducible exact Below.refl _ _) | (with_reducible refine Below.allocS ?_ _) | (with_reducible refine Below.moreS ?_ _) | (with_reducible refine Below.drew ?_) | (with_reducible refine below_drewN ?_ _)))).mono ?_); rintro e w' ⟨rfl, j, rfl⟩)
      | (go_at_call 20; (with_reducible refine (HK'.out _).mono ?_); rintro e w' ⟨rfl, j, rfl⟩)
      | (go_at_call 5; (with_reducible refine (HAL.out _ (by repeat (first | (with_reducible exact Below.refl _ _) | (with_reducible refine Below.allocS ?_ _) | (with_reducible refine Below.moreS ?_ _) | (with_reducible refine Below.drew ?_) | (with_reducible refine below_drewN ?_ _)))).mono ?_); rintro e w' ⟨rfl, j, rfl⟩))
    go_ret
    exact ⟨rfl, Below.junk (by repeat (first | (with_reducible exact Below.refl _ _) | (with_reducible refine Below.allocS ?_ _) | (with_reducible refine Below.moreS ?_ _) | (with_reducible refine Below.drew ?_) | (with_reducible refine below_drewN ?_ _)))⟩
end Go.Proofs.YtfcklbiejlkafaaGreatDoor
/-
  Rows of texts that the call itself has built.
-/
namespace Go.Proofs.YtfcklbiejlkafaaGreatDoor
set_option linter.unusedSimpArgs false
set_option linter.unusedVariables false
set_option linter.unusedSectionVars false
open Go.ChangeShapes Go.WideShapes Go.ChangeAt Go.RowKit Go.Deep Go.Shelf

theorem st_texts : SliceTy Tryz.prog 42 9 (.string .empty) 1 16 := .mk' Tryz.underlying42 (by kernel_rfl) rfl (by omega)
def OwnX (B : Nat) (w : World) (v : Value) (l : List (List UInt8)) : Prop := w.ownsRow B 9 1 v l.length (l.map bstr)
theorem OwnX.nil (B : Nat) (w : World) : OwnX B w (.slice none 0 0) [] := World.ownsRow_nil _ _ _ _
theorem OwnX.alloc {B : Nat} {w : World} {v : Value} {l : List (List UInt8)} (h : OwnX B w v l) (o : Obj) : OwnX B (w.alloc o) v l := World.ownsRow.alloc h o
theorem OwnX.below {B C : Nat} {w w' : World} {v : Value} {l : List (List UInt8)} (h : OwnX B w v l) (hb : Below C w w') (hC : w.heap.size ≤ C) : OwnX B w' v l := own_below h hb hC
theorem OwnX.read {B : Nat} {w : World} {v : Value} {l : List (List UInt8)} (h : OwnX B w v l) (hl : ∀ x ∈ l, x.length ≤ maxLen) : ∃ a cap, v = .slice a l.length cap ∧ SlX w w.heap.size a l := by
  have e : l.map bstr = l.flatMap (fun s => [bstr s]) := by clear h hl; induction l <;> simp_all
  unfold OwnX at h
  rw [e] at h
  obtain ⟨a, cap, hv, hs⟩ := own_slr h (fun _ _ => rfl)
  exact ⟨a, cap, hv, hs.mono (Nat.le_refl _) (fun x hx cs hc => ⟨hc, hl x hx⟩)⟩
theorem OwnX.cap {B : Nat} {w : World} {v : Value} {l : List (List UInt8)} (h : OwnX B w v l) : ∃ a cap, v = .slice a l.length cap ∧ l.length ≤ cap := by
  have h0 : w.ownsRow B 9 1 v l.length (l.map bstr) := h
  rcases h0.2 with ⟨rfl, hn⟩ | ⟨g, cap, cur, rfl, hg, hh, h3, h4, h5, h6⟩
  · have : l = [] := List.eq_nil_of_length_eq_zero hn
    subst this
    exact ⟨none, 0, rfl, Nat.le_refl _⟩
  · exact ⟨_, cap, rfl, h3⟩
theorem app_text {ops : Array Oper} {rest : List Oper} {o : Oper} {a : Act} {Q : Exit → Act → World → Prop} {w : World}
    (s x : Operand) (hgd : o.guard = none) (ho : o.op = .call { callee := .builtin .append, args := #[s, x], argTypes := #[42, 42] })
    {B : Nat} {v : Value} {l : List (List UInt8)} {c : List UInt8} (hs : a.eval s = v) (hown : OwnX B w v l)
    {g cc : Nat} {e' : TypeId} (hx : a.eval x = .slice (some ⟨g, 0, none⟩) 1 cc) (hb : Blk w g e' #[bstr c])
    (hl : l.length + 1 ≤ 1048576) (hB : B ≤ w.heap.size)
    (h : ∀ v' w', OwnX B w' v' (l ++ [c]) → Below B w w' → wpList Tryz.prog ops Q rest (a.put o.dst v') w') : wpList Tryz.prog ops Q (o :: rest) a w := by
  refine wpList_app st_texts s x hgd ho hs hown hx hb rfl (by intro u hu; simp at hu; subst hu; rfl) (by unfold maxLen; omega) (by omega) hB (fun v' w' h1 h2 => h v' w' ?_ (own_grown (Below.refl B w) hown h2 (Nat.le_refl _) hB))
  unfold OwnX
  rw [List.map_append, List.length_append]
  exact h1
theorem pre_pre (p q : List UInt8) (l : List (List UInt8)) : preF p (preF q l) = preF (p ++ q) l := by cases l <;> simp [preF]
end Go.Proofs.YtfcklbiejlkafaaGreatDoor
/-
  Faults: texts joined with any byte between.
-/
namespace Go.Proofs.YtfcklbiejlkafaaGreatDoor
set_option linter.unusedSimpArgs false
set_option linter.unusedVariables false
set_option linter.unusedSectionVars false
open Go.ChangeShapes Go.WideShapes Go.ChangeAt Go.RowKit Go.Deep Go.Shelf

theorem join_leC (c : UInt8) (l : List (List UInt8)) (h : ∀ x ∈ l, x.length ≤ 1000) : (Lib.join l [c]).length ≤ 1001 * l.length := by
  cases l with
  | nil => simp [Lib.join_nil]
  | cons x r =>
    rw [Lib.join_length]
    have : ∀ m : List (List UInt8), (∀ x ∈ m, x.length ≤ 1000) → Lib.lens m ≤ 1000 * m.length := by
      intro m
      induction m with
      | nil => intro _; simp [Lib.lens]
      | cons y t ih =>
        intro h
        have := ih (fun x hx => h x (by simp [hx]))
        have := h y (by simp)
        simp only [Lib.lens, List.map_cons, List.sum_cons, List.length_cons] at *
        omega
    have := this (x :: r) h
    simp only [List.length_cons, List.length_nil] at *
    omega
theorem strings_joinC (c : UInt8) (a : Option Addr) (cap : Nat) (l : List (List UInt8)) (w : World) (hm : l.length ≤ 1000) (hw : ∀ x ∈ l, x.length ≤ 1000) (hcap : l.length ≤ cap) (hs : SlX w w.heap.size a l) :
    Calls Tryz.prog 25 #[.slice a l.length cap, bstr [c]] w fun e w' => e = .returned (bstr (Lib.join l [c])) ∧ Below w.heap.size w w' := by
  by_cases h0 : l = []
  · subst h0
    exact (Tryz.strings_Join_none a cap ⟨#[c]⟩ w).mono fun e w' ⟨he, hw⟩ => ⟨by rw [he]; rfl, by rw [hw]; exact Below.refl _ _⟩
  · have hp : 0 < l.length := List.length_pos_iff.2 h0
    obtain ⟨b, off, rfl, hb, _, _⟩ := hs.atX hp
    have hj := join_leC c l hw
    have hx : (l.map (fun s => (⟨s.toArray⟩ : ByteArray))).map (·.data.toList) = l := by rw [List.map_map]; exact (List.map_congr_left (fun _ _ => rfl)).trans (List.map_id l)
    have := Tryz.strings_Join b off cap (l.map (fun s => (⟨s.toArray⟩ : ByteArray))) ⟨#[c]⟩ w (fun j x hjx => by
      rw [List.getElem?_map] at hjx
      obtain ⟨y, hy, rfl⟩ := Option.map_eq_some_iff.1 hjx
      obtain ⟨hlt, rfl⟩ := List.getElem?_eq_some_iff.1 hy
      obtain ⟨b', off', e, _, hc, _⟩ := hs.atX hlt
      injection e with e
      injection e with e1 e2
      subst e1 e2
      exact hc) hb (by simp; omega) (by simpa using hcap) (by rw [hx]; show (Lib.join l [c]).length ≤ _; omega)
    rw [hx, List.length_map] at this
    exact this
end Go.Proofs.YtfcklbiejlkafaaGreatDoor
/-
  Rules: a set's names as a text: both roads.
-/
namespace Go.Proofs.YtfcklbiejlkafaaGreatDoor
set_option linter.unusedSimpArgs false
set_option linter.unusedVariables false
set_option linter.unusedSectionVars false
open Go.ChangeShapes Go.WideShapes Go.ChangeAt Go.RowKit Go.Deep Go.Shelf

set_option maxHeartbeats 8000000 in
set_option maxRecDepth 100000 in
theorem rules_Show (a : Option Addr) (l : List Int) (cap : Nat) (hl : l.length ≤ 1000) (m : Int) (w : World) (hM : w.cell? MaxA = some (.int .i64 m)) (hS : SlI w w.heap.size a l) :
    Calls Tryz.prog 7 #[.slice a l.length cap] w fun e w' => e = .returned (bstr (showR l)) ∧ ∃ j, w' = w.more j := by
  have HO := Lib.hid (rules_Of a l cap (by omega) m w hM hS)
  have hlen := ofR_len l
  have HW : Hid (showR l = if ofR l = [] then [45] else Lib.join ((ofR l).map nameR) [44]) := rfl
  have HM : Hid (∀ W, Below w.heap.size w W → W.cell? MaxA = some (.int .i64 m)) := fun W hW => max_keep hM hW
  generalize ofR l = S at HO HW hlen
  generalize showR l = R at HW ⊢
  clear hS hM
  go_enter Tryz.func7, Tryz.ntmps7
  go_wp2_with fail
  refine HO.out.mono ?_
  rintro e w1 ⟨v1, rfl, ho1, hb1⟩
  obtain ⟨a1, cap1, rfl, hs1⟩ := ho1.readI
  have HS1 := Lib.hid hs1
  have HB1 := Lib.hid hb1
  have HL := Lib.hid hlen
  clear hs1 hb1 ho1
  go_wp2_with fail
  go_loopg [3, 9] S.length (fun g v i wr => ∃ k : Nat, k + g = S.length ∧ i = .int .i64 k ∧ OwnX w1.heap.size wr v ((S.take k).map nameR) ∧ Below w1.heap.size w1 wr)
  case atStart => exact ⟨0, by omega, rfl, OwnX.nil _ _, Below.refl _ _⟩
  case round =>
    obtain ⟨k, hkg, rfl, HX, hb⟩ := hrel
    have HX := Lib.hid HX
    have HB := Lib.hid hb
    have HK := Lib.hid hkg
    by_cases hlt : k < S.length
    · obtain ⟨b, off, ha, hbb, c00⟩ := SlR.atI HS1.out hlt
      subst ha
      have c0 : wr.cell? ⟨b, off + k, none⟩ = some (.int .i64 S[k]) := (hb.cell (p := ⟨b, off + k, none⟩) hbb).trans c00
      have hbx : b < wr.heap.size := Nat.lt_of_lt_of_le hbb hb.size
      have HT : Hid (Calls Tryz.prog 13 #[.int .i64 S[k]] wr fun e w' => e = .returned (bstr (nameR S[k])) ∧ ∃ j', w' = wr.more j') := rules_Name _ m wr (HM.out _ (HB1.out.trans (hb.mono HB1.out.size)))
      have hU : (S.take (k + 1)).map nameR = (S.take k).map nameR ++ [nameR S[k]] := by rw [List.take_add_one, List.getElem?_eq_getElem hlt, List.map_append]; rfl
      have hlk : ((S.take k).map nameR).length ≤ k := by simp; omega
      have HU := Lib.hid hU
      clear hU
      generalize S[k] = x at c0 HT HU
      generalize nameR x = t at HT HU
      generalize (S.take k).map nameR = out at HX HU hlk
      have HLK := Lib.hid hlk
      clear c00 hb hkg hlk
      go_wp2_with fail
      refine HT.out.mono ?_
      rintro e w2 ⟨rfl, j, rfl⟩
      go_wp2_with (at_builtin; refine app_text (.tmp 13) (.tmp 16) rfl rfl rfl (HX.out.below (C := wr.heap.size) (by repeat (first | (with_reducible exact Below.refl _ _) | (with_reducible refine Below.allocS ?_ _) | (with_reducible refine Below.moreS ?_ _) | (with_reducible refine Below.drew ?_) | (with_reducible refine below_drewN ?_ _))) (Nat.le_refl _)) rfl (Blk.at_ _ _ _ (by simp)) (by have := HLK.out; have := HL.out; omega) (by have := HB.out.size; simp only [World.size_alloc, World.size_more]; omega) ?_; intro v' w2 hown hbw)
      have hb2 := HB.out.trans ((Below.mono (B := wr.heap.size) (by repeat (first | (with_reducible exact Below.refl _ _) | (with_reducible refine Below.allocS ?_ _) | (with_reducible refine Below.moreS ?_ _) | (with_reducible refine Below.drew ?_) | (with_reducible refine below_drewN ?_ _))) HB.out.size).trans hbw)
      have HB2 := Lib.hid hb2
      have HX2 := Lib.hid hown
      clear hbw hb2 hown
      go_wp2_with fail
      go_roundg (S.length - (k + 1))
      case measure => have := HK.out; omega
      case rel => exact ⟨k + 1, by have := HK.out; omega, by go_num, by rw [HU.out]; exact HX2.out, HB2.out⟩
    · have hk : S.take k = S := List.take_of_length_le (by omega)
      have hlen2 : ∀ x ∈ S.map nameR, x.length ≤ 1000 := by simp only [List.mem_map]; rintro x ⟨f, _, rfl⟩; exact Nat.le_trans (nameR_len f) (by omega)
      have hX := HX.out
      rw [hk] at hX
      obtain ⟨a3, cap3, rfl, hsl⟩ := hX.read (fun x hx => by have := hlen2 x hx; unfold maxLen; omega)
      obtain ⟨_, _, hv, hcap⟩ := hX.cap
      injection hv with e1 e2 e3
      subst e3
      by_cases h0 : S = []
      · have hr : R = [45] := by rw [HW.out, if_pos h0]
        subst h0 hr
        clear hX hsl hlen2 hcap HX hkg hb hk e1 HW HS1 HL
        simp only [List.map_nil, List.length_nil]
        go_wp2_with fail
        go_ret
        exact ⟨rfl, (HB1.out.trans (HB.out.mono HB1.out.size)).junk⟩
      · have hne : ¬ (S.map nameR).length = 0 := by simpa using h0
        have hnb : (((S.map nameR).length : Int) == 0) = false := by rw [beq_eq_false_iff_ne]; omega
        have hR : R = Lib.join (S.map nameR) [44] := by rw [HW.out, if_neg h0]
        have HJ := Lib.hid (strings_joinC 44 a3 cap3 (S.map nameR) wr (by have := HL.out; simp; omega) hlen2 hcap hsl)
        rw [← hR] at HJ
        clear hX hsl hlen2 hcap HX hkg hb hk e1 HW hR h0
        generalize S.map nameR = out at HJ hne hnb
        go_wp2_with fail
        refine HJ.out.mono ?_
        rintro e w2 ⟨rfl, hb3⟩
        have HB3 := Lib.hid ((HB1.out.trans (HB.out.mono HB1.out.size)).trans (hb3.mono (Nat.le_trans HB1.out.size HB.out.size)))
        clear hb3
        go_wp2_with fail
        go_ret
        exact ⟨rfl, HB3.out.junk⟩

set_option maxHeartbeats 8000000 in
set_option maxRecDepth 100000 in
theorem ref38_Show (a : Option Addr) (l : List Int) (cap : Nat) (hl : l.length ≤ 1000) (w : World) (hS : SlI w w.heap.size a l) :
    Calls Tryz.prog 12 #[.slice a l.length cap] w fun e w' => e = .returned (bstr (showR l)) ∧ ∃ j, w' = w.more j := by
  have HO := Lib.hid (ref38_Of a l cap (by omega) w hS)
  have hlen := ofR_len l
  have HW : Hid (showR l = if ofR l = [] then [45] else Lib.join ((ofR l).map nameR) [44]) := rfl
  generalize ofR l = S at HO HW hlen
  generalize showR l = R at HW ⊢
  clear hS
  go_enter Tryz.func12, Tryz.ntmps12
  go_wp2_with fail
  refine HO.out.mono ?_
  rintro e w1 ⟨v1, rfl, ho1, hb1⟩
  obtain ⟨a1, cap1, rfl, hs1⟩ := ho1.readI
  have HS1 := Lib.hid hs1
  have HB1 := Lib.hid hb1
  have HL := Lib.hid hlen
  clear hs1 hb1 ho1
  go_wp2_with fail
  go_loopg [4, 5] S.length (fun g v i wr => ∃ (k : Nat) (acc : List UInt8), k + g = S.length ∧ i = .int .i64 k ∧ v = bstr acc ∧ acc.length ≤ 10 * k + 1 ∧ Hid (acc = if k = 0 then [45] else Lib.join ((S.take k).map nameR) [44]) ∧ ∃ j, wr = w1.more j)
  case atStart => exact ⟨0, [45], by omega, rfl, rfl, by simp, rfl, Below.junk (by repeat (first | (with_reducible exact Below.refl _ _) | (with_reducible refine Below.allocS ?_ _) | (with_reducible refine Below.moreS ?_ _) | (with_reducible refine Below.drew ?_) | (with_reducible refine below_drewN ?_ _)))⟩
  case round =>
    obtain ⟨k, acc, hkg, rfl, rfl, hacc, HA, j, rfl⟩ := hrel
    have HK := Lib.hid hkg
    by_cases hlt : k < S.length
    · obtain ⟨b, off, ha, hbb, c0⟩ := SlR.atI HS1.out hlt
      subst ha
      have HT : Hid (∀ W, Calls Tryz.prog 16 #[.int .i64 S[k]] W fun e w' => e = .returned (bstr (nameR S[k])) ∧ ∃ j, w' = W.more j) := fun W => ref38_Name _ W
      have hlk := nameR_len S[k]
      by_cases hk0 : k = 0
      · subst hk0
        have HU : Hid (nameR S[0] = Lib.join ((S.take 1).map nameR) [44]) := by
          show _ = _
          rw [show S.take 1 = S.take 0 ++ [S[0]] from List.take_succ_eq_append_getElem hlt]
          simp [Lib.join_one]
        generalize nameR S[0] = t at HT HU hlk
        generalize S[0] = x at c0 HT
        rw [Nat.add_zero] at c0
        clear HA hkg
        go_wp2_with fail
        refine (HT.out _).mono ?_
        rintro e w3 ⟨rfl, j3, rfl⟩
        go_wp2_with fail
        go_roundg (S.length - 1)
        case measure => have := HK.out; omega
        case rel => exact ⟨1, t, by have := HK.out; omega, by go_num, by simp, by simp; omega, by show _ = _; rw [HU.out]; rfl, Below.junk (by repeat (first | (with_reducible exact Below.refl _ _) | (with_reducible refine Below.allocS ?_ _) | (with_reducible refine Below.moreS ?_ _) | (with_reducible refine Below.drew ?_) | (with_reducible refine below_drewN ?_ _)))⟩
      · have HU : Hid (acc ++ [44] ++ nameR S[k] = Lib.join ((S.take (k + 1)).map nameR) [44]) := by show _ = _; rw [HA.out, if_neg hk0, ← showR_step S k hlt (by omega)]
        have hkb : ((k : Int) == 0) = false := by rw [beq_eq_false_iff_ne]; omega
        generalize nameR S[k] = t at HT HU hlk
        generalize S[k] = x at c0 HT
        clear HA hkg
        go_wp2_with fail
        refine (HT.out _).mono ?_
        rintro e w3 ⟨rfl, j3, rfl⟩
        go_wp2_with fail
        go_roundg (S.length - (k + 1))
        case measure => have := HK.out; omega
        case rel => exact ⟨k + 1, acc ++ [44] ++ t, by have := HK.out; omega, by go_num, by simp, by simp; omega, by show _ = _; rw [HU.out, if_neg (by omega)], Below.junk (by repeat (first | (with_reducible exact Below.refl _ _) | (with_reducible refine Below.allocS ?_ _) | (with_reducible refine Below.moreS ?_ _) | (with_reducible refine Below.drew ?_) | (with_reducible refine below_drewN ?_ _)))⟩
    · have hr : R = acc := by
        rw [HW.out, HA.out, show k = S.length by omega, List.take_length]
        by_cases hz : S = []
        · rw [if_pos hz, if_pos (by rw [hz]; rfl)]
        · rw [if_neg hz, if_neg (by simpa using hz)]
      subst hr
      clear HA hkg HW
      go_wp2_with fail
      go_ret
      exact ⟨rfl, (HB1.out.trans ((Below.refl w1.heap.size w1).moreS j |>.mono HB1.out.size)).junk⟩
end Go.Proofs.YtfcklbiejlkafaaGreatDoor
/-
  The one variable of the library's that strings.Split reads: a number, whichever.
-/
namespace Go.Proofs.YtfcklbiejlkafaaGreatDoor
set_option linter.unusedSimpArgs false
set_option linter.unusedVariables false
set_option linter.unusedSectionVars false
open Go.ChangeShapes Go.WideShapes Go.ChangeAt Go.RowKit Go.Deep

theorem max_cell {W : World} (h : W.ShapedOpen Tryz.prog) : ∃ m, W.cell? MaxA = some (.int .i64 m) :=
  Go.Proofs.cell_of_shapedOpen_int (zero := #[.int .i64 0]) (t := 3) h (of_decide_eq_true (by kernel_rfl)) (by kernel_rfl) rfl (by kernel_rfl) (by kernel_rfl) Tryz.underlying3
end Go.Proofs.YtfcklbiejlkafaaGreatDoor
/-
  What strings.Split hands back, piece by piece.
-/
namespace Go.Proofs.YtfcklbiejlkafaaGreatDoor
set_option linter.unusedSimpArgs false
set_option linter.unusedVariables false
set_option linter.unusedSectionVars false
open Go.ChangeShapes Go.WideShapes Go.ChangeAt Go.RowKit Go.Deep Go.Shelf

theorem strings_cut (l : List UInt8) (c : UInt8) (m : Int) (w : World) (hm : l.length ≤ 1048576) (hM : w.cell? MaxA = some (.int .i64 m)) :
    Calls Tryz.prog 26 #[bstr l, bstr [c]] w fun e w' => e = .returned (.slice (some ⟨w.heap.size, 0, none⟩) (cutF c l).length (cutF c l).length) ∧ SlX w' w'.heap.size (some ⟨w.heap.size, 0, none⟩) (cutF c l) ∧ Below w.heap.size w w' := by
  have h := strings_split l c m w hm hM
  have h2 := split_slX l c w hm
  rw [split_cut] at h h2
  refine h.mono fun e w' ⟨he, hw⟩ => ⟨he, ?_, ?_⟩
  · rw [hw, World.size_alloc]; exact h2
  · rw [hw]; exact (Below.refl _ _).alloc (Nat.le_refl _) _
end Go.Proofs.YtfcklbiejlkafaaGreatDoor
/-
  Rules: a text read as a set of them: the program's.
-/
namespace Go.Proofs.YtfcklbiejlkafaaGreatDoor
set_option linter.unusedSimpArgs false
set_option linter.unusedVariables false
set_option linter.unusedSectionVars false
open Go.ChangeShapes Go.WideShapes Go.ChangeAt Go.RowKit Go.Deep Go.Shelf

theorem map_nil_appI (o : Option (List Int)) : o = o.map ([] ++ ·) := by cases o <;> simp
theorem goR_yes {x : List UInt8} {r : List (List UInt8)} {n : Int} {last : Option Int} (h : 0 ≤ idxX rulW x) (hn : idxX rulW x + 1 = n) (ho : okI last n = true) (out : List Int) : (goR (x :: r) last).map (out ++ ·) = (goR r (some n)).map ((out ++ [n]) ++ ·) := by
  subst hn
  rw [goR, if_pos ⟨h, ho⟩]
  cases goR r (some (idxX rulW x + 1)) <;> simp
theorem goR_no {x : List UInt8} {r : List (List UInt8)} {last : Option Int} (h : ¬ (0 ≤ idxX rulW x ∧ okI last (idxX rulW x + 1) = true)) : goR (x :: r) last = none := by
  rw [goR, if_neg h]
theorem nil_or_snocI (l : List Int) : l = [] ∨ ∃ i y, l = i ++ [y] := by
  rcases List.eq_nil_or_concat l with h | ⟨i, y, h⟩
  · exact .inl h
  · exact .inr ⟨i, y, by rw [h, List.concat_eq_append]⟩
theorem last_snocI (l : List Int) (f : Int) : (l ++ [f]).getLast? = some f := by simp

set_option maxHeartbeats 8000000 in
set_option maxRecDepth 100000 in
theorem rules_ReadSet (s : List UInt8) (hm : s.length ≤ 200000) (m : Int) (w : World) (hM : w.cell? MaxA = some (.int .i64 m)) :
    Calls Tryz.prog 8 #[bstr s] w fun e w' => ∃ a cap, e = .returned (.tuple #[.slice a (setRP s).1.length cap, .bool (setRP s).2]) ∧ SlI w' w'.heap.size a (setRP s).1 ∧ Below w.heap.size w w' := by
  by_cases h0 : s = [45]
  · subst h0
    have hr : setRP [45] = ([], true) := by unfold setRP; rw [if_pos rfl]
    rw [hr]
    clear hr hM
    go_enter Tryz.func8, Tryz.ntmps8
    go_wp2_with fail
    go_ret2
    exact ⟨none, 0, rfl, .nil, Below.refl _ _⟩
  have hne : (s == ([45] : List UInt8)) = false := by rw [beq_eq_false_iff_ne]; exact h0
  have H1 := Lib.hid (strings_cut s 44 m w (by omega) hM)
  have hlen := cut_len 44 s
  have HS : Hid (setRP s = endP (goR (cutF 44 s) none)) := by show _ = _; unfold setRP; rw [if_neg h0]
  have HM : Hid (∀ W, Below w.heap.size w W → W.cell? MaxA = some (.int .i64 m)) := fun W hW => max_keep hM hW
  clear hM h0
  generalize cutF 44 s = p at H1 HS hlen
  have hpl : p.length ≤ 200001 := by omega
  clear hlen
  generalize setRP s = R at HS ⊢
  obtain ⟨r1, r2⟩ := R
  go_enter Tryz.func8, Tryz.ntmps8
  go_wp2_with fail
  refine H1.out.mono ?_
  rintro e w1 ⟨rfl, hs1, hb1⟩
  have HSL := Lib.hid hs1
  have HB1 := Lib.hid hb1
  clear hs1 hb1
  go_wp2_with fail
  go_loopg [4, 14] p.length (fun g v i wr => ∃ (k : Nat) (out : List Int), k + g = p.length ∧ i = .int .i64 k ∧ out.length ≤ k ∧ OwnI w1.heap.size wr v out ∧ Below w1.heap.size w1 wr ∧ Hid (goR p none = (goR (p.drop k) out.getLast?).map (out ++ ·)))
  case atStart => exact ⟨0, [], by omega, rfl, by simp, OwnC.nil _ _, Below.refl _ _, by show _ = _; exact map_nil_appI _⟩
  case round =>
    obtain ⟨k, out, hkg, rfl, hok, HO, hb, HU⟩ := hrel
    have HO := Lib.hid HO
    have HB := Lib.hid hb
    have HK := Lib.hid hkg
    by_cases hlt : k < p.length
    · obtain ⟨b, off, ha, hbb, c00, _⟩ := SlR.atX HSL.out hlt
      injection ha with ha
      injection ha with ha1 ha2
      subst ha1 ha2
      have c0 : wr.cell? ⟨w.heap.size, 0 + k, none⟩ = some (bstr p[k]) := (hb.cell (p := ⟨w.heap.size, 0 + k, none⟩) hbb).trans c00
      rw [Nat.zero_add] at c0
      have HRD := Lib.hid (rules_ByName p[k] m wr (HM.out wr (HB1.out.trans (hb.mono HB1.out.size))))
      have hlo := seekX_lo p[k] rulW 0
      have hlen : rulW.length = 35 := rfl
      rw [hlen] at hlo
      have hd : p.drop k = p[k] :: p.drop (k + 1) := List.drop_eq_getElem_cons hlt
      have HY : Hid (∀ n, 0 ≤ idxX rulW p[k] → idxX rulW p[k] + 1 = n → okI out.getLast? n = true → goR p none = (goR (p.drop (k + 1)) (some n)).map ((out ++ [n]) ++ ·)) := fun n h h1 h2 => by rw [HU.out, hd, goR_yes h h1 h2]
      have HN : Hid (¬ (0 ≤ idxX rulW p[k] ∧ okI out.getLast? (idxX rulW p[k] + 1) = true) → (r1, r2) = ([], false)) := fun h => by rw [HS.out, HU.out, hd, goR_no h]; rfl
      have hfb : -1 ≤ idxX rulW p[k] ∧ idxX rulW p[k] < 35 := by unfold idxX; omega
      have HOK := Lib.hid hok
      clear hd c00 hkg HU hlo hlen hb
      generalize p[k] = x at c0 HRD HY HN hfb
      generalize idxX rulW x = f at HRD HY HN hfb
      have hw1 : IntKind.i64.wrap (f + 1) = f + 1 := IntWalk.i64_in _ (by omega)
      by_cases hf : 0 ≤ f
      · rw [decide_eq_true hf] at HRD
        rcases nil_or_snocI out with rfl | ⟨init, y, rfl⟩
        · have HU2 := Lib.hid (HY.out (f + 1) hf rfl rfl)
          obtain ⟨a3, cap3, rfl, _⟩ := HO.out.readI
          have HO3 : Hid (OwnI w1.heap.size wr (.slice a3 0 cap3) []) := HO.out
          clear HN HY HO hok
          simp only [List.length_nil]
          go_wp2_with fail
          refine HRD.out.mono ?_
          rintro e w' ⟨rfl, j, rfl⟩
          go_wp2_with (at_builtin; refine app_c (y := f + 1) st_ints intC_len intC_one (by omega) (.tmp 40) (.tmp 42) rfl rfl rfl (HO3.out.below (C := wr.heap.size) (by repeat (first | (with_reducible exact Below.refl _ _) | (with_reducible refine Below.allocS ?_ _) | (with_reducible refine Below.moreS ?_ _) | (with_reducible refine Below.drew ?_) | (with_reducible refine below_drewN ?_ _))) (Nat.le_refl _)) rfl (Blk.at_ _ _ _ (by simp)) rfl (by simp) (by have := HB.out.size; simp only [World.size_alloc, World.size_more]; omega) ?_; intro v' w2 hown hbw)
          have hb2 := HB.out.trans ((Below.mono (B := wr.heap.size) (by repeat (first | (with_reducible exact Below.refl _ _) | (with_reducible refine Below.allocS ?_ _) | (with_reducible refine Below.moreS ?_ _) | (with_reducible refine Below.drew ?_) | (with_reducible refine below_drewN ?_ _))) HB.out.size).trans hbw)
          have HB2 := Lib.hid hb2
          have HO2 := Lib.hid hown
          clear hbw hb2 hown
          go_wp2_with fail
          go_roundg (p.length - (k + 1))
          case measure => have := HK.out; omega
          case rel => exact ⟨k + 1, [] ++ [f + 1], by have := HK.out; omega, by go_num, by simp, HO2.out, HB2.out, by show _ = _; rw [HU2.out]; rfl⟩
        · obtain ⟨a3, cap3, rfl, hsl⟩ := HO.out.readI
          obtain ⟨n, hn⟩ : ∃ n, n = init.length := ⟨_, rfl⟩
          have hln : (init ++ [y]).length = n + 1 := by rw [hn]; simp
          obtain ⟨b, off, rfl, hbb, c00⟩ := SlR.atI hsl (k := n) (by omega)
          have hy : (init ++ [y])[n]'(by omega) = y := by simp [hn]
          rw [hy] at c00
          have HO3 : Hid (OwnI w1.heap.size wr (.slice (some ⟨b, off, none⟩) (n + 1) cap3) (init ++ [y])) := by have := HO.out; rw [hln] at this; exact this
          have HLN := Lib.hid hln
          have hnb : n ≤ 200001 := by have := HOK.out; omega
          have hlast : okI (init ++ [y]).getLast? (f + 1) = decide (y < f + 1) := by rw [last_snocI]; rfl
          rw [hln]
          rw [hlast] at HN
          have HY2 : Hid (y < f + 1 → goR p none = (goR (p.drop (k + 1)) (some (f + 1))).map (((init ++ [y]) ++ [f + 1]) ++ ·)) := fun h => HY.out (f + 1) hf rfl (hlast.trans (decide_eq_true h))
          have hoB : (init ++ [y]).length ≤ 200001 := by omega
          have HOB := Lib.hid hoB
          have hw2 : IntKind.i64.wrap ((n : Int) + 1 - 1) = n := by rw [show (n : Int) + 1 - 1 = n by omega]; exact IntWalk.i64_in _ (by omega)
          have hw3 : IntKind.i64.wrap (n : Int) = n := IntWalk.i64_in _ (by omega)
          have hpos : (0 : Int) < (n : Int) + 1 := by omega
          clear HY HO hsl hy hln hn hok hlast hoB
          by_cases hyf : y < f + 1
          · have HU2 := Lib.hid (HY2.out hyf)
            have hyf2 : ¬ f + 1 ≤ y := by omega
            clear HN HY2
            go_wp2_with fail
            refine HRD.out.mono ?_
            rintro e w' ⟨rfl, j, rfl⟩
            have e0 : (wr.more j).cell? ⟨b, off + n, none⟩ = some (.int .i64 y) := by rw [World.cell?_more _ _ _ hbb]; exact c00
            clear c00
            go_wp2_with (at_builtin; refine app_c (y := f + 1) st_ints intC_len intC_one (by omega) (.tmp 40) (.tmp 42) rfl rfl rfl (HO3.out.below (C := wr.heap.size) (by repeat (first | (with_reducible exact Below.refl _ _) | (with_reducible refine Below.allocS ?_ _) | (with_reducible refine Below.moreS ?_ _) | (with_reducible refine Below.drew ?_) | (with_reducible refine below_drewN ?_ _))) (Nat.le_refl _)) rfl (Blk.at_ _ _ _ (by simp)) rfl (by have := HOB.out; omega) (by have := HB.out.size; simp only [World.size_alloc, World.size_more]; omega) ?_; intro v' w2 hown hbw)
            have hb2 := HB.out.trans ((Below.mono (B := wr.heap.size) (by repeat (first | (with_reducible exact Below.refl _ _) | (with_reducible refine Below.allocS ?_ _) | (with_reducible refine Below.moreS ?_ _) | (with_reducible refine Below.drew ?_) | (with_reducible refine below_drewN ?_ _))) HB.out.size).trans hbw)
            have HB2 := Lib.hid hb2
            have HO2 := Lib.hid hown
            clear hbw hb2 hown
            go_wp2_with fail
            go_roundg (p.length - (k + 1))
            case measure => have := HK.out; omega
            case rel => exact ⟨k + 1, (init ++ [y]) ++ [f + 1], by have := HK.out; omega, by go_num, by have h9 := HOK.out; rw [List.length_append]; exact Nat.succ_le_succ h9, HO2.out, HB2.out, by show _ = _; rw [HU2.out, last_snocI]⟩
          · have hr := HN.out (by simp [hyf])
            obtain ⟨rfl, rfl⟩ := Prod.mk.inj hr
            have hyf2 : f + 1 ≤ y := by omega
            clear hr HN HY2
            go_wp2_with fail
            refine HRD.out.mono ?_
            rintro e w' ⟨rfl, j, rfl⟩
            have e0 : (wr.more j).cell? ⟨b, off + n, none⟩ = some (.int .i64 y) := by rw [World.cell?_more _ _ _ hbb]; exact c00
            clear c00
            go_wp2_with fail
            go_ret2
            exact ⟨none, 0, rfl, .nil, HB1.out.trans ((HB.out.mono HB1.out.size).trans (Below.mono (B := wr.heap.size) (by repeat (first | (with_reducible exact Below.refl _ _) | (with_reducible refine Below.allocS ?_ _) | (with_reducible refine Below.moreS ?_ _) | (with_reducible refine Below.drew ?_) | (with_reducible refine below_drewN ?_ _))) (Nat.le_trans HB1.out.size HB.out.size)))⟩
      · have hr := HN.out (fun h => hf h.1)
        obtain ⟨rfl, rfl⟩ := Prod.mk.inj hr
        rw [decide_eq_false hf] at HRD
        clear hr HN HY
        go_wp2_with fail
        refine HRD.out.mono ?_
        rintro e w' ⟨rfl, j, rfl⟩
        go_wp2_with fail
        go_ret2
        exact ⟨none, 0, rfl, .nil, HB1.out.trans ((HB.out.mono HB1.out.size).trans (Below.mono (B := wr.heap.size) (by repeat (first | (with_reducible exact Below.refl _ _) | (with_reducible refine Below.allocS ?_ _) | (with_reducible refine Below.moreS ?_ _) | (with_reducible refine Below.drew ?_) | (with_reducible refine below_drewN ?_ _))) (Nat.le_trans HB1.out.size HB.out.size)))⟩
    · have hr : (r1, r2) = (out, true) := by rw [HS.out, HU.out, List.drop_of_length_le (by omega)]; simp [goR, endP]
      obtain ⟨rfl, rfl⟩ := Prod.mk.inj hr
      obtain ⟨a, cap, rfl, hsl⟩ := HO.out.readI
      have HSO := Lib.hid hsl
      clear hr hb hkg hsl
      go_wp2_with fail
      go_ret2
      exact ⟨_, _, rfl, HSO.out, HB1.out.trans (HB.out.mono HB1.out.size)⟩
end Go.Proofs.YtfcklbiejlkafaaGreatDoor
/-
  Rules: a text read as a set of them: the document's.
-/
namespace Go.Proofs.YtfcklbiejlkafaaGreatDoor
set_option linter.unusedSimpArgs false
set_option linter.unusedVariables false
set_option linter.unusedSectionVars false
open Go.ChangeShapes Go.WideShapes Go.ChangeAt Go.RowKit Go.Deep Go.Shelf

def tailR (s : List UInt8) (k fr : Nat) : List (List UInt8) := if k ≤ s.length then preF ((s.drop fr).take (k - fr)) (cutF 44 (s.drop k)) else []
theorem pre_nilR (c : UInt8) (s : List UInt8) : preF [] (cutF c s) = cutF c s := by obtain ⟨a, t, e⟩ := cut_ne c s; rw [e]; rfl
theorem tailR_zero (s : List UInt8) : tailR s 0 0 = cutF 44 s := by unfold tailR; rw [if_pos (Nat.zero_le _)]; simp [pre_nilR]
theorem tailR_skip {s : List UInt8} {k fr : Nat} (hlt : k < s.length) (hf : fr ≤ k) (hc : s[k] ≠ 44) : tailR s k fr = tailR s (k + 1) fr := by
  unfold tailR
  rw [if_pos (by omega), if_pos (by omega), List.drop_eq_getElem_cons hlt, cutF, if_neg hc, pre_pre]
  congr 1
  rw [show k + 1 - fr = (k - fr) + 1 by omega, List.take_succ_eq_append_getElem (by simp; omega)]
  simp [show fr + (k - fr) = k by omega]
theorem tailR_cut {s : List UInt8} {k fr : Nat} (hk : k ≤ s.length) (hc : ∀ h : k < s.length, s[k] = 44) : tailR s k fr = (s.drop fr).take (k - fr) :: tailR s (k + 1) (k + 1) := by
  unfold tailR
  rw [if_pos hk]
  by_cases hlt : k < s.length
  · rw [List.drop_eq_getElem_cons hlt, cutF, if_pos (hc hlt), if_pos (by omega), Nat.sub_self, List.take_zero, pre_nilR]
    simp [preF]
  · have e : s.drop k = [] := List.drop_of_length_le (by omega)
    rw [e, if_neg (by omega)]; simp [cutF, preF]

set_option maxHeartbeats 8000000 in
set_option maxRecDepth 100000 in
theorem ref38_ReadSet (s : List UInt8) (hm : s.length ≤ 900) (w : World) :
    Calls Tryz.prog 9 #[bstr s] w fun e w' => ∃ a cap, e = .returned (.tuple #[.slice a (setRD s).1.length cap, .bool (setRD s).2]) ∧ SlI w' w'.heap.size a (setRD s).1 ∧ Below w.heap.size w w' := by
  have HS : Hid (setRD s = if s = [45] then ([], true) else if showR ((cutF 44 s).map numR) = s then (ofR ((cutF 44 s).map numR), true) else ([], false)) := rfl
  generalize setRD s = R at HS ⊢
  obtain ⟨r1, r2⟩ := R
  go_enter Tryz.func9, Tryz.ntmps9
  go_wp2_with fail
  go_loopg [4, 5, 6] (s.length + 1) (fun g v f i wr => ∃ (k fr : Nat) (out : List Int), k + g = s.length + 1 ∧ i = .int .i64 k ∧ f = .int .i64 fr ∧ fr ≤ k ∧ out.length ≤ k ∧ OwnI w.heap.size wr v out ∧ Below w.heap.size w wr ∧ Hid ((cutF 44 s).map numR = out ++ (tailR s k fr).map numR))
  case atStart => exact ⟨0, 0, [], by omega, rfl, rfl, Nat.le_refl _, by simp, OwnC.nil _ _, Below.refl _ _, by show _ = _; rw [tailR_zero]; rfl⟩
  case round =>
    obtain ⟨k, fr, out, hkg, rfl, rfl, hfk, hok, HO, hb, HU⟩ := hrel
    have HO := Lib.hid HO
    have HB := Lib.hid hb
    have HK := Lib.hid hkg
    by_cases hle : k ≤ s.length
    · have hle' : (k : Int) ≤ s.length := by omega
      have hfk' : (fr : Int) ≤ k := by omega
      by_cases hskip : ∃ h : k < s.length, s[k] ≠ 44
      · obtain ⟨hlt, hne4⟩ := hskip
        have hc : ((s[k].toNat : Int) != 44) = true := by
          rw [bne_iff_ne]; intro h; exact hne4 (UInt8.toNat_inj.1 (by show s[k].toNat = 44; omega))
        have hc2 : ((s[k].toNat : Int) == 44) = false := by
          rw [beq_eq_false_iff_ne]; intro h; exact hne4 (UInt8.toNat_inj.1 (by show s[k].toNat = 44; omega))
        have HU2 : Hid ((cutF 44 s).map numR = out ++ (tailR s (k + 1) fr).map numR) := by show _ = _; rw [HU.out, tailR_skip hlt hfk hne4]
        clear hne4 hkg hb HU
        go_wp2_with fail
        go_roundg (s.length + 1 - (k + 1))
        case measure => have := HK.out; omega
        case rel => exact ⟨k + 1, fr, out, by have := HK.out; omega, by go_num, rfl, by omega, by omega, HO.out, HB.out, HU2⟩
      · have hc : ∀ h : k < s.length, s[k] = 44 := fun h => Decidable.byContradiction fun hn => hskip ⟨h, hn⟩
        have ht := tailR_cut (fr := fr) hle hc
        have HRD : Hid (∀ W, Calls Tryz.prog 15 #[bstr ((s.drop fr).take (k - fr))] W fun e w' => e = .returned (.tuple #[.int .i64 (numR ((s.drop fr).take (k - fr))), .bool (decide (0 ≤ idxX rulW ((s.drop fr).take (k - fr))))]) ∧ ∃ j, w' = W.more j) := fun W => ref38_ByName _ W
        have HU2 : Hid ((cutF 44 s).map numR = (out ++ [numR ((s.drop fr).take (k - fr))]) ++ (tailR s (k + 1) (k + 1)).map numR) := by show _ = _; rw [HU.out, ht, List.map_cons, List.append_assoc]; rfl
        generalize decide (0 ≤ idxX rulW ((s.drop fr).take (k - fr))) = is at HRD
        generalize numR ((s.drop fr).take (k - fr)) = n at HRD HU2
        clear ht HU hskip
        have hcase : k < s.length ∨ ¬ k < s.length := Decidable.em _
        have HOK := Lib.hid hok
        have HFK := Lib.hid hfk
        rcases hcase with hlt | hlt
        · have hc4 := hc hlt
          have hc : ((s[k].toNat : Int) != 44) = false := by rw [hc4]; rfl
          have hc2 : ((s[k].toNat : Int) == 44) = true := by rw [hc4]; rfl
          clear hc4 hkg hb
          go_wp2_with fail
          refine (HRD.out _).mono ?_
          rintro e w' ⟨rfl, j, rfl⟩
          go_wp2_with (at_builtin; refine app_c (y := n) st_ints intC_len intC_one (by omega) (.tmp 33) (.tmp 35) rfl rfl rfl (HO.out.below (C := wr.heap.size) (by repeat (first | (with_reducible exact Below.refl _ _) | (with_reducible refine Below.allocS ?_ _) | (with_reducible refine Below.moreS ?_ _) | (with_reducible refine Below.drew ?_) | (with_reducible refine below_drewN ?_ _))) (Nat.le_refl _)) rfl (Blk.at_ _ _ _ (by simp)) rfl (by have := HOK.out; omega) (by have := HB.out.size; simp only [World.size_alloc, World.size_more]; omega) ?_; intro v' w2 hown hbw)
          have hb2 := HB.out.trans ((Below.mono (B := wr.heap.size) (by repeat (first | (with_reducible exact Below.refl _ _) | (with_reducible refine Below.allocS ?_ _) | (with_reducible refine Below.moreS ?_ _) | (with_reducible refine Below.drew ?_) | (with_reducible refine below_drewN ?_ _))) HB.out.size).trans hbw)
          have HB2 := Lib.hid hb2
          have HO2 := Lib.hid hown
          clear hbw hb2 hown
          go_wp2_with fail
          go_roundg (s.length + 1 - (k + 1))
          case measure => have := HK.out; omega
          case rel => exact ⟨k + 1, k + 1, out ++ [n], by have := HK.out; omega, by go_num, by go_num, Nat.le_refl _, by have := HOK.out; simp; omega, HO2.out, HB2.out, HU2⟩
        · clear hc hkg hb
          go_wp2_with fail
          refine (HRD.out _).mono ?_
          rintro e w' ⟨rfl, j, rfl⟩
          go_wp2_with (at_builtin; refine app_c (y := n) st_ints intC_len intC_one (by omega) (.tmp 33) (.tmp 35) rfl rfl rfl (HO.out.below (C := wr.heap.size) (by repeat (first | (with_reducible exact Below.refl _ _) | (with_reducible refine Below.allocS ?_ _) | (with_reducible refine Below.moreS ?_ _) | (with_reducible refine Below.drew ?_) | (with_reducible refine below_drewN ?_ _))) (Nat.le_refl _)) rfl (Blk.at_ _ _ _ (by simp)) rfl (by have := HOK.out; omega) (by have := HB.out.size; simp only [World.size_alloc, World.size_more]; omega) ?_; intro v' w2 hown hbw)
          have hb2 := HB.out.trans ((Below.mono (B := wr.heap.size) (by repeat (first | (with_reducible exact Below.refl _ _) | (with_reducible refine Below.allocS ?_ _) | (with_reducible refine Below.moreS ?_ _) | (with_reducible refine Below.drew ?_) | (with_reducible refine below_drewN ?_ _))) HB.out.size).trans hbw)
          have HB2 := Lib.hid hb2
          have HO2 := Lib.hid hown
          clear hbw hb2 hown
          go_wp2_with fail
          go_roundg (s.length + 1 - (k + 1))
          case measure => have := HK.out; omega
          case rel => exact ⟨k + 1, k + 1, out ++ [n], by have := HK.out; omega, by go_num, by go_num, Nat.le_refl _, by have := HOK.out; simp; omega, HO2.out, HB2.out, HU2⟩
    · have hT : (cutF 44 s).map numR = out := by rw [HU.out]; unfold tailR; rw [if_neg hle]; simp
      have HR : Hid ((r1, r2) = if s = [45] then ([], true) else if showR out = s then (ofR out, true) else ([], false)) := by show _ = _; rw [HS.out, hT]
      have hoL : out.length ≤ 1000 := by have := HK.out; omega
      have hle' : ¬ (k : Int) ≤ s.length := by omega
      obtain ⟨a3, cap3, rfl, hsl⟩ := HO.out.readI
      clear HS HU HO hb hkg hok hle hT
      cases e0 : (s == [45])
      · have HSH := Lib.hid (ref38_Show a3 out cap3 hoL wr hsl)
        have HOF : Hid (∀ W, Below wr.heap.size wr W → Calls Tryz.prog 11 #[.slice a3 out.length cap3] W fun e w' => ∃ v, e = .returned v ∧ OwnI W.heap.size w' v (ofR out) ∧ Below W.heap.size W w') := fun W hW => ref38_Of a3 out cap3 (by omega) W ((hsl.below hW (Nat.le_refl _)).mono hW.size (fun _ _ _ h => h))
        have hs45 : ¬ s = [45] := by simpa using e0
        clear hsl
        generalize showR out = T at HR HSH
        generalize ofR out = F at HR HOF
        cases e1 : (T == s)
        · have hr : (r1, r2) = ([], false) := by rw [HR.out, if_neg hs45, if_neg (by intro h; rw [h] at e1; simp at e1)]
          obtain ⟨rfl, rfl⟩ := Prod.mk.inj hr
          have e2 : (T != s) = true := by unfold bne; rw [e1]; rfl
          clear hr HR hs45
          go_wp2_with fail
          refine HSH.out.mono ?_
          rintro e w' ⟨rfl, j, rfl⟩
          go_wp2_with fail
          go_ret2
          exact ⟨none, 0, rfl, .nil, HB.out.trans (Below.mono (B := wr.heap.size) (by repeat (first | (with_reducible exact Below.refl _ _) | (with_reducible refine Below.allocS ?_ _) | (with_reducible refine Below.moreS ?_ _) | (with_reducible refine Below.drew ?_) | (with_reducible refine below_drewN ?_ _))) HB.out.size)⟩
        · have hr : (r1, r2) = (F, true) := by rw [HR.out, if_neg hs45, if_pos (eq_of_beq e1)]
          obtain ⟨rfl, rfl⟩ := Prod.mk.inj hr
          have e2 : (T != s) = false := by unfold bne; rw [e1]; rfl
          clear hr HR hs45
          go_wp2_with fail
          refine HSH.out.mono ?_
          rintro e w' ⟨rfl, j, rfl⟩
          go_wp2_with fail
          refine (HOF.out _ (by repeat (first | (with_reducible exact Below.refl _ _) | (with_reducible refine Below.allocS ?_ _) | (with_reducible refine Below.moreS ?_ _) | (with_reducible refine Below.drew ?_) | (with_reducible refine below_drewN ?_ _)))).mono ?_
          rintro e w' ⟨v, rfl, ho, hb⟩
          obtain ⟨a4, cap4, rfl, hs4⟩ := ho.readI
          have HS4 := Lib.hid hs4
          have HB4 := Lib.hid (HB.out.trans ((Below.mono (B := wr.heap.size) (by repeat (first | (with_reducible exact Below.refl _ _) | (with_reducible refine Below.allocS ?_ _) | (with_reducible refine Below.moreS ?_ _) | (with_reducible refine Below.drew ?_) | (with_reducible refine below_drewN ?_ _))) HB.out.size).trans (hb.mono (by have := HB.out.size; simp only [World.size_more]; omega))))
          clear ho hb hs4
          go_wp2_with fail
          go_ret2
          exact ⟨_, _, rfl, HS4.out, HB4.out⟩
      · have hr : (r1, r2) = ([], true) := by rw [HR.out, if_pos (eq_of_beq e0)]
        obtain ⟨rfl, rfl⟩ := Prod.mk.inj hr
        clear hr HR
        go_wp2_with fail
        go_ret2
        exact ⟨none, ⟨0, rfl⟩, .nil, HB.out⟩
end Go.Proofs.YtfcklbiejlkafaaGreatDoor
/-
  Faults: their order, and sets of them: plain laws.
-/
namespace Go.Proofs.YtfcklbiejlkafaaGreatDoor
set_option linter.unusedSimpArgs false
set_option linter.unusedVariables false
set_option linter.unusedSectionVars false
open Go.ChangeShapes Go.WideShapes Go.ChangeAt Go.RowKit Go.Deep

structure Fl where
  scope : Int
  code : Int
deriving DecidableEq
def Fl.cells (f : Fl) : List Value := [.int .i64 f.scope, .int .i64 f.code]
def ltFl (a b : Fl) : Bool := if a.scope = b.scope then decide (a.code < b.code) else decide (a.scope < b.scope)
theorem Fl.ext' {a b : Fl} (h1 : a.scope = b.scope) (h2 : a.code = b.code) : a = b := by cases a; cases b; simp_all
theorem ordFl : Ord ltFl := by
  refine ⟨fun a => by simp [ltFl], fun a b c h1 h2 => ?_, fun a b h => ?_⟩
  · unfold ltFl at *
    split at h1 <;> split at h2 <;> split <;> simp only [decide_eq_true_eq] at * <;> omega
  · unfold ltFl
    by_cases hs : a.scope = b.scope
    · rw [if_pos hs, if_pos hs.symm]
      have : a.code ≠ b.code := fun e => h (Fl.ext' hs e)
      simp only [decide_eq_true_eq]; omega
    · rw [if_neg hs, if_neg (Ne.symm hs)]
      simp only [decide_eq_true_eq]; omega
def flR (f : Fl) : Bool := (decide (f.scope = 1) || decide (f.scope = 2)) && (decide (0 ≤ f.code) && decide (f.code < 4294967296))
def ofF (l : List Fl) : List Fl := setS ltFl (l.filter flR)
theorem mem_ofF (l : List Fl) (x : Fl) : x ∈ ofF l ↔ x ∈ l ∧ flR x = true := by unfold ofF; rw [mem_setS, List.mem_filter]
theorem strict_ofF (l : List Fl) : Strict ltFl (ofF l) := strict_setS ordFl _
theorem ofF_len (l : List Fl) : (ofF l).length ≤ l.length := Nat.le_trans (setS_len _) (List.length_filter_le _ _)
theorem ofF_congr {l m : List Fl} (h : ∀ x, flR x = true → (x ∈ l ↔ x ∈ m)) : ofF l = ofF m := by
  unfold ofF
  refine setS_congr ordFl fun x => ?_
  rw [List.mem_filter, List.mem_filter]
  constructor
  · rintro ⟨h1, h2⟩; exact ⟨(h x h2).1 h1, h2⟩
  · rintro ⟨h1, h2⟩; exact ⟨(h x h2).2 h1, h2⟩
theorem ofF_idem (l : List Fl) : ofF (ofF l) = ofF l := ofF_congr fun x hx => by rw [mem_ofF]; simp [hx]
theorem ofF_of {l : List Fl} (hs : Strict ltFl l) (hr : ∀ x ∈ l, flR x = true) : ofF l = l := by
  unfold ofF
  rw [List.filter_eq_self.2 hr]
  exact setS_of_strict ordFl hs
theorem flR_zero : flR ⟨0, 0⟩ = false := rfl
/-- The document's best one, step by step: no fault that is right stands for none. -/
def optFl : Option Fl → Fl
  | none => ⟨0, 0⟩
  | some f => f
end Go.Proofs.YtfcklbiejlkafaaGreatDoor
/-
  Faults: how they lie in memory; compared; small functions.
-/
namespace Go.Proofs.YtfcklbiejlkafaaGreatDoor
set_option linter.unusedSimpArgs false
set_option linter.unusedVariables false
set_option linter.unusedSectionVars false
open Go.ChangeShapes Go.WideShapes Go.ChangeAt Go.RowKit Go.Deep Go.Shelf

instance : Inhabited Fl := ⟨⟨0, 0⟩⟩
abbrev FlT : TypeId := 53
theorem fl_fields : Tryz.prog.underlying FlT = some (.struct (Tryz.prog.fieldsOf FlT)) := by kernel_rfl
theorem fl_plain : Tryz.prog.stoodInHeld FlT = false := by kernel_rfl
def flEq (a b : Fl) : Bool := decide (a = b)
set_option maxRecDepth 100000 in
theorem fl_eql (x y : Fl) (w : World) : (binOp .eql FlT (.agg #[.int .i64 x.scope, .int .i64 x.code]) (.agg #[.int .i64 y.scope, .int .i64 y.code])).run Tryz.prog w = .ok (.bool (flEq x y)) w := by
  obtain ⟨a, b⟩ := x
  obtain ⟨c, d⟩ := y
  have u3 := Tryz.underlying3
  have ag := Tryz.isAgg3
  have z3 := Tryz.sizeOf3
  rw [run_eql_struct, show (10000 : Nat) = 9999 + 1 from rfl, run_equalIn_agg w 9999 FlT _ _ fl_fields fl_plain]
  simp only [Program.fieldsOf, Tryz.underlying53]
  go_simp
  unfold flEq
  repeat' split
  all_goals simp_all
set_option maxRecDepth 100000 in
theorem fl_neq (x y : Fl) (w : World) : (binOp .neq FlT (.agg #[.int .i64 x.scope, .int .i64 x.code]) (.agg #[.int .i64 y.scope, .int .i64 y.code])).run Tryz.prog w = .ok (.bool (!flEq x y)) w := by
  obtain ⟨a, b⟩ := x
  obtain ⟨c, d⟩ := y
  have u3 := Tryz.underlying3
  have ag := Tryz.isAgg3
  have z3 := Tryz.sizeOf3
  rw [run_neq_struct, show (10000 : Nat) = 9999 + 1 from rfl, run_equalIn_agg w 9999 FlT _ _ fl_fields fl_plain]
  simp only [Program.fieldsOf, Tryz.underlying53]
  go_simp
  unfold flEq
  repeat' split
  all_goals simp_all

/-! A row of faults in a block. -/
def RowFl (w : World) (g : Nat) (d : Array Fl) : Prop := ∀ i, i < d.size → w.cell? ⟨g, i * 2, none⟩ = some (.int .i64 d[i]!.scope) ∧ w.cell? ⟨g, i * 2 + 1, none⟩ = some (.int .i64 d[i]!.code) ∧ w.frozen? ⟨g, i * 2, none⟩ = false ∧ w.frozen? ⟨g, i * 2 + 1, none⟩ = false
theorem rowFl_holds {w : World} {g : Nat} {d : Array Fl} (h : RowFl w g d) : Go.Sort.HoldsK Fl.cells 2 w g 0 d := by
  intro t ht
  rw [Go.Sort.size_flatK] at ht
  rw [Go.Sort.get_flatK _ _ _ _ ht]
  obtain ⟨h1, h2, h3, h4⟩ := h (t / 2) (by omega)
  rcases Nat.mod_two_eq_zero_or_one t with e | e
  · have e2 : 0 + t = t / 2 * 2 := by omega
    rw [e, e2]
    exact ⟨h1, h3⟩
  · have e2 : 0 + t = t / 2 * 2 + 1 := by omega
    rw [e, e2]
    exact ⟨h2, h4⟩
theorem holds_rowFl {w : World} {g : Nat} {d : Array Fl} (h : Go.Sort.HoldsK Fl.cells 2 w g 0 d) : RowFl w g d := by
  intro i hi
  have h0 := h.cell hi (show 0 < 2 by omega)
  have h1 := h.cell hi (show 1 < 2 by omega)
  rw [Nat.zero_add, Nat.add_zero] at h0
  rw [Nat.zero_add] at h1
  exact ⟨h0.1, h1.1, h0.2, h1.2⟩
theorem RowFl.drew {w : World} {g : Nat} {d : Array Fl} (h : RowFl w g d) : RowFl w.drew g d := h
theorem RowFl.drewN {w : World} {g : Nat} {d : Array Fl} (h : RowFl w g d) (n : Nat) : RowFl (w.drewN n) g d := h
theorem RowFl.below {w w' : World} {g : Nat} {d : Array Fl} (h : RowFl w g d) (hb : Below w.heap.size w w') (hg : g < w.heap.size) : RowFl w' g d := fun i hi => by
  obtain ⟨h1, h2, h3, h4⟩ := h i hi
  exact ⟨(hb.cell (p := ⟨g, _, none⟩) hg).trans h1, (hb.cell (p := ⟨g, _, none⟩) hg).trans h2, (hb.frozen (p := ⟨g, _, none⟩) hg).trans h3, (hb.frozen (p := ⟨g, _, none⟩) hg).trans h4⟩
theorem RowFl.set {w : World} {g : Nat} {d : Array Fl} (h : RowFl w g d) {k : Nat} (hk : k < d.size) (u : Fl) : RowFl ((w.setCell ⟨g, k * 2, none⟩ (.int .i64 u.scope)).setCell ⟨g, k * 2 + 1, none⟩ (.int .i64 u.code)) g (d.setIfInBounds k u) := by
  intro i hi
  have hi' : i < d.size := by simpa using hi
  obtain ⟨h1, h2, h3, h4⟩ := h i hi'
  by_cases e : i = k
  · subst e
    rw [Go.Sort.getElem!_set_same d i u hi']
    refine ⟨?_, ?_, by simpa using h3, by simpa using h4⟩
    · rw [World.cell?_setCell_other _ _ _ _ (by simp)]
      exact World.cell?_setCell_same _ _ _ h1
    · refine World.cell?_setCell_same _ _ _ (u := .int .i64 d[i]!.code) ?_
      rw [World.cell?_setCell_other _ _ _ _ (by simp)]
      exact h2
  · rw [Go.Sort.getElem!_set_other d k i u e]
    refine ⟨?_, ?_, by simpa using h3, by simpa using h4⟩
    · rw [World.cell?_setCell_other _ _ _ _ (by simp <;> omega), World.cell?_setCell_other _ _ _ _ (by simp <;> omega)]
      exact h1
    · rw [World.cell?_setCell_other _ _ _ _ (by simp <;> omega), World.cell?_setCell_other _ _ _ _ (by simp <;> omega)]
      exact h2
theorem RowFl.clear {w : World} {g : Nat} {d : Array Fl} (h : RowFl w g d) {k : Nat} (vs : List Value) : RowFl (w.setCells g (k * 2) vs) g (d.extract 0 k) := by
  intro i hi
  have hi' : i < d.size ∧ i < k := by simp at hi; omega
  obtain ⟨h1, h2, h3, h4⟩ := h i hi'.1
  have e : (d.extract 0 k)[i]! = d[i]! := by
    rw [getElem!_pos _ i hi, getElem!_pos d i hi'.1]; simp
  rw [e]
  refine ⟨?_, ?_, ?_, ?_⟩
  · rw [World.cell?_setCells_out _ _ _ _ _ (fun _ _ => .inl (by show i * 2 < k * 2; omega))]; exact h1
  · rw [World.cell?_setCells_out _ _ _ _ _ (fun _ _ => .inl (by show i * 2 + 1 < k * 2; omega))]; exact h2
  · rw [World.frozen?_setCells]; exact h3
  · rw [World.frozen?_setCells]; exact h4
theorem below_setCells (B g : Nat) : ∀ (vs : List Value) (o : Nat) (w0 w : World), Below B w0 w → B ≤ g → Below B w0 (w.setCells g o vs)
  | [], _, _, _, h, _ => h
  | v :: r, o, w0, w, h, hg => below_setCells B g r (o + 1) w0 _ (h.setCell (p := ⟨g, o, none⟩) hg v) hg
def flC (f : Fl) : List Value := f.cells
theorem run_clear_fl (w : World) (ty : TypeId) (g k n c : Nat) (hn : 0 < n) (hc : ∀ j, j < n * 2 → (w.cell? ⟨g, k * 2 + j, none⟩).isSome = true) (hf : ∀ j, j < n * 2 → w.frozen? ⟨g, k * 2 + j, none⟩ = false) :
    (Builtin.clear_ #[36] ty #[.slice (some ⟨g, k * 2, none⟩) n c]).run Tryz.prog w = .ok (.tuple #[]) (w.setCells g (k * 2) (List.replicate (n * 2) (.int .i64 0))) := by
  have hz : ∀ w, (zeroValue FlT).run Tryz.prog w = .ok (.agg #[.int .i64 0, .int .i64 0]) w := fun w => by kernel_rfl
  have hzc : (Builtin.zeroCells (Value.agg #[.int .i64 0, .int .i64 0]).cells n).toList = List.replicate (n * 2) (.int .i64 0) := by
    apply List.ext_getElem
    · simp [Builtin.zeroCells, Value.cells]
    · intro i h1 h2
      simp [Builtin.zeroCells, Value.cells]
      rcases Nat.mod_two_eq_zero_or_one i with e | e <;> rw [e] <;> rfl
  have hst := run_storeCells_cells (P := Tryz.prog) g (k * 2) (List.replicate (n * 2) (.int .i64 0)) 0 w (by simpa using hc) (by simpa using hf) (by intro v hv'; rw [List.eq_of_mem_replicate hv']; rfl)
  simp only [Nat.add_zero] at hst
  obtain ⟨m, rfl⟩ : ∃ m, n = m + 1 := ⟨n - 1, by omega⟩
  simp [Builtin.clear_, run_underlying Tryz.underlying36, hz, hzc, hst]
end Go.Proofs.YtfcklbiejlkafaaGreatDoor
/-
  Faults: right ones, their order; neighbours that are the same are struck.
-/
namespace Go.Proofs.YtfcklbiejlkafaaGreatDoor
set_option linter.unusedSimpArgs false
set_option linter.unusedVariables false
set_option linter.unusedSectionVars false
open Go.ChangeShapes Go.WideShapes Go.ChangeAt Go.RowKit Go.Deep Go.Shelf

set_option maxHeartbeats 2000000 in
set_option maxRecDepth 100000 in
theorem faults_Right (s c : Int) (w : World) : Calls Tryz.prog 52 #[.agg #[.int .i64 s, .int .i64 c]] w fun e w' => e = .returned (.bool (flR ⟨s, c⟩)) ∧ ∃ j, w' = w.more j := by
  have HR : Hid (flR ⟨s, c⟩ = ((s == 1 || s == 2) && (decide (0 ≤ c) && decide (c ≤ 4294967295)))) := by
    show _ = _
    unfold flR
    have h1 : decide (c < 4294967296) = decide (c ≤ 4294967295) := by rw [decide_eq_decide]; omega
    rw [h1]
    congr 1
  generalize flR ⟨s, c⟩ = R at HR ⊢
  cases h1 : (s == 1)
  · cases h2 : (s == 2)
    · have hR : R = false := by rw [HR.out, h1, h2]; rfl
      subst hR
      clear HR
      go_enter Tryz.func52, Tryz.ntmps52
      go_wp2_with fail
      go_ret
      exact ⟨rfl, Below.junk (by repeat (first | (with_reducible exact Below.refl _ _) | (with_reducible refine Below.allocS ?_ _) | (with_reducible refine Below.moreS ?_ _) | (with_reducible refine Below.drew ?_) | (with_reducible refine below_drewN ?_ _)))⟩
    · have hc : (0 ≤ c ∧ c ≤ 4294967295) ∨ (0 ≤ c ∧ ¬ c ≤ 4294967295) ∨ ¬ 0 ≤ c := by omega
      rcases hc with ⟨h3, h4⟩ | ⟨h3, h4⟩ | h3
      all_goals
        have hR : R = (decide (0 ≤ c) && decide (c ≤ 4294967295)) := by rw [HR.out, h1, h2]; rfl
        first | simp only [h3, h4, decide_true, decide_false, Bool.and_true, Bool.and_false, Bool.false_and] at hR | simp only [h3, decide_false, Bool.false_and] at hR
        subst hR
        clear HR
        obtain rfl : s = 2 := by simpa using h2
        clear h1 h2
        go_enter Tryz.func52, Tryz.ntmps52
        go_wp2_with fail
        go_ret
        exact ⟨rfl, Below.junk (by repeat (first | (with_reducible exact Below.refl _ _) | (with_reducible refine Below.allocS ?_ _) | (with_reducible refine Below.moreS ?_ _) | (with_reducible refine Below.drew ?_) | (with_reducible refine below_drewN ?_ _)))⟩
  · have hc : (0 ≤ c ∧ c ≤ 4294967295) ∨ (0 ≤ c ∧ ¬ c ≤ 4294967295) ∨ ¬ 0 ≤ c := by omega
    rcases hc with ⟨h3, h4⟩ | ⟨h3, h4⟩ | h3
    all_goals
      have hR : R = (decide (0 ≤ c) && decide (c ≤ 4294967295)) := by rw [HR.out, h1]; rfl
      first | simp only [h3, h4, decide_true, decide_false, Bool.and_true, Bool.and_false, Bool.false_and] at hR | simp only [h3, decide_false, Bool.false_and] at hR
      subst hR
      clear HR
      obtain rfl : s = 1 := by simpa using h1
      clear h1
      go_enter Tryz.func52, Tryz.ntmps52
      go_wp2_with fail
      go_ret
      exact ⟨rfl, Below.junk (by repeat (first | (with_reducible exact Below.refl _ _) | (with_reducible refine Below.allocS ?_ _) | (with_reducible refine Below.moreS ?_ _) | (with_reducible refine Below.drew ?_) | (with_reducible refine below_drewN ?_ _)))⟩

set_option maxHeartbeats 2000000 in
set_option maxRecDepth 100000 in
theorem faults_Less (a b c d : Int) (w : World) : Calls Tryz.prog 78 #[.agg #[.int .i64 a, .int .i64 b], .agg #[.int .i64 c, .int .i64 d]] w fun e w' => e = .returned (.bool (ltFl ⟨a, b⟩ ⟨c, d⟩)) ∧ ∃ j, w' = w.more j := by
  have HR : Hid (ltFl ⟨a, b⟩ ⟨c, d⟩ = if a = c then decide (b < d) else decide (a < c)) := rfl
  generalize ltFl ⟨a, b⟩ ⟨c, d⟩ = R at HR ⊢
  cases h1 : (a == c)
  · have h2 : (a != c) = true := by unfold bne; rw [h1]; rfl
    have hR : R = decide (a < c) := by rw [HR.out, if_neg (by simpa using h1)]
    subst hR
    clear HR
    go_enter Tryz.func78, Tryz.ntmps78
    go_wp2_with fail
    go_ret
    exact ⟨rfl, Below.junk (by repeat (first | (with_reducible exact Below.refl _ _) | (with_reducible refine Below.allocS ?_ _) | (with_reducible refine Below.moreS ?_ _) | (with_reducible refine Below.drew ?_) | (with_reducible refine below_drewN ?_ _)))⟩
  · obtain rfl : a = c := by simpa using h1
    have h2 : (a != a) = false := by simp
    have hR : R = decide (b < d) := by rw [HR.out, if_pos rfl]
    subst hR
    clear HR
    go_enter Tryz.func78, Tryz.ntmps78
    go_wp2_with fail
    go_ret
    exact ⟨rfl, Below.junk (by repeat (first | (with_reducible exact Below.refl _ _) | (with_reducible refine Below.allocS ?_ _) | (with_reducible refine Below.moreS ?_ _) | (with_reducible refine Below.drew ?_) | (with_reducible refine below_drewN ?_ _)))⟩
def cmpFl (x y : Fl) : Int := if x = y then 0 else if ltFl x y = true then -1 else 1
set_option maxHeartbeats 2000000 in
set_option maxRecDepth 100000 in
theorem faults_compare (x y : Fl) (w : World) : Calls Tryz.prog 54 #[.agg #[.int .i64 x.scope, .int .i64 x.code], .agg #[.int .i64 y.scope, .int .i64 y.code]] w fun e w' => e = .returned (.int .i64 (cmpFl x y)) ∧ ∃ j, w' = w.more j := by
  have HL : Hid (∀ W, Calls Tryz.prog 78 #[.agg #[.int .i64 x.scope, .int .i64 x.code], .agg #[.int .i64 y.scope, .int .i64 y.code]] W fun e w' => e = .returned (.bool (ltFl x y)) ∧ ∃ j, w' = W.more j) := faults_Less x.scope x.code y.scope y.code
  have HQ := fun W => fl_eql x y W
  have HR : Hid (cmpFl x y = if flEq x y = true then 0 else if ltFl x y = true then -1 else 1) := by show _ = _; unfold cmpFl flEq; simp
  generalize cmpFl x y = R at HR ⊢
  generalize flEq x y = q at HQ HR
  generalize ltFl x y = t at HL HR
  cases q <;> cases t
  all_goals
    have hR := HR.out
    simp only [Bool.false_eq_true, if_false, if_true] at hR
    subst hR
    clear HR
    go_enter Tryz.func54, Tryz.ntmps54
    go_wp2_with (go_at_call 78; (with_reducible refine (HL.out _).mono ?_); rintro e w' ⟨rfl, j, rfl⟩)
    go_ret
    exact ⟨rfl, Below.junk (by repeat (first | (with_reducible exact Below.refl _ _) | (with_reducible refine Below.allocS ?_ _) | (with_reducible refine Below.moreS ?_ _) | (with_reducible refine Below.drew ?_) | (with_reducible refine below_drewN ?_ _)))⟩

def CompPost (d : Array Fl) (g cap B : Nat) (w : World) (e : Ending) (w' : World) : Prop :=
  e = .returned (.slice (some ⟨g, 0, none⟩) (Lib.compactUpTo d d.size).length cap) ∧ (∃ d' : Array Fl, RowFl w' g d' ∧ d'.toList = Lib.compactUpTo d d.size) ∧ Below B w w'
theorem comp_done {d dk : Array Fl} {m k : Nat} (h : Lib.CompInv d m k dk) (hm : m ≤ d.size) : (dk.extract 0 k).toList = Lib.compactUpTo d m := by
  have hk : k ≤ dk.size := by have := h.lt; have := h.size; omega
  apply List.ext_getElem?
  intro i
  by_cases hi : i < k
  · rw [h.low i hi]
    have : i < dk.size := by omega
    simp [hi, this, getElem!_pos dk i this]
  · rw [List.getElem?_eq_none (by simp; omega), List.getElem?_eq_none (by rw [h.len]; omega)]

set_option maxHeartbeats 8000000 in
set_option maxRecDepth 100000 in
theorem compact_fl (g cap B : Nat) (d : Array Fl) (w : World) (hB : B ≤ g) (hg : g < w.heap.size) (hH : RowFl w g d) (hsz : d.size ≤ 1048576) (hcap : d.size ≤ cap) (hcap2 : cap ≤ 9223372036854775807) :
    Calls Tryz.prog 55 #[.slice (some ⟨g, 0, none⟩) d.size cap] w (CompPost d g cap B w) := by
  have same : ∀ W, RowFl W g d → Below B w W → (∀ j, j < d.size → Lib.keeps d j = true) → CompPost d g cap B w (.returned (.slice (some ⟨g, 0, none⟩) d.size cap)) W := fun W h1 h2 hall => by
    have e : Lib.compactUpTo d d.size = d.toList := by rw [Lib.compactUpTo_all d _ hall, Lib.range_map_get]
    exact ⟨by rw [e]; simp, ⟨d, h1, e.symm⟩, h2⟩
  have HS := Lib.hid same
  clear same
  have HG := Lib.hid hg
  have HBG := Lib.hid hB
  clear hB
  by_cases h2 : d.size < 2
  · have HH := Lib.hid hH
    clear hH
    go_enter Tryz.func55, Tryz.ntmps55
    go_wp2_with fail
    go_ret
    exact HS.out w HH.out (Below.refl _ _) (fun j hj => Lib.keeps_lt_one d j (by omega))
  · go_enter Tryz.func55, Tryz.ntmps55
    go_wp2_with fail
    have HH := Lib.hid hH
    have HCP := Lib.hid hcap
    clear hH
    go_loopg [3] d.size (fun gh s3 wr => ∃ k q : Nat, 1 ≤ k ∧ k ≤ d.size ∧ d.size - k ≤ gh ∧ s3 = .int .i64 k ∧ wr = w.drewN q ∧ Hid (∀ j, j < k → Lib.keeps d j = true))
    case atStart => exact ⟨1, 0, Nat.le_refl _, by omega, by omega, rfl, rfl, Lib.keeps_lt_one d⟩
    case round =>
      obtain ⟨k, q, hk1, hk, hgh, rfl, rfl, HA⟩ := hrel
      have HGH := Lib.hid hgh
      clear hgh
      by_cases hlt : k < d.size
      · obtain ⟨c0, c1, _, _⟩ := HH.out k hlt
        obtain ⟨p0, p1, _, _⟩ := HH.out (k - 1) (by omega)
        have HD : Hid (d[k]! = d[k - 1]! → Lib.keeps d k = false) := fun h => Lib.keeps_neg (by omega) h
        have HN : Hid (d[k]! ≠ d[k - 1]! → ∀ j, j < k + 1 → Lib.keeps d j = true) := fun h j hj => by
          by_cases e : j = k
          · subst e; exact Lib.keeps_pos h
          · exact HA.out j (by omega)
        generalize d[k]! = x at c0 c1 HD HN
        generalize d[k - 1]! = y at p0 p1 HD HN
        have HQ := fun W => fl_eql x y W
        have HE : Hid (flEq x y = true → x = y) := fun h => by simpa [flEq] using h
        have HF : Hid (flEq x y = false → x ≠ y) := fun h => by simpa [flEq] using h
        generalize flEq x y = b at HQ HE HF
        have s1 : IntKind.i64.wrap ((k : Int) - 1) = (k : Int) - 1 := IntWalk.i64_in _ (by omega)
        have s2 : (0 : Int) ≤ (k : Int) - 1 := by omega
        have s3 : ((k : Int) - 1).toNat = k - 1 := by omega
        have s4 : (k : Int) - 1 < d.size := by omega
        have s5 : (k : Int) < d.size := by omega
        cases b
        · have HAL := Lib.hid (HN.out (HF.out rfl))
          go_wp2_with fail
          go_quiet (fail)
          go_wp2_with fail
          go_roundg (d.size - (k + 1))
          case measure => have := HGH.out; omega
          case rel => exact ⟨k + 1, _, by omega, hlt, Nat.le_refl _, by go_num, rfl, HAL.out⟩
        · have HI0 : Hid (Lib.CompInv d (k + 1) k d) := Lib.CompInv.start HA.out (HD.out (HE.out rfl))
          have hkc : ¬ cap = k := by have := HCP.out; omega
          have hkc2 : (k : Int) ≤ cap := by have := HCP.out; omega
          have hkc3 : (k : Int) ≤ d.size := by omega
          clear HD HN HA HE HF
          go_wp2_with fail
          go_quiet (fail)
          go_wp2_with fail
          clear c0 c1 p0 p1 HQ
          go_loopg [3, 5] d.size (fun gh s3 s5 wr => ∃ (kk k2 : Nat) (dk : Array Fl), s3 = .int .i64 kk ∧ s5 = .int .i64 k2 ∧ 1 ≤ k2 ∧ k + k2 ≤ d.size ∧ d.size - (k + k2) ≤ gh ∧ kk < k + k2 ∧ dk.size = d.size ∧ Hid (RowFl wr g dk) ∧ Hid (Below B w wr) ∧ Hid (Lib.CompInv d (k + k2) kk dk))
          case atStart => exact ⟨k, 1, d, rfl, rfl, Nat.le_refl _, by omega, by omega, by omega, rfl, RowFl.drewN HH.out _, below_drewN (Below.refl _ _) _, HI0.out⟩
          case round =>
            obtain ⟨kk, k2, dk, rfl, rfl, h1, hle, hg2, hkk, hds, HR, HB, HI⟩ := hrel
            have HG2 := Lib.hid hg2
            have HDS := Lib.hid hds
            clear hg2 hds
            by_cases hlt2 : k + k2 < d.size
            · obtain ⟨m0, m1, _, _⟩ := HR.out (k + k2) (by rw [HDS.out]; omega)
              obtain ⟨o0, o1, _, _⟩ := HR.out (k + k2 - 1) (by rw [HDS.out]; omega)
              obtain ⟨t0, t1, t2, t3⟩ := HR.out kk (by rw [HDS.out]; omega)
              rw [HI.out.high (k + k2) (by omega), show (k + k2) * 2 = k * 2 + k2 * 2 by omega] at m0 m1
              rw [HI.out.high (k + k2 - 1) (by omega), show (k + k2 - 1) * 2 = k * 2 + (k2 - 1) * 2 by omega] at o0 o1
              have HSK : Hid (d[k + k2]! = d[k + k2 - 1]! → Lib.CompInv d (k + (k2 + 1)) kk dk) := fun h => HI.out.skip (Lib.keeps_neg (by omega) h)
              have HKP : Hid (d[k + k2]! ≠ d[k + k2 - 1]! → Lib.CompInv d (k + (k2 + 1)) (kk + 1) (dk.setIfInBounds kk d[k + k2]!)) := fun h => HI.out.keep hlt2 (Lib.keeps_pos h)
              generalize d[k + k2]! = u at m0 m1 HSK HKP
              generalize d[k + k2 - 1]! = v at o0 o1 HSK HKP
              generalize dk[kk]! = old at t0 t1
              have HQ := fun W => fl_neq u v W
              have HE : Hid (flEq u v = true → u = v) := fun h => by simpa [flEq] using h
              have HF : Hid (flEq u v = false → u ≠ v) := fun h => by simpa [flEq] using h
              generalize flEq u v = b at HQ HE HF
              have r1 : IntKind.i64.wrap ((k2 : Int) - 1) = (k2 : Int) - 1 := IntWalk.i64_in _ (by omega)
              have r2 : (0 : Int) ≤ (k2 : Int) - 1 := by omega
              have r3 : ((k2 : Int) - 1).toNat = k2 - 1 := by omega
              have r4 : (k2 : Int) - 1 < ((d.size - k : Nat) : Int) := by omega
              have r5 : (k2 : Int) < ((d.size - k : Nat) : Int) := by omega
              have r6 : (kk : Int) < d.size := by omega
              have r7 : (k2 : Int) < (d.size : Int) - k := by omega
              cases b
              · have HI2 := Lib.hid (HKP.out (HF.out rfl))
                clear HSK HKP HE HF
                go_wp2_with fail
                go_quiet (fail)
                go_wp2_with fail
                go_roundg (d.size - (k + (k2 + 1)))
                case measure => have := HG2.out; omega
                case rel => exact ⟨kk + 1, k2 + 1, _, by go_num, by go_num, by omega, by omega, Nat.le_refl _, by omega, by simpa using HDS.out, RowFl.set (RowFl.drewN HR.out _) (by rw [HDS.out]; omega) u, ((below_drewN HB.out _).setCell (p := ⟨g, kk * 2, none⟩) HBG.out _).setCell (p := ⟨g, kk * 2 + 1, none⟩) HBG.out _, HI2.out⟩
              · have HI2 := Lib.hid (HSK.out (HE.out rfl))
                clear HSK HKP HE HF
                go_wp2_with fail
                go_quiet (fail)
                go_wp2_with fail
                go_roundg (d.size - (k + (k2 + 1)))
                case measure => have := HG2.out; omega
                case rel => exact ⟨kk, k2 + 1, dk, rfl, by go_num, by omega, by omega, Nat.le_refl _, by omega, HDS.out, RowFl.drewN HR.out _, below_drewN HB.out _, HI2.out⟩
            · have hend : k + k2 = d.size := by omega
              have hcl := fun ty => run_clear_fl wr ty g kk (d.size - kk) (cap - kk) (by omega) (fun j hj => by
                obtain ⟨t0, t1, _, _⟩ := HR.out (kk + j / 2) (by rw [HDS.out]; omega)
                rcases Nat.mod_two_eq_zero_or_one j with e | e
                · rw [show kk * 2 + j = (kk + j / 2) * 2 by omega, t0]; rfl
                · rw [show kk * 2 + j = (kk + j / 2) * 2 + 1 by omega, t1]; rfl) (fun j hj => by
                obtain ⟨_, _, t2, t3⟩ := HR.out (kk + j / 2) (by rw [HDS.out]; omega)
                rcases Nat.mod_two_eq_zero_or_one j with e | e
                · rw [show kk * 2 + j = (kk + j / 2) * 2 by omega, t2]
                · rw [show kk * 2 + j = (kk + j / 2) * 2 + 1 by omega, t3])
              have hkk2 : ¬ cap = kk := by have := HCP.out; omega
              have hkk3 : (kk : Int) ≤ cap := by have := HCP.out; omega
              have hkk4 : (kk : Int) ≤ d.size := by omega
              have hk5 : ¬ (k2 : Int) < ((d.size - k : Nat) : Int) := by omega
              have hk6 : ¬ (k2 : Int) < (d.size : Int) - k := by omega
              have HEN := Lib.hid hend
              clear hend
              go_wp2_with fail
              go_ret
              have hI := HI.out
              rw [HEN.out] at hI
              refine ⟨by rw [hI.len]; rfl, ⟨dk.extract 0 kk, RowFl.clear HR.out _, comp_done hI (Nat.le_refl _)⟩, below_setCells B g _ _ w wr HB.out HBG.out⟩
      · have hke : k = d.size := by omega
        subst hke
        go_wp2_with fail
        go_ret
        exact HS.out _ (RowFl.drewN HH.out q) (below_drewN (Below.refl _ _) q) HA.out
end Go.Proofs.YtfcklbiejlkafaaGreatDoor
/-
  Faults: sorted.
-/
namespace Go.Proofs.YtfcklbiejlkafaaGreatDoor
set_option linter.unusedSimpArgs false
set_option linter.unusedVariables false
set_option linter.unusedSectionVars false
open Go.ChangeShapes Go.WideShapes Go.ChangeAt Go.RowKit Go.Deep Go.Shelf
open Go.Sort (SWO)

set_option maxHeartbeats 2000000 in
set_option maxRecDepth 100000 in
theorem faults_Less0 (x y : Fl) (w : World) : Calls Tryz.prog 78 #[.agg #[.int .i64 x.scope, .int .i64 x.code], .agg #[.int .i64 y.scope, .int .i64 y.code]] w fun e w' => e = .returned (.bool (ltFl x y)) ∧ w' = (w.alloc (.cells #[.int .i64 x.scope, .int .i64 x.code] FlT)).alloc (.cells #[.int .i64 y.scope, .int .i64 y.code] FlT) := by
  obtain ⟨a, b⟩ := x
  obtain ⟨c, d⟩ := y
  have HR : Hid (ltFl ⟨a, b⟩ ⟨c, d⟩ = if a = c then decide (b < d) else decide (a < c)) := rfl
  generalize ltFl ⟨a, b⟩ ⟨c, d⟩ = R at HR ⊢
  simp only
  cases h1 : (a == c)
  · have h2 : (a != c) = true := by unfold bne; rw [h1]; rfl
    have hR : R = decide (a < c) := by rw [HR.out, if_neg (by simpa using h1)]
    subst hR
    clear HR
    go_enter Tryz.func78, Tryz.ntmps78
    go_wp2_with fail
    go_ret
    exact ⟨rfl, rfl⟩
  · obtain rfl : a = c := by simpa using h1
    have h2 : (a != a) = false := by simp
    have hR : R = decide (b < d) := by rw [HR.out, if_pos rfl]
    subst hR
    clear HR
    go_enter Tryz.func78, Tryz.ntmps78
    go_wp2_with fail
    go_ret
    exact ⟨rfl, rfl⟩
set_option maxHeartbeats 2000000 in
set_option maxRecDepth 100000 in
theorem faults_compare0 (x y : Fl) (w : World) : Calls Tryz.prog 54 #[.agg #[.int .i64 x.scope, .int .i64 x.code], .agg #[.int .i64 y.scope, .int .i64 y.code]] w fun e w' => e = .returned (.int .i64 (cmpFl x y)) ∧ ∃ os, w' = Go.Sort.grow w os := by
  have HL : Hid (∀ W, Calls Tryz.prog 78 #[.agg #[.int .i64 x.scope, .int .i64 x.code], .agg #[.int .i64 y.scope, .int .i64 y.code]] W fun e w' => e = .returned (.bool (ltFl x y)) ∧ w' = (W.alloc (.cells #[.int .i64 x.scope, .int .i64 x.code] FlT)).alloc (.cells #[.int .i64 y.scope, .int .i64 y.code] FlT)) := faults_Less0 x y
  have HQ := fun W => fl_eql x y W
  have HR : Hid (cmpFl x y = if flEq x y = true then 0 else if ltFl x y = true then -1 else 1) := by show _ = _; unfold cmpFl flEq; simp
  generalize cmpFl x y = R at HR ⊢
  generalize flEq x y = q at HQ HR
  generalize ltFl x y = t at HL HR
  cases q <;> cases t
  all_goals
    have hR := HR.out
    simp only [Bool.false_eq_true, if_false, if_true] at hR
    subst hR
    clear HR
    go_enter Tryz.func54, Tryz.ntmps54
    go_wp2_with (go_at_call 78; (with_reducible refine (HL.out _).mono ?_); rintro e w' ⟨rfl, rfl⟩)
    go_ret
    exact ⟨rfl, _, by simp only [Go.Sort.alloc_eq_grow, Go.Sort.grow_grow]; rfl⟩

theorem ltOf_cmp (x y : Fl) : ltOf cmpFl x y = ltFl x y := by
  unfold ltOf cmpFl
  by_cases h : x = y
  · subst h; simp [ordFl.irr]
  · rw [if_neg h]
    cases h2 : ltFl x y <;> simp
theorem ltOf_eq : ltOf cmpFl = ltFl := funext fun x => funext fun y => ltOf_cmp x y
theorem swoFl : SWO (ltOf cmpFl) := by
  rw [ltOf_eq]
  refine ⟨ordFl.irr, ordFl.tr, fun x y z h1 h2 => ?_⟩
  cases h : ltFl x z with
  | false => rfl
  | true =>
    by_cases e : x = y
    · subst e; rw [h2] at h; cases h
    · by_cases e2 : y = z
      · subst e2; rw [h1] at h; cases h
      · have a1 : ltFl y x = true := by rcases ordFl.tot x y e with h' | h'
                                        · rw [h1] at h'; cases h'
                                        · exact h'
        have a2 : ltFl z y = true := by rcases ordFl.tot y z e2 with h' | h'
                                        · rw [h2] at h'; cases h'
                                        · exact h'
        have := ordFl.tr _ _ _ (ordFl.tr _ _ _ a2 a1) h
        rw [ordFl.irr] at this; cases this
theorem flCells_one (x : Fl) : ∀ v ∈ Fl.cells x, v.oneCell' = true := by intro v hv; simp [Fl.cells] at hv; rcases hv with rfl | rfl <;> rfl
def SortPost (d : Array Fl) (g B : Nat) (w : World) (e : Ending) (w' : World) : Prop :=
  e = .returned (.tuple #[]) ∧ (∃ d' : Array Fl, d'.size = d.size ∧ d'.toList.Perm d.toList ∧ d'.toList.Pairwise (fun a b => ltFl b a = false) ∧ RowFl w' g d') ∧ Below B w w' ∧ w.heap.size ≤ w'.heap.size
theorem sort_fl (g cap B : Nat) (d : Array Fl) (w : World) (hB : B ≤ g) (hg : g < w.heap.size) (hH : RowFl w g d) (hsz : d.size ≤ 1048576) :
    Calls Tryz.prog 53 #[.slice (some ⟨g, 0, none⟩) d.size cap, .func (.func 54) #[] #[]] w (SortPost d g B w) := by
  have eg : ∀ args w, (callFunc 54 args).run Tryz.prog w = .ok (.enter 54 args) w := enters_of Tryz.func54 (by kernel_rfl) rfl
  have hc : CmpLays Tryz.prog 54 #[] Fl.cells 2 cmpFl g 0 d.size w := fun m os dk _ x y =>
    (faults_compare0 x y _).mono fun e w' ⟨he, os', hw⟩ => ⟨he, 0, os', hw⟩
  have h := AnyQ.slices_SortFunc Tryz.sortFl 2 Tryz.isAgg53 Tryz.sizeOf53 Fl.cells (fun _ => rfl) flCells_one cmpFl swoFl 54 #[] g 0 cap d w eg hc (rowFl_holds hH) hg (by omega)
  refine Calls.mono h fun e w' ⟨he, d', n, os, hp, hs, hw⟩ => ?_
  rw [ltOf_eq] at hs
  have hsize := hp.1
  refine ⟨he, ⟨d', hsize, ?_, ?_, ?_⟩, ?_, ?_⟩
  · have := hp.2.2
    rwa [← hsize, Array.extract_size, hsize, Array.extract_size] at this
  · rw [List.pairwise_iff_getElem]
    intro i j hi hj hij
    have hj' : j < d'.size := by simpa using hj
    have hi' : i < d'.size := by omega
    have := hs i j (Nat.zero_le _) hij (by omega)
    rw [getElem!_pos d' i hi', getElem!_pos d' j hj'] at this
    simpa using this
  · rw [hw]
    exact holds_rowFl (Go.Sort.holdsK_grow (enc := Fl.cells) (k := 2) _ os g 0 d' (by simpa [Go.Sort.putRowK, Go.Sort.ahead] using hg) (Go.Sort.holdsK_putRowK (enc := Fl.cells) (k := 2) _ g 0 d d' (rowFl_holds hH) hsize))
  · rw [hw]
    refine ⟨rfl, rfl, rfl, ?_, fun k hk => ?_⟩
    · show w.heap.size ≤ ((w.heap.modify g _) ++ os).size
      simp
    · show ((w.heap.modify g _) ++ os)[k]? = w.heap[k]?
      have hkg : k < w.heap.size := by omega
      rw [Array.getElem?_append_left (by simpa using hkg), Array.getElem?_modify, if_neg (by omega)]
  · rw [hw]
    show w.heap.size ≤ ((w.heap.modify g _) ++ os).size
    simp
theorem comp_mem (d : Array Fl) : ∀ (m : Nat) (x : Fl), x ∈ Lib.compactUpTo d m ↔ ∃ j, j < m ∧ d[j]! = x
  | 0, x => by simp [Lib.compactUpTo]
  | m + 1, x => by
    rw [Lib.compactUpTo_succ, List.mem_append, comp_mem d m x]
    constructor
    · rintro (⟨j, hj, h⟩ | h)
      · exact ⟨j, by omega, h⟩
      · split at h
        · simp at h; exact ⟨m, by omega, h.symm⟩
        · simp at h
    · rintro ⟨j, hj, h⟩
      by_cases hjm : j = m
      · subst hjm
        cases hk : Lib.keeps d j with
        | true => right; simp [h]
        | false =>
          left
          have hn : ¬ (j = 0 ∨ d[j]! ≠ d[j - 1]!) := by simpa [Lib.keeps] using hk
          have h0 : j ≠ 0 := fun e => hn (.inl e)
          have h1 : d[j]! = d[j - 1]! := Decidable.byContradiction fun e => hn (.inr e)
          exact ⟨j - 1, by omega, by rw [← h1, h]⟩
      · exact .inl ⟨j, by omega, h⟩
theorem comp_strict (d : Array Fl) (hs : ∀ i j, i < j → j < d.size → ltFl d[j]! d[i]! = false) : ∀ m, m ≤ d.size → Strict ltFl (Lib.compactUpTo d m)
  | 0, _ => by simp [Lib.compactUpTo, Strict]
  | m + 1, hm => by
    have ih := comp_strict d hs m (by omega)
    rw [Lib.compactUpTo_succ]
    split
    · rename_i hk
      refine List.pairwise_append.2 ⟨ih, by simp, fun y hy z hz => ?_⟩
      simp at hz
      subst hz
      obtain ⟨j, hj, rfl⟩ := (comp_mem d m y).1 hy
      have hk' : m = 0 ∨ d[m]! ≠ d[m - 1]! := by simpa [Lib.keeps] using hk
      have h0 : d[m]! ≠ d[m - 1]! := by rcases hk' with h | h
                                        · omega
                                        · exact h
      have h1 := hs j m hj (by omega)
      have hlt : ltFl d[m - 1]! d[m]! = true := by
        rcases ordFl.tot _ _ (Ne.symm h0) with h | h
        · exact h
        · rw [hs (m - 1) m (by omega) (by omega)] at h; cases h
      by_cases e : j = m - 1
      · rw [e]; exact hlt
      · have h2 := hs j (m - 1) (by omega) (by omega)
        by_cases e2 : d[j]! = d[m]!
        · rw [e2, hlt] at h2 <;> cases h2
        · rcases ordFl.tot _ _ e2 with h | h
          · exact h
          · rw [h1] at h; cases h
    · simpa using ih
theorem comp_set {d d' : Array Fl} {l : List Fl} (hp : d'.toList.Perm d.toList) (hs : d'.toList.Pairwise (fun a b => ltFl b a = false)) (hl : d.toList = l) : Lib.compactUpTo d' d'.size = setS ltFl l := by
  refine strict_ext ordFl _ _ (comp_strict d' (fun i j hij hj => ?_) _ (Nat.le_refl _)) (strict_setS ordFl l) (fun x => ?_)
  · rw [List.pairwise_iff_getElem] at hs
    have := hs i j (by simp; omega) (by simpa using hj) hij
    rw [getElem!_pos d' i (by omega), getElem!_pos d' j hj]
    simpa using this
  · rw [comp_mem, mem_setS, ← hl, ← hp.mem_iff]
    constructor
    · rintro ⟨j, hj, rfl⟩
      rw [getElem!_pos d' j hj]; simp
    · intro h
      obtain ⟨j, hj, rfl⟩ := List.getElem_of_mem h
      exact ⟨j, by simpa using hj, by rw [getElem!_pos d' j (by simpa using hj)]; simp⟩
end Go.Proofs.YtfcklbiejlkafaaGreatDoor
/-
  Faults: the set of the right ones.
-/
namespace Go.Proofs.YtfcklbiejlkafaaGreatDoor
set_option linter.unusedSimpArgs false
set_option linter.unusedVariables false
set_option linter.unusedSectionVars false
open Go.ChangeShapes Go.WideShapes Go.ChangeAt Go.RowKit Go.Deep Go.Shelf

theorem comp_len (d : Array Fl) : ∀ m, (Lib.compactUpTo d m).length ≤ m
  | 0 => by simp [Lib.compactUpTo]
  | m + 1 => by
    have ih := comp_len d m
    rw [Lib.compactUpTo_succ]
    split <;> simp <;> omega
abbrev SlFl (w : World) (B : Nat) (a : Option Addr) (l : List Fl) : Prop := SlR w B 2 (fun x cs => cs = Fl.cells x) a l
theorem SlR.atFl {w : World} {B : Nat} {a : Option Addr} {l : List Fl} (h : SlFl w B a l) {k : Nat} (hk : k < l.length) : ∃ b off, a = some ⟨b, off, none⟩ ∧ b < B ∧ w.cell? ⟨b, off + k * 2, none⟩ = some (.int .i64 l[k].scope) ∧ w.cell? ⟨b, off + k * 2 + 1, none⟩ = some (.int .i64 l[k].code) := by
  obtain ⟨b, off, cs, ha, hb, rfl, hc⟩ := h k hk
  exact ⟨b, off, ha, hb, hc 0 _ rfl, hc 1 _ rfl⟩
abbrev OwnFl (B : Nat) (w : World) (v : Value) (l : List Fl) : Prop := OwnC FlT 2 Fl.cells B w v l
theorem st_fl : SliceTy Tryz.prog 36 FlT (.agg #[.int .i64 0, .int .i64 0]) 2 16 := .mk' Tryz.underlying36 (by kernel_rfl) rfl (by omega)
theorem flC_len (x : Fl) : (Fl.cells x).length = 2 := rfl
theorem flC_one (x : Fl) : ∀ u ∈ Fl.cells x, u.oneCell' = true := by intro u hu; simp [Fl.cells] at hu; rcases hu with rfl | rfl <;> rfl
theorem arr_get (l : List Fl) {i : Nat} (hi : i < l.length) : l.toArray[i]! = l[i] := by rw [getElem!_pos l.toArray i (by simpa using hi)]; simp
theorem OwnFl.parts {B : Nat} {w : World} {v : Value} {l : List Fl} (h : OwnFl B w v l) : (v = .slice none 0 0 ∧ l = []) ∨ ∃ g cap, v = .slice (some ⟨g, 0, none⟩) l.length cap ∧ B ≤ g ∧ g < w.heap.size ∧ l.length ≤ cap ∧ cap ≤ 9223372036854775807 ∧ RowFl w g l.toArray := by
  have h0 : w.ownsRow B FlT 2 v l.length (l.flatMap Fl.cells) := h
  rcases h0.2 with ⟨rfl, hn⟩ | ⟨g, cap, cur, rfl, hg, hh, h3, h4, h5, h6⟩
  · exact .inl ⟨rfl, List.eq_nil_of_length_eq_zero hn⟩
  · refine .inr ⟨g, cap, rfl, hg, (h0.lt g rfl).2, h3, h4, ?_⟩
    intro i hi
    have hi' : i < l.length := by simpa using hi
    have c (j : Nat) (u : Value) (hu : (Fl.cells l[i])[j]? = some u) : w.cell? ⟨g, i * 2 + j, none⟩ = some u := by
      have := h0.cells (g := g) rfl (i * 2 + j) u (flat_get (c := Fl.cells) (size := 2) l (fun _ _ => rfl) i hi' j u hu)
      rwa [show (⟨g, 0, none⟩ : Addr).add (i * 2 + j) = ⟨g, i * 2 + j, none⟩ by unfold Addr.add; split <;> simp_all] at this
    rw [arr_get l hi']
    exact ⟨c 0 _ rfl, c 1 _ rfl, frozen_of_row _ _ _ _ _ hh, frozen_of_row _ _ _ _ _ hh⟩
theorem rowFl_sl {w : World} {g : Nat} {d : Array Fl} (h : RowFl w g d) (hg : g < w.heap.size) : SlFl w w.heap.size (some ⟨g, 0, none⟩) d.toList := by
  intro k hk
  have hk' : k < d.size := by simpa using hk
  obtain ⟨h1, h2, _, _⟩ := h k hk'
  rw [getElem!_pos d k hk'] at h1 h2
  refine ⟨g, 0, _, rfl, hg, rfl, fun j u hu => ?_⟩
  rw [Nat.zero_add]
  match j, hu with
  | 0, hu => simp [Fl.cells] at hu; subst hu; exact h1
  | 1, hu => simp [Fl.cells] at hu; subst hu; exact h2
  | j + 2, hu => simp [Fl.cells] at hu

set_option maxHeartbeats 2000000 in
set_option maxRecDepth 100000 in
theorem compact_nil (w : World) : Calls Tryz.prog 55 #[.slice none 0 0] w fun e w' => e = .returned (.slice none 0 0) ∧ w' = w := by
  go_enter Tryz.func55, Tryz.ntmps55
  go_wp2_with fail
  go_ret
  exact ⟨rfl, rfl⟩
theorem sort_nil (fv : Value) (w : World) : Calls Tryz.prog 53 #[.slice none 0 0, fv] w fun e w' => e = .returned (.tuple #[]) ∧ w' = w :=
  AnyF.slices_SortFunc_none Tryz.sortFl none 0 fv w

set_option maxHeartbeats 8000000 in
set_option maxRecDepth 100000 in
theorem faults_Of (a : Option Addr) (l : List Fl) (cap : Nat) (hl : l.length ≤ 100000) (w : World) (hS : SlFl w w.heap.size a l) :
    Calls Tryz.prog 38 #[.slice a l.length cap] w fun e w' => ∃ a' cap', e = .returned (.slice a' (ofF l).length cap') ∧ (ofF l).length ≤ cap' ∧ SlFl w' w'.heap.size a' (ofF l) ∧ Below w.heap.size w w' := by
  have HR : Hid (ofF l = setS ltFl (l.filter flR)) := rfl
  generalize ofF l = R at HR ⊢
  have HS := Lib.hid hS
  clear hS
  go_enter Tryz.func38, Tryz.ntmps38
  go_wp2_with fail
  go_loopg [3, 8] l.length (fun g v i wr => ∃ (k : Nat) (out : List Fl), k + g = l.length ∧ i = .int .i64 k ∧ out.length ≤ k ∧ OwnFl w.heap.size wr v out ∧ Below w.heap.size w wr ∧ Hid (l.filter flR = out ++ (l.drop k).filter flR))
  case atStart => exact ⟨0, [], by omega, rfl, by simp, OwnC.nil _ _, Below.refl _ _, rfl⟩
  case round =>
    obtain ⟨k, out, hkg, rfl, hok, HO, hb, HU⟩ := hrel
    have HO := Lib.hid HO
    have HB := Lib.hid hb
    have HK := Lib.hid hkg
    by_cases hlt : k < l.length
    · obtain ⟨b, off, ha, hbb, c00, c01⟩ := SlR.atFl HS.out hlt
      subst ha
      have c0 : wr.cell? ⟨b, off + k * 2, none⟩ = some (.int .i64 l[k].scope) := (hb.cell (p := ⟨b, off + k * 2, none⟩) hbb).trans c00
      have c1 : wr.cell? ⟨b, off + k * 2 + 1, none⟩ = some (.int .i64 l[k].code) := (hb.cell (p := ⟨b, off + k * 2 + 1, none⟩) hbb).trans c01
      have hbx : b < wr.heap.size := Nat.lt_of_lt_of_le hbb hb.size
      have hd : l.drop k = l[k] :: l.drop (k + 1) := List.drop_eq_getElem_cons hlt
      have HT : Hid (flR l[k] = true → l.filter flR = (out ++ [l[k]]) ++ (l.drop (k + 1)).filter flR) := fun h => by rw [HU.out, hd, List.filter_cons_of_pos h]; simp
      have HF : Hid (flR l[k] = false → l.filter flR = out ++ (l.drop (k + 1)).filter flR) := fun h => by rw [HU.out, hd, List.filter_cons_of_neg (by simp [h])]
      clear hd c00 c01 hb hkg HU
      generalize l[k] = x at c0 c1 HT HF
      obtain ⟨s, c⟩ := x
      have HQ : Hid (∀ W, Calls Tryz.prog 52 #[.agg #[.int .i64 s, .int .i64 c]] W fun e w' => e = .returned (.bool (flR ⟨s, c⟩)) ∧ ∃ j, w' = W.more j) := faults_Right s c
      generalize flR ⟨s, c⟩ = r at HQ HT HF
      cases r
      · have HU2 := Lib.hid (HF.out rfl)
        clear HT HF
        go_wp2_with fail
        refine (HQ.out _).mono ?_
        rintro e w' ⟨rfl, j, rfl⟩
        go_wp2_with fail
        go_roundg (l.length - (k + 1))
        case measure => have := HK.out; omega
        case rel => exact ⟨k + 1, out, by have := HK.out; omega, by go_num, by omega, HO.out.below (C := wr.heap.size) (by repeat (first | (with_reducible exact Below.refl _ _) | (with_reducible refine Below.allocS ?_ _) | (with_reducible refine Below.moreS ?_ _) | (with_reducible refine Below.drew ?_) | (with_reducible refine below_drewN ?_ _))) (Nat.le_refl _), HB.out.trans (Below.mono (B := wr.heap.size) (by repeat (first | (with_reducible exact Below.refl _ _) | (with_reducible refine Below.allocS ?_ _) | (with_reducible refine Below.moreS ?_ _) | (with_reducible refine Below.drew ?_) | (with_reducible refine below_drewN ?_ _))) HB.out.size), HU2.out⟩
      · have HU2 := Lib.hid (HT.out rfl)
        clear HT HF
        go_wp2_with fail
        refine (HQ.out _).mono ?_
        rintro e w' ⟨rfl, j, rfl⟩
        go_wp2_with (at_builtin; refine app_c (y := ⟨s, c⟩) st_fl flC_len flC_one (by omega) (.tmp 14) (.tmp 16) rfl rfl rfl (HO.out.below (C := wr.heap.size) (by repeat (first | (with_reducible exact Below.refl _ _) | (with_reducible refine Below.allocS ?_ _) | (with_reducible refine Below.moreS ?_ _) | (with_reducible refine Below.drew ?_) | (with_reducible refine below_drewN ?_ _))) (Nat.le_refl _)) rfl (Blk.at_ _ _ _ (by simp)) rfl (by omega) (by have := HB.out.size; simp only [World.size_alloc, World.size_more]; omega) ?_; intro v' w2 hown hbw)
        have hb2 := HB.out.trans ((Below.mono (B := wr.heap.size) (by repeat (first | (with_reducible exact Below.refl _ _) | (with_reducible refine Below.allocS ?_ _) | (with_reducible refine Below.moreS ?_ _) | (with_reducible refine Below.drew ?_) | (with_reducible refine below_drewN ?_ _))) HB.out.size).trans hbw)
        have HB2 := Lib.hid hb2
        have HO2 := Lib.hid hown
        clear hbw hb2 hown
        go_wp2_with fail
        go_roundg (l.length - (k + 1))
        case measure => have := HK.out; omega
        case rel => exact ⟨k + 1, out ++ [⟨s, c⟩], by have := HK.out; omega, by go_num, by simp; omega, HO2.out, HB2.out, HU2⟩
    · have hU : l.filter flR = out := by rw [HU.out, List.drop_of_length_le (by omega)]; simp
      have hR : R = setS ltFl out := by rw [HR.out, hU]
      clear hU HU HR
      rcases OwnFl.parts HO.out with ⟨rfl, rfl⟩ | ⟨g, cp, rfl, hg1, hg2, hc1, hc2, hrow⟩
      · have hR : R = [] := by rw [hR]; rfl
        subst hR
        clear hb hkg
        go_wp2_with (first | (go_at_call 53; (with_reducible refine (sort_nil _ _).mono ?_); rintro e w' ⟨rfl, rfl⟩) | (go_at_call 55; (with_reducible refine (compact_nil _).mono ?_); rintro e w' ⟨rfl, rfl⟩))
        go_ret
        exact ⟨none, 0, rfl, Nat.le_refl _, .nil, HB.out⟩
      · have HSO := Lib.hid (sort_fl g cp w.heap.size out.toArray wr hg1 hg2 hrow (by simp; omega))
        have HCP : Hid (out.length ≤ cp ∧ cp ≤ 9223372036854775807) := ⟨hc1, hc2⟩
        have HG : Hid (w.heap.size ≤ g ∧ g < wr.heap.size) := ⟨hg1, hg2⟩
        have HM : Hid (out.length ≤ 100000) := Nat.le_trans hok (by omega)
        have HOO : Hid (∀ d' : Array Fl, d'.toList.Perm out.toArray.toList → d'.toList.Pairwise (fun a b => ltFl b a = false) → Lib.compactUpTo d' d'.size = R) := fun d' h1 h2 => by rw [hR]; exact comp_set h1 h2 (by simp)
        have hz : out.toArray.size = out.length := by simp
        generalize out.toArray = d at HSO HOO hz
        rw [← hz] at HCP HM ⊢
        clear hb hkg hrow hR hc1 hc2 HO hok hg1 hg2
        generalize hn : d.size = n at HSO HCP HM hz ⊢
        have HN := Lib.hid hn
        clear hz hn
        go_wp2_with fail
        refine HSO.out.mono ?_
        rintro e w1 ⟨rfl, ⟨d', hd1, hd2, hd3, hrow⟩, hb1, hs1⟩
        rw [HN.out] at hd1
        have HC := Lib.hid (compact_fl g cp w.heap.size d' w1 HG.out.1 (Nat.lt_of_lt_of_le HG.out.2 hs1) hrow (by rw [hd1]; have := HM.out; omega) (by rw [hd1]; exact HCP.out.1) HCP.out.2)
        have HX := Lib.hid (HOO.out d' hd2 hd3)
        have HB1 := Lib.hid (HB.out.trans hb1)
        rw [hd1] at HC HX
        clear hrow hd2 hd3 hb1
        go_wp2_with fail
        refine HC.out.mono ?_
        rintro e w2 ⟨rfl, ⟨d2, hrow, hd2⟩, hb2⟩
        rw [hd1, HX.out] at hd2
        have HD := Lib.hid hd2
        have HR := Lib.hid hrow
        have HB2 := Lib.hid (HB1.out.trans hb2)
        rw [hd1, HX.out]
        clear hd2 hrow
        go_wp2_with fail
        go_ret
        refine ⟨_, _, rfl, ?_, ?_, HB2.out⟩
        · rw [← HX.out]
          have := comp_len d' n
          have := HCP.out.1
          omega
        · rw [← HD.out]
          exact rowFl_sl HR.out (by have := HG.out.2; have := hb2.size; omega)
end Go.Proofs.YtfcklbiejlkafaaGreatDoor
/-
  Faults: the document's right ones, their order, one among some, two lists.
-/
namespace Go.Proofs.YtfcklbiejlkafaaGreatDoor
set_option linter.unusedSimpArgs false
set_option linter.unusedVariables false
set_option linter.unusedSectionVars false
open Go.ChangeShapes Go.WideShapes Go.ChangeAt Go.RowKit Go.Deep Go.Shelf

set_option maxHeartbeats 4000000 in
set_option maxRecDepth 100000 in
theorem ref09_Right (s c : Int) (w : World) : Calls Tryz.prog 48 #[.agg #[.int .i64 s, .int .i64 c]] w fun e w' => e = .returned (.bool (flR ⟨s, c⟩)) ∧ ∃ j, w' = w.more j := by
  have HR : Hid (flR ⟨s, c⟩ = ((s == 1 || s == 2) && (decide (0 ≤ c) && decide (c < 4294967296)))) := rfl
  generalize flR ⟨s, c⟩ = R at HR ⊢
  have hc : (0 ≤ c ∧ c < 4294967296) ∨ (0 ≤ c ∧ ¬ c < 4294967296) ∨ ¬ 0 ≤ c := by omega
  cases h1 : (s == 1)
  · cases h2 : (s == 2)
    · have hR : R = false := by rw [HR.out, h1, h2]; rfl
      subst hR
      clear HR hc
      go_enter Tryz.func48, Tryz.ntmps48
      go_wp2_with fail
      all_goals first
        | (exfalso; simp_all; done)
        | (go_ret; exact ⟨rfl, Below.junk (by repeat (first | (with_reducible exact Below.refl _ _) | (with_reducible refine Below.allocS ?_ _) | (with_reducible refine Below.moreS ?_ _) | (with_reducible refine Below.drew ?_) | (with_reducible refine below_drewN ?_ _)))⟩)
    · rcases hc with ⟨h3, h4⟩ | ⟨h3, h4⟩ | h3
      all_goals
        have hR : R = (decide (0 ≤ c) && decide (c < 4294967296)) := by rw [HR.out, h1, h2]; rfl
        first | simp only [h3, h4, decide_true, decide_false, Bool.and_true, Bool.and_false, Bool.false_and] at hR | simp only [h3, decide_false, Bool.false_and] at hR
        subst hR
        clear HR
        obtain rfl : s = 2 := by simpa using h2
        clear h1 h2
        go_enter Tryz.func48, Tryz.ntmps48
        go_wp2_with fail
        go_ret
        exact ⟨rfl, Below.junk (by repeat (first | (with_reducible exact Below.refl _ _) | (with_reducible refine Below.allocS ?_ _) | (with_reducible refine Below.moreS ?_ _) | (with_reducible refine Below.drew ?_) | (with_reducible refine below_drewN ?_ _)))⟩
  · rcases hc with ⟨h3, h4⟩ | ⟨h3, h4⟩ | h3
    all_goals
      have hR : R = (decide (0 ≤ c) && decide (c < 4294967296)) := by rw [HR.out, h1]; rfl
      first | simp only [h3, h4, decide_true, decide_false, Bool.and_true, Bool.and_false, Bool.false_and] at hR | simp only [h3, decide_false, Bool.false_and] at hR
      subst hR
      clear HR
      obtain rfl : s = 1 := by simpa using h1
      clear h1
      go_enter Tryz.func48, Tryz.ntmps48
      go_wp2_with fail
      go_ret
      exact ⟨rfl, Below.junk (by repeat (first | (with_reducible exact Below.refl _ _) | (with_reducible refine Below.allocS ?_ _) | (with_reducible refine Below.moreS ?_ _) | (with_reducible refine Below.drew ?_) | (with_reducible refine below_drewN ?_ _)))⟩

set_option maxHeartbeats 4000000 in
set_option maxRecDepth 100000 in
theorem ref09_Less (a b c d : Int) (w : World) : Calls Tryz.prog 50 #[.agg #[.int .i64 a, .int .i64 b], .agg #[.int .i64 c, .int .i64 d]] w fun e w' => e = .returned (.bool (ltFl ⟨a, b⟩ ⟨c, d⟩)) ∧ ∃ j, w' = w.more j := by
  have HR : Hid (ltFl ⟨a, b⟩ ⟨c, d⟩ = if a = c then decide (b < d) else decide (a < c)) := rfl
  generalize ltFl ⟨a, b⟩ ⟨c, d⟩ = R at HR ⊢
  by_cases h0 : a < c
  · have hR : R = true := by rw [HR.out, if_neg (by omega)]; simpa using h0
    subst hR
    clear HR
    go_enter Tryz.func50, Tryz.ntmps50
    go_wp2_with fail
    go_ret
    exact ⟨rfl, Below.junk (by repeat (first | (with_reducible exact Below.refl _ _) | (with_reducible refine Below.allocS ?_ _) | (with_reducible refine Below.moreS ?_ _) | (with_reducible refine Below.drew ?_) | (with_reducible refine below_drewN ?_ _)))⟩
  · cases h1 : (a == c)
    · have hR : R = false := by rw [HR.out, if_neg (by simpa using h1)]; simpa using h0
      subst hR
      clear HR
      go_enter Tryz.func50, Tryz.ntmps50
      go_wp2_with fail
      go_ret
      exact ⟨rfl, Below.junk (by repeat (first | (with_reducible exact Below.refl _ _) | (with_reducible refine Below.allocS ?_ _) | (with_reducible refine Below.moreS ?_ _) | (with_reducible refine Below.drew ?_) | (with_reducible refine below_drewN ?_ _)))⟩
    · obtain rfl : a = c := by simpa using h1
      have hR : R = decide (b < d) := by rw [HR.out, if_pos rfl]
      subst hR
      clear HR
      by_cases h2 : b < d
      all_goals
        go_enter Tryz.func50, Tryz.ntmps50
        go_wp2_with fail
        go_ret
        exact ⟨by simp [h2], Below.junk (by repeat (first | (with_reducible exact Below.refl _ _) | (with_reducible refine Below.allocS ?_ _) | (with_reducible refine Below.moreS ?_ _) | (with_reducible refine Below.drew ?_) | (with_reducible refine below_drewN ?_ _)))⟩

set_option maxHeartbeats 4000000 in
set_option maxRecDepth 100000 in
theorem ref09_Has (a : Option Addr) (l : List Fl) (cap : Nat) (s c : Int) (hl : l.length ≤ 100000) (w : World) (hS : SlFl w w.heap.size a l) :
    Calls Tryz.prog 49 #[.slice a l.length cap, .agg #[.int .i64 s, .int .i64 c]] w fun e w' => e = .returned (.bool (decide (⟨s, c⟩ ∈ l))) ∧ ∃ j, w' = w.more j := by
  obtain ⟨R, hR⟩ : ∃ R, R = decide ((⟨s, c⟩ : Fl) ∈ l) := ⟨_, rfl⟩
  rw [← hR]
  have HR := Lib.hid hR
  have HS := Lib.hid hS
  clear hS hR
  go_enter Tryz.func49, Tryz.ntmps49
  go_wp2_with fail
  go_loopg [5] l.length (fun g i wr => ∃ k q : Nat, k + g = l.length ∧ i = .int .i64 k ∧ wr = (w.alloc (.cells #[.int .i64 s, .int .i64 c] 53)).drewN q ∧ Hid (R = decide ((⟨s, c⟩ : Fl) ∈ l.drop k)))
  case atStart => exact ⟨0, 0, by omega, rfl, rfl, HR⟩
  case round =>
    obtain ⟨k, q, hkg, rfl, rfl, HU⟩ := hrel
    have HK := Lib.hid hkg
    clear hkg
    by_cases hlt : k < l.length
    · obtain ⟨b, off, ha, hbb, c0, c1⟩ := SlR.atFl HS.out hlt
      subst ha
      have hd : l.drop k = l[k] :: l.drop (k + 1) := List.drop_eq_getElem_cons hlt
      have HT : Hid (l[k] = ⟨s, c⟩ → R = true) := fun h => by rw [HU.out, hd, h]; simp
      have HF : Hid (l[k] ≠ ⟨s, c⟩ → R = decide ((⟨s, c⟩ : Fl) ∈ l.drop (k + 1))) := fun h => by rw [HU.out, decide_eq_decide, hd, List.mem_cons]; exact ⟨fun h' => h'.resolve_left (Ne.symm h), .inr⟩
      clear hd HU
      generalize l[k] = x at c0 c1 HT HF
      have HQ := fun W => fl_eql x ⟨s, c⟩ W
      have HE : Hid (flEq x ⟨s, c⟩ = true → x = ⟨s, c⟩) := fun h => by simpa [flEq] using h
      have HN : Hid (flEq x ⟨s, c⟩ = false → x ≠ ⟨s, c⟩) := fun h => by simpa [flEq] using h
      generalize flEq x ⟨s, c⟩ = e at HQ HE HN
      cases e
      · have HU2 := Lib.hid (HF.out (HN.out rfl))
        clear HT HF HE HN
        go_wp2_with fail
        go_quiet (fail)
        go_wp2_with fail
        go_roundg (l.length - (k + 1))
        case measure => have := HK.out; omega
        case rel => exact ⟨k + 1, _, by have := HK.out; omega, by go_num, rfl, HU2⟩
      · have hR2 := HT.out (HE.out rfl)
        subst hR2
        clear HT HF HE HN
        go_wp2_with fail
        go_quiet (fail)
        go_wp2_with fail
        go_ret
        exact ⟨rfl, Below.junk (below_drewN (by repeat (first | (with_reducible exact Below.refl _ _) | (with_reducible refine Below.allocS ?_ _) | (with_reducible refine Below.moreS ?_ _) | (with_reducible refine Below.drew ?_) | (with_reducible refine below_drewN ?_ _))) _)⟩
    · have hR2 : R = false := by rw [HU.out, List.drop_of_length_le (by omega)]; simp
      subst hR2
      clear HU
      go_wp2_with fail
      go_ret
      exact ⟨rfl, Below.junk (below_drewN (by repeat (first | (with_reducible exact Below.refl _ _) | (with_reducible refine Below.allocS ?_ _) | (with_reducible refine Below.moreS ?_ _) | (with_reducible refine Below.drew ?_) | (with_reducible refine below_drewN ?_ _))) _)⟩

end Go.Proofs.YtfcklbiejlkafaaGreatDoor
/-
  Faults: the document's set of the right ones.
-/
namespace Go.Proofs.YtfcklbiejlkafaaGreatDoor
set_option linter.unusedSimpArgs false
set_option linter.unusedVariables false
set_option linter.unusedSectionVars false
open Go.ChangeShapes Go.WideShapes Go.ChangeAt Go.RowKit Go.Deep Go.Shelf

def pOf (out : List Fl) : Fl → Bool := fun x => flR x && !decide (x ∈ out)
def takeB (rx h rb ls : Bool) : Bool := rx && !h && (!rb || ls)
theorem step_take {out : List Fl} {bo : Option Fl} {x : Fl} (hb : ∀ y, bo = some y → flR y = true) : stepM ltFl (pOf out) bo x = if takeB (flR x) (decide (x ∈ out)) (flR (optFl bo)) (ltFl x (optFl bo)) = true then some x else bo := by
  unfold stepM takeB pOf
  cases bo with
  | none =>
    have h0 : flR (optFl none) = false := rfl
    rw [h0]
    generalize decide (x ∈ out) = h
    cases flR x <;> cases h <;> simp
  | some y =>
    have h0 : flR (optFl (some y)) = true := hb y rfl
    rw [h0]
    generalize decide (x ∈ out) = h
    show (if (flR x && !h) = true then (if ltFl x y = true then some x else some y) else some y) = if (flR x && !h && (!true || ltFl x y)) = true then some x else some y
    cases flR x <;> cases h <;> cases ltFl x y <;> simp
theorem minS_drop {out l : List Fl} {bo : Option Fl} {k : Nat} (hlt : k < l.length) (hb : ∀ y, bo = some y → flR y = true) : minS ltFl (pOf out) (l.drop k) bo = minS ltFl (pOf out) (l.drop (k + 1)) (if takeB (flR l[k]) (decide (l[k] ∈ out)) (flR (optFl bo)) (ltFl l[k] (optFl bo)) = true then some l[k] else bo) := by
  rw [← step_take hb, List.drop_eq_getElem_cons hlt]
  rfl
theorem take_right {out : List Fl} {bo : Option Fl} {x : Fl} (hb : ∀ y, bo = some y → flR y = true) : ∀ y, (if takeB (flR x) (decide (x ∈ out)) (flR (optFl bo)) (ltFl x (optFl bo)) = true then some x else bo) = some y → flR y = true := by
  intro y h
  split at h
  · rename_i ht
    injection h with h
    subst h
    unfold takeB at ht
    simp only [Bool.and_eq_true] at ht
    exact ht.1.1
  · exact hb y h
theorem next_of (l : List Fl) (n : Nat) : minS ltFl (pOf ((ofF l).take n)) l none = (ofF l)[n]? := minS_next ordFl flR l (ofF l) (strict_ofF l) (mem_ofF l) n

set_option maxHeartbeats 8000000 in
set_option maxRecDepth 100000 in
theorem ref09_Of (a : Option Addr) (l : List Fl) (cap : Nat) (hl : l.length ≤ 100000) (w : World) (hS : SlFl w w.heap.size a l) :
    Calls Tryz.prog 34 #[.slice a l.length cap] w fun e w' => ∃ a' cap', e = .returned (.slice a' (ofF l).length cap') ∧ (ofF l).length ≤ cap' ∧ SlFl w' w'.heap.size a' (ofF l) ∧ Below w.heap.size w w' := by
  have HNX : Hid (∀ n, minS ltFl (pOf ((ofF l).take n)) l none = (ofF l)[n]?) := next_of l
  have hlen := ofF_len l
  generalize ofF l = S at HNX hlen ⊢
  have HLN := Lib.hid hlen
  have HS := Lib.hid hS
  clear hS hlen
  go_enter Tryz.func34, Tryz.ntmps34
  go_wp2_with fail
  go_loopg [3, 4] l.length (fun g v i wr => ∃ (n : Nat) (out : List Fl), n + g = l.length ∧ i = .int .i64 n ∧ OwnFl w.heap.size wr v out ∧ Below w.heap.size w wr ∧ Hid (out = S.take n))
  case atStart => exact ⟨0, [], by omega, rfl, OwnC.nil _ _, Below.refl _ _, rfl⟩
  case round =>
    obtain ⟨n, out, hng, rfl, HO, hb, HU⟩ := hrel
    obtain ⟨a3, cap3, rfl, hsl⟩ := HO.read flC_len
    have hol : out.length ≤ n := by rw [HU.out, List.length_take]; omega
    have HO := Lib.hid HO
    have HB := Lib.hid hb
    have HN := Lib.hid hng
    have HSL := Lib.hid hsl
    have HOL := Lib.hid hol
    clear hng hsl hol
    by_cases hlt : n < l.length
    · have hon : out.length ≤ 100000 := Nat.le_trans HOL.out (by omega)
      have HON := Lib.hid hon
      clear hon
      go_wp2_with fail
      go_loopg [6] l.length (fun g i w2 => ∃ (k : Nat) (bo : Option Fl) (j : Junk), k + g = l.length ∧ i = .int .i64 k ∧ w2 = (wr.alloc (.cells #[.int .i64 (optFl bo).scope, .int .i64 (optFl bo).code] 53)).more j ∧ Hid (∀ y, bo = some y → flR y = true) ∧ Hid (minS ltFl (pOf out) l none = minS ltFl (pOf out) (l.drop k) bo))
      case atStart => exact ⟨0, none, _, by omega, rfl, more_self _, fun y h => (nomatch h), rfl⟩
      case round =>
        obtain ⟨k, bo, j, hkg, rfl, rfl, HI, HM⟩ := hrel
        have HK := Lib.hid hkg
        clear hkg
        by_cases hlk : k < l.length
        · obtain ⟨b, off, ha, hbb, c00, c01⟩ := SlR.atFl HS.out hlk
          subst ha
          have c0 : wr.cell? ⟨b, off + k * 2, none⟩ = some (.int .i64 l[k].scope) := (hb.cell (p := ⟨b, off + k * 2, none⟩) hbb).trans c00
          have c1 : wr.cell? ⟨b, off + k * 2 + 1, none⟩ = some (.int .i64 l[k].code) := (hb.cell (p := ⟨b, off + k * 2 + 1, none⟩) hbb).trans c01
          have hbx : b < wr.heap.size := Nat.lt_of_lt_of_le hbb hb.size
          have HM2 := Lib.hid (HM.out.trans (minS_drop hlk HI.out))
          have HI2 := Lib.hid (take_right (out := out) (x := l[k]) HI.out)
          clear c00 c01 HM HI
          generalize l[k] = x at c0 c1 HM2 HI2
          obtain ⟨xs, xc⟩ := x
          generalize hbe : optFl bo = be at HM2 HI2
          obtain ⟨bs, bc⟩ := be
          have HBE := Lib.hid hbe
          obtain ⟨wk, hwk⟩ : ∃ wk, wk = (wr.alloc (.cells #[.int .i64 bs, .int .i64 bc] 53)).more j := ⟨_, rfl⟩
          have hbk : Below wr.heap.size wr wk := by rw [hwk]; exact (by repeat (first | (with_reducible exact Below.refl _ _) | (with_reducible refine Below.allocS ?_ _) | (with_reducible refine Below.moreS ?_ _) | (with_reducible refine Below.drew ?_) | (with_reducible refine below_drewN ?_ _)))
          have HBK := Lib.hid hbk
          have HX : Hid (∀ W, Calls Tryz.prog 48 #[.agg #[.int .i64 xs, .int .i64 xc]] W fun e w' => e = .returned (.bool (flR ⟨xs, xc⟩)) ∧ ∃ j, w' = W.more j) := ref09_Right xs xc
          have HY : Hid (∀ W, Calls Tryz.prog 48 #[.agg #[.int .i64 bs, .int .i64 bc]] W fun e w' => e = .returned (.bool (flR ⟨bs, bc⟩)) ∧ ∃ j, w' = W.more j) := ref09_Right bs bc
          have HL : Hid (∀ W, Calls Tryz.prog 50 #[.agg #[.int .i64 xs, .int .i64 xc], .agg #[.int .i64 bs, .int .i64 bc]] W fun e w' => e = .returned (.bool (ltFl ⟨xs, xc⟩ ⟨bs, bc⟩)) ∧ ∃ j, w' = W.more j) := ref09_Less xs xc bs bc
          have HH : Hid (∀ q : Junk, Calls Tryz.prog 49 #[.slice a3 out.length cap3, .agg #[.int .i64 xs, .int .i64 xc]] (wk.more q) fun e w' => e = .returned (.bool (decide (⟨xs, xc⟩ ∈ out))) ∧ ∃ j, w' = (wk.more q).more j) := fun q => ref09_Has a3 out cap3 xs xc HON.out _ ((HSL.out.below (hbk.moreS q) (Nat.le_refl _)).mono (hbk.moreS q).size (fun _ _ _ h => h))
          generalize flR ⟨xs, xc⟩ = rx at HX HM2 HI2
          generalize flR ⟨bs, bc⟩ = rb at HY HM2 HI2
          generalize ltFl ⟨xs, xc⟩ ⟨bs, bc⟩ = ls at HL HM2 HI2
          generalize decide (⟨xs, xc⟩ ∈ out) = hh at HH HM2 HI2
          have d0 : wk.cell? ⟨wr.heap.size, 0, none⟩ = some (.int .i64 bs) := by rw [hwk]; go_simp
          have d1 : wk.cell? ⟨wr.heap.size, 1, none⟩ = some (.int .i64 bc) := by rw [hwk]; go_simp
          have f0 : wk.frozen? ⟨wr.heap.size, 0, none⟩ = false := by rw [hwk]; go_simp
          have f1 : wk.frozen? ⟨wr.heap.size, 1, none⟩ = false := by rw [hwk]; go_simp
          have e0 : wk.cell? ⟨b, off + k * 2, none⟩ = some (.int .i64 xs) := (hbk.cell (p := ⟨b, _, none⟩) hbx).trans c0
          have e1 : wk.cell? ⟨b, off + k * 2 + 1, none⟩ = some (.int .i64 xc) := (hbk.cell (p := ⟨b, _, none⟩) hbx).trans c1
          have hkx : b < wk.heap.size := Nat.lt_of_lt_of_le hbx hbk.size
          have hks : wr.heap.size < wk.heap.size := by rw [hwk]; simp; omega
          have HWK := Lib.hid hwk
          rw [← hwk]
          clear hwk hbk hbe
          cases rx
          · have HM3 : Hid (minS ltFl (pOf out) l none = minS ltFl (pOf out) (l.drop (k + 1)) bo) := HM2.out
            have HI3 : Hid (∀ y, bo = some y → flR y = true) := HI2.out
            clear HM2 HI2 HY HL HH
            go_wp2_with fail
            refine wp_region_more (by kernel_rfl) (by kernel_rfl) ?_
            repeat (go_big_quiet_step (first | (go_at_call 48; with_reducible exact more_of (HX.out _))))
            refine wpQuiet_nil ?_
            intro w' hw'
            obtain ⟨j, rfl⟩ := hw'
            go_wp2_with fail
            go_roundg (l.length - (k + 1))
            case measure => have := HK.out; omega
            case rel => exact ⟨k + 1, bo, _, by have := HK.out; omega, by go_num, by rw [HWK.out, World.more_more, HBE.out], HI3, HM3⟩
          cases hh
          rotate_left
          · have HM3 : Hid (minS ltFl (pOf out) l none = minS ltFl (pOf out) (l.drop (k + 1)) bo) := HM2.out
            have HI3 : Hid (∀ y, bo = some y → flR y = true) := HI2.out
            clear HM2 HI2 HY HL
            go_wp2_with fail
            refine wp_region_more (by kernel_rfl) (by kernel_rfl) ?_
            repeat (go_big_quiet_step (first | (go_at_call 48; with_reducible exact more_of (HX.out _)) | (go_at_call 49; with_reducible exact more_of (HH.out _))))
            refine wpQuiet_nil ?_
            intro w' hw'
            obtain ⟨j, rfl⟩ := hw'
            go_wp2_with fail
            go_roundg (l.length - (k + 1))
            case measure => have := HK.out; omega
            case rel => exact ⟨k + 1, bo, _, by have := HK.out; omega, by go_num, by rw [HWK.out, World.more_more, HBE.out], HI3, HM3⟩
          cases rb
          · have HM3 : Hid (minS ltFl (pOf out) l none = minS ltFl (pOf out) (l.drop (k + 1)) (some ⟨xs, xc⟩)) := HM2.out
            have HI3 : Hid (∀ y, some ⟨xs, xc⟩ = some y → flR y = true) := HI2.out
            clear HM2 HI2 HL
            go_wp2_with fail
            refine wp_region_more (by kernel_rfl) (by kernel_rfl) ?_
            repeat (go_big_quiet_step (first | (go_at_call 48; with_reducible exact more_of (HX.out _)) | (go_at_call 49; with_reducible exact more_of (HH.out _)) | (go_at_call 48; with_reducible exact more_of (HY.out _))))
            refine wpQuiet_nil ?_
            intro w' hw'
            obtain ⟨j, rfl⟩ := hw'
            go_wp2_with fail
            go_roundg (l.length - (k + 1))
            case measure => have := HK.out; omega
            case rel => exact ⟨k + 1, some ⟨xs, xc⟩, _, by have := HK.out; omega, by go_num, by rw [HWK.out]; go_simp; rfl, HI3, HM3⟩
          cases ls
          · have HM3 : Hid (minS ltFl (pOf out) l none = minS ltFl (pOf out) (l.drop (k + 1)) bo) := HM2.out
            have HI3 : Hid (∀ y, bo = some y → flR y = true) := HI2.out
            clear HM2 HI2
            go_wp2_with fail
            refine wp_region_more (by kernel_rfl) (by kernel_rfl) ?_
            repeat (go_big_quiet_step (first | (go_at_call 48; with_reducible exact more_of (HX.out _)) | (go_at_call 49; with_reducible exact more_of (HH.out _)) | (go_at_call 48; with_reducible exact more_of (HY.out _)) | (go_at_call 50; with_reducible exact more_of (HL.out _))))
            refine wpQuiet_nil ?_
            intro w' hw'
            obtain ⟨j, rfl⟩ := hw'
            go_wp2_with fail
            go_roundg (l.length - (k + 1))
            case measure => have := HK.out; omega
            case rel => exact ⟨k + 1, bo, _, by have := HK.out; omega, by go_num, by rw [HWK.out, World.more_more, HBE.out], HI3, HM3⟩
          · have HM3 : Hid (minS ltFl (pOf out) l none = minS ltFl (pOf out) (l.drop (k + 1)) (some ⟨xs, xc⟩)) := HM2.out
            have HI3 : Hid (∀ y, some ⟨xs, xc⟩ = some y → flR y = true) := HI2.out
            clear HM2 HI2
            go_wp2_with fail
            refine wp_region_more (by kernel_rfl) (by kernel_rfl) ?_
            repeat (go_big_quiet_step (first | (go_at_call 48; with_reducible exact more_of (HX.out _)) | (go_at_call 49; with_reducible exact more_of (HH.out _)) | (go_at_call 48; with_reducible exact more_of (HY.out _)) | (go_at_call 50; with_reducible exact more_of (HL.out _))))
            refine wpQuiet_nil ?_
            intro w' hw'
            obtain ⟨j, rfl⟩ := hw'
            go_wp2_with fail
            go_roundg (l.length - (k + 1))
            case measure => have := HK.out; omega
            case rel => exact ⟨k + 1, some ⟨xs, xc⟩, _, by have := HK.out; omega, by go_num, by rw [HWK.out]; go_simp; rfl, HI3, HM3⟩
        · have hbest : bo = S[n]? := by
            have h1 := HM.out
            rw [List.drop_of_length_le (by omega), HU.out, HNX.out] at h1
            exact h1.symm
          have HBT := Lib.hid hbest
          clear hbest HM
          cases bo with
          | none =>
            have HY : Hid (∀ W, Calls Tryz.prog 48 #[.agg #[.int .i64 0, .int .i64 0]] W fun e w' => e = .returned (.bool false) ∧ ∃ j, w' = W.more j) := ref09_Right 0 0
            have HU3 : Hid (out = S.take (n + 1)) := by
              show _ = _
              have h1 : S.length ≤ n := by have := HBT.out; exact List.getElem?_eq_none_iff.1 this.symm
              rw [HU.out, List.take_of_length_le h1, List.take_of_length_le (by omega)]
            simp only [optFl]
            go_wp2_with fail
            refine (HY.out _).mono ?_
            rintro e w' ⟨rfl, j2, rfl⟩
            go_wp2_with fail
            go_roundg (l.length - (n + 1))
            case measure => have := HN.out; omega
            case rel => exact ⟨n + 1, out, by have := HN.out; omega, by go_num, HO.out.below (C := wr.heap.size) (by repeat (first | (with_reducible exact Below.refl _ _) | (with_reducible refine Below.allocS ?_ _) | (with_reducible refine Below.moreS ?_ _) | (with_reducible refine Below.drew ?_) | (with_reducible refine below_drewN ?_ _))) (Nat.le_refl _), HB.out.trans (Below.mono (B := wr.heap.size) (by repeat (first | (with_reducible exact Below.refl _ _) | (with_reducible refine Below.allocS ?_ _) | (with_reducible refine Below.moreS ?_ _) | (with_reducible refine Below.drew ?_) | (with_reducible refine below_drewN ?_ _))) HB.out.size), HU3⟩
          | some y =>
            obtain ⟨ys, yc⟩ := y
            have hy : flR ⟨ys, yc⟩ = true := HI.out _ rfl
            have HY : Hid (∀ W, Calls Tryz.prog 48 #[.agg #[.int .i64 ys, .int .i64 yc]] W fun e w' => e = .returned (.bool true) ∧ ∃ j, w' = W.more j) := by
              have := ref09_Right ys yc
              rw [hy] at this
              exact this
            have HU3 : Hid (out ++ [⟨ys, yc⟩] = S.take (n + 1)) := by
              show _ = _
              rw [HU.out, List.take_add_one, ← HBT.out]; rfl
            clear HI
            simp only [optFl]
            go_wp2_with fail
            refine (HY.out _).mono ?_
            rintro e w' ⟨rfl, j2, rfl⟩
            go_wp2_with (at_builtin; refine app_c (y := ⟨ys, yc⟩) st_fl flC_len flC_one (by omega) (.tmp 53) (.tmp 55) rfl rfl rfl (HO.out.below (C := wr.heap.size) (by repeat (first | (with_reducible exact Below.refl _ _) | (with_reducible refine Below.allocS ?_ _) | (with_reducible refine Below.moreS ?_ _) | (with_reducible refine Below.drew ?_) | (with_reducible refine below_drewN ?_ _))) (Nat.le_refl _)) rfl (Blk.at_ _ _ _ (by simp)) rfl (by have := HOL.out; omega) (by have := HB.out.size; simp only [World.size_alloc, World.size_more]; omega) ?_; intro v' w2 hown hbw)
            have hb2 := HB.out.trans ((Below.mono (B := wr.heap.size) (by repeat (first | (with_reducible exact Below.refl _ _) | (with_reducible refine Below.allocS ?_ _) | (with_reducible refine Below.moreS ?_ _) | (with_reducible refine Below.drew ?_) | (with_reducible refine below_drewN ?_ _))) HB.out.size).trans hbw)
            have HB2 := Lib.hid hb2
            have HO2 := Lib.hid hown
            clear hbw hb2 hown
            go_wp2_with fail
            go_roundg (l.length - (n + 1))
            case measure => have := HN.out; omega
            case rel => exact ⟨n + 1, out ++ [⟨ys, yc⟩], by have := HN.out; omega, by go_num, HO2.out, HB2.out, HU3⟩
    · have hS : out = S := by rw [HU.out, List.take_of_length_le]; have := HLN.out; have := HN.out; omega
      subst hS
      obtain ⟨a', cap', hv, hcap⟩ := HO.out.cap
      injection hv with h1 h2 h3
      subst h1 h3
      go_wp2_with fail
      go_ret
      exact ⟨_, _, rfl, hcap, HSL.out, HB.out⟩
end Go.Proofs.YtfcklbiejlkafaaGreatDoor
/-
  Faults: one among some, two lists; the program's road.
-/
namespace Go.Proofs.YtfcklbiejlkafaaGreatDoor
set_option linter.unusedSimpArgs false
set_option linter.unusedVariables false
set_option linter.unusedSectionVars false
open Go.ChangeShapes Go.WideShapes Go.ChangeAt Go.RowKit Go.Deep Go.Shelf

end Go.Proofs.YtfcklbiejlkafaaGreatDoor
/-
  Faults: slices.Grow of no row.
-/
namespace Go.Proofs.YtfcklbiejlkafaaGreatDoor
set_option linter.unusedSimpArgs false
set_option linter.unusedVariables false
set_option linter.unusedSectionVars false
open Go.ChangeShapes Go.WideShapes Go.ChangeAt Go.RowKit Go.Deep Go.Shelf

set_option maxRecDepth 100000 in
theorem grow_fl (n : Nat) (hn : n ≤ 1000000) (w : World) : Calls Tryz.prog 118 #[.slice none 0 0, .int .i64 n] w fun e w' => ∃ v, e = .returned v ∧ OwnFl w.heap.size w' v [] ∧ Below w.heap.size w w' := by
  by_cases h0 : n = 0
  · subst h0
    refine (Any8.slices_Grow_room Tryz.growFl none 0 0 0 w (by omega) (by omega) (by omega) (by omega)).mono ?_
    rintro e w' ⟨rfl, rfl⟩
    exact ⟨_, rfl, OwnC.nil _ _, Below.refl _ _⟩
  · obtain ⟨i0, _, hi, hz, hs, hby, _, _⟩ := st_fl
    refine (Any8.slices_Grow_grow Tryz.growFl i0 _ hi hz (by omega) none 0 0 n [] w (by omega) (by omega) (by rw [hby]; omega) (by omega) (by simp) (fun _ => rfl) (fun a h => by cases h)).mono ?_
    rintro e w' ⟨rfl, rfl⟩
    have hge : 0 + n ≤ grownCap w (0 + n) 0 (Tryz.growFl_ren.t 25) := grownCap_ge w _ _ _
    have hle : grownCap w (0 + n) 0 (Tryz.growFl_ren.t 25) ≤ maxLen := grownCap_le_maxLen w _ _ _ (by unfold maxLen; omega)
    refine ⟨_, rfl, ?_, ?_⟩
    · exact World.ownsRow_made (base := w.heap.size) (size := 2) (e := FlT) w.drew _ _ (Nat.le_refl _) hle (by
        simp only [Array.size_append, size_zeroCells, List.size_toArray, List.length_nil, Value.cells]
        show 0 + (0 + n - 0) * 2 + _ * 2 = _
        generalize grownCap w (0 + n) 0 (Tryz.growFl_ren.t 25) = cp at hge ⊢
        show 0 + (0 + n - 0) * 2 + (cp - (0 + n)) * 2 = cp * 2
        omega)
    · exact (below_drewN (Below.refl w.heap.size w) 1).alloc (Nat.le_refl _) _
end Go.Proofs.YtfcklbiejlkafaaGreatDoor
/-
  Faults: a whole row appended to an own one.
-/
namespace Go.Proofs.YtfcklbiejlkafaaGreatDoor
set_option linter.unusedSimpArgs false
set_option linter.unusedVariables false
set_option linter.unusedSectionVars false
open Go.ChangeShapes Go.WideShapes Go.ChangeAt Go.RowKit Go.Deep Go.Shelf

theorem app_fls {ops : Array Oper} {rest : List Oper} {o : Oper} {a : Act} {Q : Exit → Act → World → Prop} {w : World}
    (s x : Operand) (hgd : o.guard = none) (ho : o.op = .call { callee := .builtin .append, args := #[s, x], argTypes := #[36, 36] })
    {B : Nat} {v : Value} {l m : List Fl} (hs : a.eval s = v) (hown : OwnFl B w v l)
    {A : Option Addr} {c : Nat} (hx : a.eval x = .slice A m.length c) (hm : SlFl w w.heap.size A m)
    (hl : l.length + m.length ≤ 1048576) (hB : B ≤ w.heap.size)
    (h : ∀ v' w', OwnFl B w' v' (l ++ m) → Below B w w' → wpList Tryz.prog ops Q rest (a.put o.dst v') w') : wpList Tryz.prog ops Q (o :: rest) a w := by
  obtain ⟨v', w', hr, h2, h3⟩ := run_app_sl (ty := o.type) (c := c) st_fl hown (cf := Fl.cells) hm (fun _ _ _ h => h) (fun _ _ => rfl) (fun y _ => flC_one y) (by unfold maxLen; omega) (by omega) hB
  refine wpList_plain hgd fun K hK => ?_
  unfold Oper.wp execOp
  simp only [ho, resolve, invoke, builtin, Sem.run_bind, Sem.run_pure, Result.andThen_ok, List.map_toArray, List.map_cons, List.map_nil, hs, hx, hr]
  refine hK _ _ (h v' w' ?_ (own_grown (Below.refl B w) hown h3 (Nat.le_refl _) hB))
  unfold OwnFl OwnC
  rw [List.flatMap_append, List.length_append]
  exact h2
end Go.Proofs.YtfcklbiejlkafaaGreatDoor
/-
  Worlds that have grown: small helps for the laws on faults.
-/
namespace Go.Proofs.YtfcklbiejlkafaaGreatDoor
set_option linter.unusedSimpArgs false
set_option linter.unusedVariables false
set_option linter.unusedSectionVars false
open Go.ChangeShapes Go.WideShapes Go.ChangeAt Go.RowKit Go.Deep Go.Shelf

theorem SlFl.keep {w w' : World} {a : Option Addr} {l : List Fl} (h : SlFl w w.heap.size a l) (hb : Below w.heap.size w w') : SlFl w' w'.heap.size a l :=
  (h.below hb (Nat.le_refl _)).mono hb.size (fun _ _ _ h => h)
theorem below_more (w : World) (j : Junk) : Below w.heap.size w (w.more j) := (Below.refl _ _).moreS j
theorem below_step {w w1 w2 : World} (h : Below w.heap.size w w1) (h2 : Below w1.heap.size w1 w2) : Below w.heap.size w w2 := h.trans (h2.mono h.size)
theorem more_post {f : FuncId} {args : Array Value} {W : World} {v : Value} (h : Calls Tryz.prog f args W fun e w' => e = .returned v ∧ ∃ j, w' = W.more j) : Calls Tryz.prog f args W fun e w' => e = .returned v ∧ Below W.heap.size W w' :=
  h.mono fun e w' ⟨he, j, hj⟩ => ⟨he, by rw [hj]; exact below_more _ _⟩
def BoxAt (b : Nat) (s c : Int) (w : World) : Prop := w.cell? ⟨b, 0, none⟩ = some (.int .i64 s) ∧ w.cell? ⟨b, 1, none⟩ = some (.int .i64 c) ∧ b < w.heap.size
theorem BoxAt.keep {b : Nat} {s c : Int} {w w' : World} (h : BoxAt b s c w) (hb : Below w.heap.size w w') : BoxAt b s c w' :=
  ⟨(hb.cell (p := ⟨b, 0, none⟩) h.2.2).trans h.1, (hb.cell (p := ⟨b, 1, none⟩) h.2.2).trans h.2.1, Nat.lt_of_lt_of_le h.2.2 hb.size⟩
end Go.Proofs.YtfcklbiejlkafaaGreatDoor
/-
  Faults: two rows one behind the other, and the set of both.
-/
namespace Go.Proofs.YtfcklbiejlkafaaGreatDoor
set_option linter.unusedSimpArgs false
set_option linter.unusedVariables false
set_option linter.unusedSectionVars false
open Go.ChangeShapes Go.WideShapes Go.ChangeAt Go.RowKit Go.Deep Go.Shelf

def catN (l m : List Fl) (k : Nat) : Int := if k = 0 then 0 else if k = 1 then (l.length : Int) else (l.length : Int) + m.length
def catF (l m : List Fl) (k : Nat) : List Fl := if k = 0 then [] else if k = 1 then l else l ++ m
set_option maxHeartbeats 8000000 in
set_option maxRecDepth 100000 in
theorem concat_fl (a b : Option Addr) (l m : List Fl) (ca cb : Nat) (hl : l.length ≤ 100000) (hm : m.length ≤ 100000) (g : Nat) (w : World) (hS : SlFl w w.heap.size a l) (hT : SlFl w w.heap.size b m)
    (hg : g < w.heap.size) (d0 : w.cell? ⟨g, 0, none⟩ = some (.slice a l.length ca)) (d1 : w.cell? ⟨g, 1, none⟩ = some (.slice b m.length cb)) :
    Calls Tryz.prog 87 #[.slice (some ⟨g, 0, none⟩) 2 2] w fun e w' => ∃ v, e = .returned v ∧ OwnFl w.heap.size w' v (l ++ m) ∧ Below w.heap.size w w' := by
  have HS := Lib.hid hS
  have HT := Lib.hid hT
  have HD0 := Lib.hid d0
  have HD1 := Lib.hid d1
  have HG := Lib.hid (grow_fl (l.length + m.length) (by omega) w)
  clear hS hT
  go_enter Tryz.func87, Tryz.ntmps87
  go_wp2_with fail
  go_loopg [3, 11] 2 (fun q s i wr => ∃ k : Nat, k + q = 2 ∧ i = .int .i64 k ∧ s = .int .i64 (catN l m k) ∧ w = wr)
  case atStart => exact ⟨0, by omega, rfl, rfl, rfl⟩
  case round =>
    obtain ⟨k, hkq, rfl, rfl, rfl⟩ := hrel
    rcases (by omega : k = 0 ∨ k = 1 ∨ k = 2) with rfl | rfl | rfl
    · have h0 : catN l m 0 = 0 := rfl
      rw [h0]
      go_wp2_with fail
      go_roundg 1
      case measure => omega
      case rel => exact ⟨1, by omega, by go_num, by show _ = Value.int .i64 (l.length : Int); go_num, rfl⟩
    · have h0 : catN l m 1 = (l.length : Int) := rfl
      rw [h0]
      go_wp2_with fail
      go_roundg 0
      case measure => omega
      case rel => exact ⟨2, by omega, by go_num, by show _ = Value.int .i64 ((l.length : Int) + m.length); go_num, rfl⟩
    · have h0 : catN l m 2 = ((l.length + m.length : Nat) : Int) := by show (l.length : Int) + m.length = _; omega
      rw [h0]
      clear d0 d1
      go_wp2_with fail
      refine HG.out.mono ?_
      rintro e w1 ⟨v, rfl, hO, hb1⟩
      have HO := Lib.hid hO
      have HB1 := Lib.hid hb1
      clear hO hb1
      go_wp2_with fail
      go_loopg [6, 27] 2 (fun q v i wr => ∃ k : Nat, k + q = 2 ∧ i = .int .i64 k ∧ OwnFl w.heap.size wr v (catF l m k) ∧ Below w.heap.size w wr)
      case atStart => exact ⟨0, by omega, rfl, HO.out, HB1.out⟩
      case round =>
        obtain ⟨k, hkq, rfl, hO, hb⟩ := hrel
        have HO2 := Lib.hid hO
        have HB2 := Lib.hid hb
        have hgw := Nat.lt_of_lt_of_le hg hb.size
        have d0 : _ = some (Value.slice a l.length ca) := (hb.cell (p := ⟨g, 0, none⟩) hg).trans HD0.out
        have d1 : _ = some (Value.slice b m.length cb) := (hb.cell (p := ⟨g, 1, none⟩) hg).trans HD1.out
        clear hO hb
        rcases (by omega : k = 0 ∨ k = 1 ∨ k = 2) with rfl | rfl | rfl
        · go_wp2_with (at_builtin; refine app_fls (.tmp 31) (.tmp 32) rfl rfl rfl (show OwnFl _ _ _ [] from HO2.out) rfl (SlFl.keep HS.out HB2.out) (by simp; omega) HB2.out.size ?_; intro v' w2 hown hbw)
          have HO3 := Lib.hid hown
          have HB3 := Lib.hid (HB2.out.trans hbw)
          clear hown hbw d0 d1
          go_wp2_with fail
          go_roundg 1
          case measure => omega
          case rel => exact ⟨1, by omega, by go_num, HO3.out, HB3.out⟩
        · go_wp2_with (at_builtin; refine app_fls (.tmp 31) (.tmp 32) rfl rfl rfl (show OwnFl _ _ _ l from HO2.out) rfl (SlFl.keep HT.out HB2.out) (by omega) HB2.out.size ?_; intro v' w2 hown hbw)
          have HO3 := Lib.hid hown
          have HB3 := Lib.hid (HB2.out.trans hbw)
          clear hown hbw d0 d1
          go_wp2_with fail
          go_roundg 0
          case measure => omega
          case rel => exact ⟨2, by omega, by go_num, HO3.out, HB3.out⟩
        · clear d0 d1
          go_wp2_with fail
          go_ret
          exact ⟨_, rfl, HO2.out, HB2.out⟩

set_option maxHeartbeats 4000000 in
set_option maxRecDepth 100000 in
theorem faults_Union (a b : Option Addr) (l m : List Fl) (ca cb : Nat) (hl : l.length ≤ 40000) (hm : m.length ≤ 40000) (w : World) (hS : SlFl w w.heap.size a l) (hT : SlFl w w.heap.size b m) :
    Calls Tryz.prog 58 #[.slice a l.length ca, .slice b m.length cb] w fun e w' => ∃ a' cap', e = .returned (.slice a' (ofF (l ++ m)).length cap') ∧ (ofF (l ++ m)).length ≤ cap' ∧ SlFl w' w'.heap.size a' (ofF (l ++ m)) ∧ Below w.heap.size w w' := by
  obtain ⟨w0, hw0⟩ : ∃ w0, w0 = w.alloc (.cells #[.slice a l.length ca, .slice b m.length cb] 36) := ⟨_, rfl⟩
  have hb0 : Below w.heap.size w w0 := by rw [hw0]; exact (by repeat (first | (with_reducible exact Below.refl _ _) | (with_reducible refine Below.allocS ?_ _) | (with_reducible refine Below.moreS ?_ _) | (with_reducible refine Below.drew ?_) | (with_reducible refine below_drewN ?_ _)))
  have d0 : w0.cell? ⟨w.heap.size, 0, none⟩ = some (.slice a l.length ca) := by rw [hw0]; go_simp
  have d1 : w0.cell? ⟨w.heap.size, 1, none⟩ = some (.slice b m.length cb) := by rw [hw0]; go_simp
  have hg : w.heap.size < w0.heap.size := by rw [hw0]; simp
  have HC := Lib.hid (concat_fl a b l m ca cb (by omega) (by omega) w.heap.size w0 (SlFl.keep hS hb0) (SlFl.keep hT hb0) hg d0 d1)
  have HW0 := Lib.hid hw0
  have HB0 := Lib.hid hb0
  have HL : Hid ((l ++ m).length ≤ 100000) := by show _ ≤ _; rw [List.length_append]; omega
  clear hS hT d0 d1 hg hb0
  generalize l ++ m = L at HC HL ⊢
  go_enter Tryz.func58, Tryz.ntmps58
  go_wp2_with fail
  rw [← hw0]
  refine HC.out.mono ?_
  rintro e w1 ⟨v, rfl, hO, hb1⟩
  obtain ⟨a1, c1, rfl, hs1⟩ := hO.read flC_len
  have HO := Lib.hid (faults_Of a1 L c1 HL.out w1 hs1)
  have HB1 := Lib.hid (HB0.out.trans (hb1.mono HB0.out.size))
  clear hO hs1 hb1 hw0
  go_wp2_with fail
  refine HO.out.mono ?_
  rintro e w2 ⟨a2, c2, rfl, h1, h2, h3⟩
  have HB2 := Lib.hid (HB1.out.trans (h3.mono HB1.out.size))
  have H1 := Lib.hid h1
  have H2 := Lib.hid h2
  clear h1 h2 h3
  go_wp2_with fail
  go_ret
  exact ⟨_, _, rfl, H1.out, H2.out, HB2.out⟩

/-! Sets taken together: plain laws. -/
theorem un_comm (l m : List Fl) : ofF (l ++ m) = ofF (m ++ l) := ofF_congr fun x _ => by simp [or_comm]
theorem un_twice (l m : List Fl) : ofF (ofF (l ++ m) ++ m) = ofF (l ++ m) := ofF_congr fun x hx => by
  simp only [List.mem_append, mem_ofF, hx, and_true]
  exact ⟨fun h => h.elim id .inr, .inl⟩
theorem un_assoc (l m n : List Fl) : ofF (ofF (l ++ m) ++ n) = ofF (l ++ ofF (m ++ n)) := ofF_congr fun x hx => by
  simp only [List.mem_append, mem_ofF, hx, and_true]
  exact or_assoc
end Go.Proofs.YtfcklbiejlkafaaGreatDoor
/-
  Records: their words, their lines: plain laws.
-/
namespace Go.Proofs.YtfcklbiejlkafaaGreatDoor
set_option linter.unusedSimpArgs false
set_option linter.unusedVariables false
set_option linter.unusedSectionVars false
open Go.ChangeShapes Go.WideShapes Go.ChangeAt Go.RowKit Go.Deep

def sideF (n : Int) : List UInt8 := if n = 0 then [99, 108, 105, 101, 110, 116] else if n = 1 then [115, 101, 114, 118, 101, 114] else []
def kindF (n : Int) : List UInt8 := if n = 1 then [97, 108, 108, 111, 119, 101, 100] else if n = 2 then [105, 103, 110, 111, 114, 101, 100] else if n = 3 then [114, 101, 106, 101, 99, 116, 101, 100] else if n = 4 then [108, 105, 109, 105, 116, 101, 100] else []
def tyNames : List (List UInt8) := [[68, 65, 84, 65], [72, 69, 65, 68, 69, 82, 83], [80, 82, 73, 79, 82, 73, 84, 89], [82, 83, 84, 95, 83, 84, 82, 69, 65, 77], [83, 69, 84, 84, 73, 78, 71, 83], [80, 85, 83, 72, 95, 80, 82, 79, 77, 73, 83, 69], [80, 73, 78, 71], [71, 79, 65, 87, 65, 89], [87, 73, 78, 68, 79, 87, 95, 85, 80, 68, 65, 84, 69], [67, 79, 78, 84, 73, 78, 85, 65, 84, 73, 79, 78]]
def tyName (n : Nat) : List UInt8 := tyNames.getD n []
def nameF (t : Int) : List UInt8 := if t = -1 then [80, 82, 69, 70, 65, 67, 69] else if 0 ≤ t ∧ t ≤ 9 then tyName t.toNat else if 9 < t ∧ t ≤ 255 then [84, 89, 80, 69, 95] ++ Lib.itoa t else []
def scanF (f : Int → List UInt8) (s : List UInt8) : Nat → Int → Int × Bool
  | 0, _ => (0, false)
  | g + 1, t => if f t = s then (t, true) else scanF f s g (t + 1)
def byNameF (s : List UInt8) : Int × Bool := scanF nameF s 257 (-1)
theorem scan_true (f : Int → List UInt8) (s : List UInt8) : ∀ (g : Nat) (t n : Int), scanF f s g t = (n, true) → f n = s ∧ t ≤ n ∧ n < t + g
  | 0, t, n, h => by simp [scanF] at h
  | g + 1, t, n, h => by
    unfold scanF at h
    split at h
    · rename_i hf
      obtain ⟨rfl, _⟩ := Prod.mk.inj h
      exact ⟨hf, Int.le_refl _, by omega⟩
    · have := scan_true f s g (t + 1) n h
      exact ⟨this.1, by omega, by omega⟩
theorem scan_false (f : Int → List UInt8) (s : List UInt8) : ∀ (g : Nat) (t : Int), (scanF f s g t).2 = false → scanF f s g t = (0, false)
  | 0, t, h => rfl
  | g + 1, t, h => by
    unfold scanF at h ⊢
    split
    · rename_i hf; rw [if_pos hf] at h; cases h
    · rename_i hf; rw [if_neg hf] at h; exact scan_false f s g (t + 1) h
theorem scan_hit (f : Int → List UInt8) (s : List UInt8) (n : Int) (hn : f n = s) : ∀ (g : Nat) (t : Int), t ≤ n → n < t + g → (∀ m, t ≤ m → m < n → f m ≠ s) → scanF f s g t = (n, true)
  | 0, t, h1, h2, _ => by omega
  | g + 1, t, h1, h2, h3 => by
    unfold scanF
    by_cases ht : t = n
    · subst ht; rw [if_pos hn]
    · rw [if_neg (h3 t (Int.le_refl _) (by omega))]
      exact scan_hit f s n hn g (t + 1) (by omega) (by omega) (fun m h4 h5 => h3 m (by omega) h5)
theorem scan_none (f : Int → List UInt8) (s : List UInt8) : ∀ (g : Nat) (t : Int), (∀ m, t ≤ m → m < t + g → f m ≠ s) → scanF f s g t = (0, false)
  | 0, t, _ => rfl
  | g + 1, t, h => by
    unfold scanF
    rw [if_neg (h t (Int.le_refl _) (by omega))]
    exact scan_none f s g (t + 1) (fun m h4 h5 => h m (by omega) (by omega))
theorem itoa_inj {a b : Int} (ha : goodI a) (hb : goodI b) (h : Lib.itoa a = Lib.itoa b) : a = b := by
  have h1 := atoi_itoa ha.1 ha.2
  have h2 := atoi_itoa hb.1 hb.2
  rw [h, h2] at h1
  injection h1 with h1
  exact h1.symm
theorem tyName_ne (n : Nat) (h : n ≤ 9) : tyName n ≠ [] := by
  have : ∀ m : Fin 10, tyName m.val ≠ [] := by decide
  exact this ⟨n, by omega⟩
theorem tyName_inj : ∀ m n : Fin 10, tyName m.val = tyName n.val → m = n := by decide
theorem tyName_pre : ∀ m : Fin 10, tyName m.val ≠ [80, 82, 69, 70, 65, 67, 69] ∧ (tyName m.val).head? ≠ some 84 := by decide
theorem nameF_ne {t : Int} (h0 : -1 ≤ t) (h1 : t ≤ 255) : nameF t ≠ [] := by
  unfold nameF
  split
  · simp
  · split
    · exact tyName_ne _ (by omega)
    · rw [if_pos (by omega)]; simp
theorem nameF_out {t : Int} (h : t < -1 ∨ 255 < t) : nameF t = [] := by
  unfold nameF
  rw [if_neg (by omega), if_neg (by omega), if_neg (by omega)]
theorem nameF_inj {a b : Int} (a0 : -1 ≤ a) (a1 : a ≤ 255) (b0 : -1 ≤ b) (b1 : b ≤ 255) (h : nameF a = nameF b) : a = b := by
  unfold nameF at h
  by_cases ca : a = -1
  · rw [if_pos ca] at h
    by_cases cb : b = -1
    · omega
    · rw [if_neg cb] at h
      by_cases db : 0 ≤ b ∧ b ≤ 9
      · rw [if_pos db] at h
        exact absurd h.symm (tyName_pre ⟨b.toNat, by omega⟩).1
      · rw [if_neg db, if_pos (by omega)] at h
        simp at h
  · rw [if_neg ca] at h
    by_cases cb : b = -1
    · rw [if_pos cb] at h
      by_cases da : 0 ≤ a ∧ a ≤ 9
      · rw [if_pos da] at h
        exact absurd h (tyName_pre ⟨a.toNat, by omega⟩).1
      · rw [if_neg da, if_pos (by omega)] at h
        simp at h
    · rw [if_neg cb] at h
      by_cases da : 0 ≤ a ∧ a ≤ 9 <;> by_cases db : 0 ≤ b ∧ b ≤ 9
      · rw [if_pos da, if_pos db] at h
        have := tyName_inj ⟨a.toNat, by omega⟩ ⟨b.toNat, by omega⟩ h
        simp only [Fin.mk.injEq] at this
        omega
      · rw [if_pos da, if_neg db, if_pos (by omega)] at h
        have := (tyName_pre ⟨a.toNat, by omega⟩).2
        rw [h] at this
        exact absurd rfl this
      · rw [if_neg da, if_pos (by omega), if_pos db] at h
        have := (tyName_pre ⟨b.toNat, by omega⟩).2
        rw [← h] at this
        exact absurd rfl this
      · rw [if_neg da, if_pos (by omega), if_neg db, if_pos (by omega)] at h
        exact itoa_inj ⟨by omega, by omega⟩ ⟨by omega, by omega⟩ (List.append_cancel_left h)
theorem byName_name {t : Int} (h0 : -1 ≤ t) (h1 : t ≤ 255) : byNameF (nameF t) = (t, true) :=
  scan_hit _ _ t rfl _ _ h0 (by omega) (fun m h2 h3 e => by have := nameF_inj h2 (by omega) h0 h1 e; omega)
theorem byName_nil : byNameF [] = (0, false) := scan_none _ _ _ _ (fun m h2 h3 => nameF_ne h2 (by omega))

structure Rec where
  fr : Int
  ty : Int
  fl : Int
  st : Int
  ln : Int
  kd : Int
deriving DecidableEq
def zRec : Rec := ⟨0, 0, 0, 0, 0, 0⟩
def inB (n m : Int) : Bool := decide (0 ≤ n) && decide (n ≤ m)
def headR (ln ty fl st : Int) : Bool := inB ln 16777215 && (inB ty 255 && (inB fl 255 && inB st 2147483647))
def recR (r : Rec) : Bool := (decide (r.fr = 0) || decide (r.fr = 1)) && (inB (r.kd - 1) 3 && if r.ty = -1 then (decide (r.fr = 0) && (decide (r.fl = 0) && (decide (r.st = 0) && decide (r.ln = 24)))) else headR r.ln r.ty r.fl r.st)
theorem inB_iff {n m : Int} : inB n m = true ↔ 0 ≤ n ∧ n ≤ m := by simp [inB]
structure RecOk (r : Rec) : Prop where
  fr : r.fr = 0 ∨ r.fr = 1
  kd : 1 ≤ r.kd ∧ r.kd ≤ 4
  ty : -1 ≤ r.ty ∧ r.ty ≤ 255
  fl : 0 ≤ r.fl ∧ r.fl ≤ 255
  st : 0 ≤ r.st ∧ r.st ≤ 2147483647
  ln : 0 ≤ r.ln ∧ r.ln ≤ 16777215
theorem recR_ok {r : Rec} (h : recR r = true) : RecOk r := by
  unfold recR at h
  simp only [Bool.and_eq_true, Bool.or_eq_true, decide_eq_true_eq, inB_iff] at h
  obtain ⟨h1, h2, h3⟩ := h
  split at h3
  · rename_i ht
    simp only [Bool.and_eq_true, decide_eq_true_eq] at h3
    exact ⟨h1, by omega, by omega, by omega, by omega, by omega⟩
  · unfold headR at h3
    simp only [Bool.and_eq_true, inB_iff] at h3
    exact ⟨h1, by omega, by omega, by omega, by omega, by omega⟩
def recWords (r : Rec) : List (List UInt8) := [[102, 114, 97, 109, 101], sideF r.fr, nameF r.ty, Lib.itoa r.fl, Lib.itoa r.st, Lib.itoa r.ln, kindF r.kd]
def recLine (r : Rec) : List UInt8 := Lib.join (recWords r) [32]
theorem okW_of {w : List UInt8} (h : w ≠ []) (hb : ∀ c ∈ w, 33 ≤ c.toNat) : okW w = true := by
  rw [okW_R]
  have h1 : w.isEmpty = false := by cases w <;> simp_all
  have h2 : w.any badB = false := by
    rw [List.any_eq_false]
    intro c hc
    have := hb c hc
    unfold badB
    simp only [Bool.or_eq_true, beq_iff_eq]
    rintro (e | e) <;> subst e <;> simp at this
  rw [h1, h2]; rfl
theorem itoa_bytes (n : Int) : ∀ c ∈ Lib.itoa n, 33 ≤ c.toNat := by
  intro c hc
  rcases Int.lt_or_le n 0 with h | h
  · obtain ⟨m, rfl⟩ : ∃ m : Nat, n = -(m : Int) := ⟨n.natAbs, by omega⟩
    rw [itoa_minus m (by omega)] at hc
    rcases List.mem_cons.1 hc with rfl | hc
    · decide
    · have := dec_bytes m m (Nat.le_refl _) c hc; omega
  · obtain ⟨m, rfl⟩ : ∃ m : Nat, n = (m : Int) := ⟨n.toNat, by omega⟩
    rw [itoa_pos m] at hc
    have := dec_bytes m m (Nat.le_refl _) c hc; omega
theorem okW_itoa (n : Int) : okW (Lib.itoa n) = true := okW_of (itoa_ne n) (itoa_bytes n)
theorem tyName_ok : ∀ m : Fin 10, okW (tyName m.val) = true := by decide
theorem nameF_ok {t : Int} (h0 : -1 ≤ t) (h1 : t ≤ 255) : okW (nameF t) = true := by
  unfold nameF
  split
  · decide
  · split
    · exact tyName_ok ⟨t.toNat, by omega⟩
    · rw [if_pos (by omega)]
      refine okW_of (by simp) fun c hc => ?_
      rcases List.mem_append.1 hc with hc | hc
      · have : ∀ x ∈ ([84, 89, 80, 69, 95] : List UInt8), 33 ≤ x.toNat := by decide
        exact this c hc
      · exact itoa_bytes t c hc
theorem sideF_ok {n : Int} (h : n = 0 ∨ n = 1) : okW (sideF n) = true := by rcases h with rfl | rfl <;> decide
theorem kindF_cases {n : Int} (h : 1 ≤ n ∧ n ≤ 4) : n = 1 ∨ n = 2 ∨ n = 3 ∨ n = 4 := by omega
theorem kindF_ok {n : Int} (h : 1 ≤ n ∧ n ≤ 4) : okW (kindF n) = true := by rcases kindF_cases h with rfl | rfl | rfl | rfl <;> decide
theorem recWords_ok {r : Rec} (h : RecOk r) : (recWords r).all okW = true := by
  unfold recWords
  simp only [List.all_cons, List.all_nil, Bool.and_true, Bool.and_eq_true]
  exact ⟨by decide, sideF_ok h.fr, nameF_ok h.ty.1 h.ty.2, okW_itoa _, okW_itoa _, okW_itoa _, kindF_ok h.kd⟩
theorem nameF_len {t : Int} (h0 : -1 ≤ t) (h1 : t ≤ 255) : (nameF t).length ≤ 30 := by
  unfold nameF
  split
  · decide
  · split
    · have : ∀ m : Fin 10, (tyName m.val).length ≤ 30 := by decide
      exact this ⟨t.toNat, by omega⟩
    · rw [if_pos (by omega)]
      have := itoa_len (n := t) (by omega) (by omega)
      simp; omega
theorem sideF_len (n : Int) : (sideF n).length ≤ 30 := by unfold sideF; repeat' split
                                                          all_goals decide
theorem kindF_len (n : Int) : (kindF n).length ≤ 30 := by unfold kindF; repeat' split
                                                          all_goals decide
theorem recWords_len {r : Rec} (h : RecOk r) : ∀ x ∈ recWords r, x.length ≤ 30 := by
  intro x hx
  unfold recWords at hx
  simp only [List.mem_cons, List.not_mem_nil, or_false] at hx
  rcases hx with rfl | rfl | rfl | rfl | rfl | rfl | rfl
  · decide
  · exact sideF_len _
  · exact nameF_len h.ty.1 h.ty.2
  · have := itoa_len (n := r.fl) (by have := h.fl; omega) (by have := h.fl; omega); omega
  · have := itoa_len (n := r.st) (by have := h.st; omega) (by have := h.st; omega); omega
  · have := itoa_len (n := r.ln) (by have := h.ln; omega) (by have := h.ln; omega); omega
  · exact kindF_len _
theorem recLine_split {r : Rec} (h : RecOk r) : splitF (recLine r) = (recWords r, true) := split_line _ (recWords_ok h)
theorem lineF_rec {r : Rec} (h : RecOk r) : lineF (recWords r) = (recLine r, true) := by unfold lineF recLine; rw [if_pos (recWords_ok h)]

/-! The program's road back. -/
def sideB (s : List UInt8) : Int × Bool := scanF sideF s 2 0
def kindB (s : List UInt8) : Int × Bool := scanF kindF s 4 1
def rdRec (l : List (List UInt8)) : Rec × Bool :=
  match l with
  | [w0, w1, w2, w3, w4, w5, w6] =>
    if w0 = [102, 114, 97, 109, 101] then
      if ((sideB w1).2 && ((byNameF w2).2 && ((readF w3).2 && ((readF w4).2 && ((readF w5).2 && ((kindB w6).2 && recR ⟨(sideB w1).1, (byNameF w2).1, (readF w3).1, (readF w4).1, (readF w5).1, (kindB w6).1⟩)))))) = true then
        (⟨(sideB w1).1, (byNameF w2).1, (readF w3).1, (readF w4).1, (readF w5).1, (kindB w6).1⟩, true)
      else (zRec, false)
    else (zRec, false)
  | _ => (zRec, false)
def readRecF (line : List UInt8) : Rec × Bool := if (splitF line).2 = true then rdRec (splitF line).1 else (zRec, false)
theorem sideB_side {n : Int} (h : n = 0 ∨ n = 1) : sideB (sideF n) = (n, true) := by rcases h with rfl | rfl <;> decide
theorem kindB_kind {n : Int} (h : 1 ≤ n ∧ n ≤ 4) : kindB (kindF n) = (n, true) := by rcases kindF_cases h with rfl | rfl | rfl | rfl <;> decide
theorem readRec_line {r : Rec} (h : recR r = true) : readRecF (recLine r) = (r, true) := by
  have ho := recR_ok h
  unfold readRecF
  rw [recLine_split ho, if_pos rfl]
  unfold recWords rdRec
  simp only [if_true]
  rw [sideB_side ho.fr, byName_name ho.ty.1 ho.ty.2, kindB_kind ho.kd, readF_itoa (n := r.fl) (by have := ho.fl; omega) (by have := ho.fl; omega), readF_itoa (n := r.st) (by have := ho.st; omega) (by have := ho.st; omega),
    readF_itoa (n := r.ln) (by have := ho.ln; omega) (by have := ho.ln; omega)]
  simp only [Bool.true_and]
  rw [if_pos h]
theorem split_back {s : List UInt8} (h : (splitF s).2 = true) : Lib.join (splitF s).1 [32] = s := by
  unfold splitF at h ⊢
  by_cases h0 : s = []
  · rw [if_pos h0]; subst h0; rfl
  · rw [if_neg h0] at h ⊢
    by_cases ha : (cutF 32 s).all okW = true
    · rw [if_pos ha]; exact join_cut 32 s
    · rw [if_neg ha] at h; cases h
theorem scan_pair {f : Int → List UInt8} {s : List UInt8} {g : Nat} {t : Int} (h : (scanF f s g t).2 = true) : f (scanF f s g t).1 = s := (scan_true f s g t _ (Prod.ext rfl h)).1
theorem rdRec_yes {l : List (List UInt8)} (h : (rdRec l).2 = true) : recR (rdRec l).1 = true ∧ l = recWords (rdRec l).1 := by
  match l, h with
  | [w0, w1, w2, w3, w4, w5, w6], h =>
    unfold rdRec at h ⊢
    simp only at h ⊢
    by_cases h0 : w0 = [102, 114, 97, 109, 101]
    · rw [if_pos h0] at h ⊢
      split at h
      · rename_i hc
        rw [if_pos hc]
        simp only [Bool.and_eq_true] at hc
        obtain ⟨c1, c2, c3, c4, c5, c6, c7⟩ := hc
        refine ⟨c7, ?_⟩
        unfold recWords
        simp only
        rw [show sideF (sideB w1).1 = w1 from scan_pair c1, show nameF (byNameF w2).1 = w2 from scan_pair c2, (readF_yes c3).1, (readF_yes c4).1, (readF_yes c5).1, show kindF (kindB w6).1 = w6 from scan_pair c6, h0]
      · cases h
    · rw [if_neg h0] at h; cases h
  | [], h => cases h
  | [_], h => cases h
  | [_, _], h => cases h
  | [_, _, _], h => cases h
  | [_, _, _, _], h => cases h
  | [_, _, _, _, _], h => cases h
  | [_, _, _, _, _, _], h => cases h
  | _ :: _ :: _ :: _ :: _ :: _ :: _ :: _ :: _, h => cases h
theorem rdRec_no {l : List (List UInt8)} (h : (rdRec l).2 = false) : rdRec l = (zRec, false) := by
  match l, h with
  | [w0, w1, w2, w3, w4, w5, w6], h =>
    unfold rdRec at h ⊢
    simp only at h ⊢
    split
    · rename_i h0
      rw [if_pos h0] at h
      split
      · rename_i hc; rw [if_pos hc] at h; cases h
      · rfl
    · rfl
  | [], h => rfl
  | [_], h => rfl
  | [_, _], h => rfl
  | [_, _, _], h => rfl
  | [_, _, _, _], h => rfl
  | [_, _, _, _, _], h => rfl
  | [_, _, _, _, _, _], h => rfl
  | _ :: _ :: _ :: _ :: _ :: _ :: _ :: _ :: _, h => rfl
theorem readRec_yes {line : List UInt8} (h : (readRecF line).2 = true) : recR (readRecF line).1 = true ∧ recLine (readRecF line).1 = line := by
  unfold readRecF at h ⊢
  by_cases hs : (splitF line).2 = true
  · rw [if_pos hs] at h ⊢
    obtain ⟨h1, h2⟩ := rdRec_yes h
    refine ⟨h1, ?_⟩
    unfold recLine
    rw [← h2, split_back hs]
  · rw [if_neg hs] at h; cases h
theorem readRec_no {line : List UInt8} (h : (readRecF line).2 = false) : readRecF line = (zRec, false) := by
  unfold readRecF at h ⊢
  by_cases hs : (splitF line).2 = true
  · rw [if_pos hs] at h ⊢; exact rdRec_no h
  · rw [if_neg hs]

/-! The document's road back. -/
def findF (l : List (List UInt8)) (s : List UInt8) : Int := if s ∈ l then (l.idxOf s : Int) else -1
def rfRec (l : List (List UInt8)) : Rec :=
  match l with
  | [_, w1, w2, w3, w4, w5, w6] => ⟨findF [[99, 108, 105, 101, 110, 116], [115, 101, 114, 118, 101, 114]] w1, (byNameF w2).1, (readF w3).1, (readF w4).1, (readF w5).1, 1 + findF [[97, 108, 108, 111, 119, 101, 100], [105, 103, 110, 111, 114, 101, 100], [114, 101, 106, 101, 99, 116, 101, 100], [108, 105, 109, 105, 116, 101, 100]] w6⟩
  | _ => zRec
def readRecR (line : List UInt8) : Rec × Bool :=
  if (splitF line).2 = true ∧ (splitF line).1.length = 7 then
    if recR (rfRec (splitF line).1) = true ∧ recLine (rfRec (splitF line).1) = line then (rfRec (splitF line).1, true) else (zRec, false)
  else (zRec, false)
theorem findF_side {n : Int} (h : n = 0 ∨ n = 1) : findF [[99, 108, 105, 101, 110, 116], [115, 101, 114, 118, 101, 114]] (sideF n) = n := by rcases h with rfl | rfl <;> decide
theorem findF_kind {n : Int} (h : 1 ≤ n ∧ n ≤ 4) : 1 + findF [[97, 108, 108, 111, 119, 101, 100], [105, 103, 110, 111, 114, 101, 100], [114, 101, 106, 101, 99, 116, 101, 100], [108, 105, 109, 105, 116, 101, 100]] (kindF n) = n := by rcases kindF_cases h with rfl | rfl | rfl | rfl <;> decide
theorem rfRec_words {r : Rec} (h : RecOk r) : rfRec (recWords r) = r := by
  unfold rfRec recWords
  simp only
  rw [findF_side h.fr, byName_name h.ty.1 h.ty.2, findF_kind h.kd, readF_itoa (n := r.fl) (by have := h.fl; omega) (by have := h.fl; omega), readF_itoa (n := r.st) (by have := h.st; omega) (by have := h.st; omega),
    readF_itoa (n := r.ln) (by have := h.ln; omega) (by have := h.ln; omega)]
theorem readRecR_line {r : Rec} (h : recR r = true) : readRecR (recLine r) = (r, true) := by
  have ho := recR_ok h
  unfold readRecR
  rw [recLine_split ho, if_pos ⟨rfl, rfl⟩]
  simp only
  rw [rfRec_words ho, if_pos ⟨h, rfl⟩]
theorem readRecR_yes {line : List UInt8} (h : (readRecR line).2 = true) : recR (readRecR line).1 = true ∧ recLine (readRecR line).1 = line := by
  unfold readRecR at h ⊢
  split at h
  · rename_i hc
    rw [if_pos hc]
    split at h
    · rename_i hd
      rw [if_pos hd]
      exact hd
    · cases h
  · cases h
theorem readRecR_no {line : List UInt8} (h : (readRecR line).2 = false) : readRecR line = (zRec, false) := by
  unfold readRecR at h ⊢
  split at h
  · rename_i hc
    rw [if_pos hc]
    split at h
    · cases h
    · rename_i hd; rw [if_neg hd]
  · rename_i hc; rw [if_neg hc]
theorem readRec_eq (line : List UInt8) : readRecF line = readRecR line := by
  cases h : (readRecF line).2 with
  | true =>
    obtain ⟨h1, h2⟩ := readRec_yes h
    have := readRecR_line h1
    rw [h2] at this
    rw [this]
    exact Prod.ext rfl h
  | false =>
    cases h' : (readRecR line).2 with
    | true =>
      obtain ⟨h1, h2⟩ := readRecR_yes h'
      have := readRec_line h1
      rw [h2] at this
      rw [this] at h
      cases h
    | false => rw [readRec_no h, readRecR_no h']
end Go.Proofs.YtfcklbiejlkafaaGreatDoor
/-
  Faults: codes and their names, faults and sets as texts: plain laws.
-/
namespace Go.Proofs.YtfcklbiejlkafaaGreatDoor
set_option linter.unusedSimpArgs false
set_option linter.unusedVariables false
set_option linter.unusedSectionVars false
open Go.ChangeShapes Go.WideShapes Go.ChangeAt Go.RowKit Go.Deep

def cdNames : List (List UInt8) := [[78, 79, 95, 69, 82, 82, 79, 82], [80, 82, 79, 84, 79, 67, 79, 76, 95, 69, 82, 82, 79, 82], [73, 78, 84, 69, 82, 78, 65, 76, 95, 69, 82, 82, 79, 82], [70, 76, 79, 87, 95, 67, 79, 78, 84, 82, 79, 76, 95, 69, 82, 82, 79, 82], [83, 69, 84, 84, 73, 78, 71, 83, 95, 84, 73, 77, 69, 79, 85, 84], [83, 84, 82, 69, 65, 77, 95, 67, 76, 79, 83, 69, 68], [70, 82, 65, 77, 69, 95, 83, 73, 90, 69, 95, 69, 82, 82, 79, 82], [82, 69, 70, 85, 83, 69, 68, 95, 83, 84, 82, 69, 65, 77], [67, 65, 78, 67, 69, 76], [67, 79, 77, 80, 82, 69, 83, 83, 73, 79, 78, 95, 69, 82, 82, 79, 82], [67, 79, 78, 78, 69, 67, 84, 95, 69, 82, 82, 79, 82], [69, 78, 72, 65, 78, 67, 69, 95, 89, 79, 85, 82, 95, 67, 65, 76, 77], [73, 78, 65, 68, 69, 81, 85, 65, 84, 69, 95, 83, 69, 67, 85, 82, 73, 84, 89], [72, 84, 84, 80, 95, 49, 95, 49, 95, 82, 69, 81, 85, 73, 82, 69, 68]]
def cdName (n : Nat) : List UInt8 := cdNames.getD n []
def cdAt (t : Int) : List UInt8 := cdName t.toNat
theorem cdName_lit : ∀ m : Fin 14, cdNames[m.val]? = some (cdName m.val) := by decide
theorem cdName_inj : ∀ m n : Fin 14, cdName m.val = cdName n.val → m = n := by decide
theorem cdName_ok : ∀ m : Fin 14, cdName m.val ≠ [] ∧ (cdName m.val).length ≤ 19 ∧ readF (cdName m.val) = (0, false) ∧ (cdName m.val).all (fun c => (65 ≤ c && c ≤ 90) || c == 95 || (48 ≤ c && c ≤ 57)) = true := by decide
/-- A code's name. -/
def codeN (c : Int) : List UInt8 := if c < 0 ∨ 4294967295 < c then [] else if c < 14 then cdAt c else Lib.itoa c
/-- The code of a name. -/
def codeOf (s : List UInt8) : Int × Bool :=
  if (scanF cdAt s 14 0).2 = true then scanF cdAt s 14 0 else if (readF s).2 = true ∧ 14 ≤ (readF s).1 ∧ (readF s).1 ≤ 4294967295 then ((readF s).1, true) else (0, false)
theorem codeN_lo {c : Int} (h0 : 0 ≤ c) (h1 : c < 14) : codeN c = cdAt c := by unfold codeN; rw [if_neg (by omega), if_pos h1]
theorem codeN_hi {c : Int} (h0 : 14 ≤ c) (h1 : c ≤ 4294967295) : codeN c = Lib.itoa c := by unfold codeN; rw [if_neg (by omega), if_neg (by omega)]
theorem codeN_out {c : Int} (h : c < 0 ∨ 4294967295 < c) : codeN c = [] := by unfold codeN; rw [if_pos h]
theorem scan_code {c : Int} (h0 : 0 ≤ c) (h1 : c < 14) : scanF cdAt (cdAt c) 14 0 = (c, true) :=
  scan_hit cdAt _ c rfl 14 0 h0 (by omega) fun m h2 h3 e => by
    have := cdName_inj ⟨m.toNat, by omega⟩ ⟨c.toNat, by omega⟩ e
    simp only [Fin.mk.injEq] at this
    omega
theorem scan_digits {c : Int} (g0 : -9223372036854775808 ≤ c) (g1 : c ≤ 9223372036854775807) : scanF cdAt (Lib.itoa c) 14 0 = (0, false) :=
  scan_none cdAt _ 14 0 fun m h2 h3 e => by
    have h := (cdName_ok ⟨m.toNat, by omega⟩).2.2.1
    have e : cdName m.toNat = Lib.itoa c := e
    simp only at h
    rw [e, readF_itoa g0 g1] at h
    cases h
theorem codeOf_name {c : Int} (h0 : 0 ≤ c) (h1 : c ≤ 4294967295) : codeOf (codeN c) = (c, true) := by
  by_cases h : c < 14
  · rw [codeN_lo h0 h]; unfold codeOf; rw [scan_code h0 h, if_pos rfl]
  · rw [codeN_hi (by omega) h1]; unfold codeOf; rw [scan_digits (by omega) (by omega), if_neg (by simp), readF_itoa (by omega) (by omega), if_pos ⟨rfl, by omega, h1⟩]
theorem codeOf_yes {s : List UInt8} (h : (codeOf s).2 = true) : codeN (codeOf s).1 = s ∧ 0 ≤ (codeOf s).1 ∧ (codeOf s).1 ≤ 4294967295 := by
  unfold codeOf at h ⊢
  by_cases h1 : (scanF cdAt s 14 0).2 = true
  · rw [if_pos h1]
    obtain ⟨h2, h3, h4⟩ := scan_true cdAt s 14 0 (scanF cdAt s 14 0).1 (by rw [← h1])
    exact ⟨by rw [codeN_lo h3 (by omega)]; exact h2, h3, by omega⟩
  · rw [if_neg h1] at h ⊢
    by_cases h2 : (readF s).2 = true ∧ 14 ≤ (readF s).1 ∧ (readF s).1 ≤ 4294967295
    · rw [if_pos h2]
      exact ⟨by rw [codeN_hi h2.2.1 h2.2.2]; exact (readF_yes h2.1).1, by omega, h2.2.2⟩
    · rw [if_neg h2] at h; cases h
theorem codeOf_no {s : List UInt8} (h : (codeOf s).2 = false) : codeOf s = (0, false) := by
  unfold codeOf at h ⊢
  by_cases h1 : (scanF cdAt s 14 0).2 = true
  · rw [if_pos h1, h1] at h; cases h
  · rw [if_neg h1] at h ⊢
    by_cases h2 : (readF s).2 = true ∧ 14 ≤ (readF s).1 ∧ (readF s).1 ≤ 4294967295
    · rw [if_pos h2] at h; cases h
    · rw [if_neg h2]
theorem codeN_ne {c : Int} (h0 : 0 ≤ c) (h1 : c ≤ 4294967295) : codeN c ≠ [] := by
  by_cases h : c < 14
  · rw [codeN_lo h0 h]; exact (cdName_ok ⟨c.toNat, by omega⟩).1
  · rw [codeN_hi (by omega) h1]; intro e
    have := readF_itoa (n := c) (by omega) (by omega)
    rw [e, show readF [] = (0, false) by decide] at this
    cases this
theorem codeN_len (c : Int) : (codeN c).length ≤ 20 := by
  unfold codeN
  split
  · simp
  · rename_i h
    split
    · exact Nat.le_trans (cdName_ok ⟨c.toNat, by omega⟩).2.1 (by omega)
    · exact itoa_len (by omega) (by omega)

/-- A fault's text, and a set's. -/
def scopeW (n : Int) : List UInt8 := if n = 1 then [115, 116, 114, 101, 97, 109] else [99, 111, 110, 110, 101, 99, 116, 105, 111, 110]
def textW (f : Fl) : List UInt8 := if flR f = true then scopeW f.scope ++ 58 :: codeN f.code else []
def showW (l : List Fl) : List UInt8 := if ofF l = [] then [45] else Lib.join ((ofF l).map textW) [44]
theorem textW_len (f : Fl) : (textW f).length ≤ 31 := by
  unfold textW scopeW
  have := codeN_len f.code
  split
  · split <;> simp <;> omega
  · simp
theorem textW_right {f : Fl} (h : flR f = true) : textW f = scopeW f.scope ++ 58 :: codeN f.code := by unfold textW; rw [if_pos h]
end Go.Proofs.YtfcklbiejlkafaaGreatDoor
/-
  What the walks ask of the library's variables, in any world that has grown since.
-/
namespace Go.Proofs.YtfcklbiejlkafaaGreatDoor
set_option linter.unusedSimpArgs false
set_option linter.unusedVariables false
set_option linter.unusedSectionVars false
open Go.ChangeShapes Go.WideShapes Go.ChangeAt Go.RowKit Go.Deep Go.Shelf

end Go.Proofs.YtfcklbiejlkafaaGreatDoor
/-
  Numbers as digits: the program's text of a number, and a text read as a number.
-/
namespace Go.Proofs.YtfcklbiejlkafaaGreatDoor
set_option linter.unusedSimpArgs false
set_option linter.unusedVariables false
set_option linter.unusedSectionVars false
open Go.ChangeShapes Go.WideShapes Go.ChangeAt Go.RowKit Go.Deep Go.Shelf

end Go.Proofs.YtfcklbiejlkafaaGreatDoor
/-
  Numbers as digits: the document's text of a number.
-/
namespace Go.Proofs.YtfcklbiejlkafaaGreatDoor
set_option linter.unusedSimpArgs false
set_option linter.unusedVariables false
set_option linter.unusedSectionVars false
open Go.ChangeShapes Go.WideShapes Go.ChangeAt Go.RowKit Go.Deep Go.Shelf

def digB (d : Nat) : List UInt8 := [UInt8.ofNat (48 + d)]
theorem dig_cut {n : Nat} (h : n < 10) : ([48, 49, 50, 51, 52, 53, 54, 55, 56, 57].drop n).take 1 = digB n := by
  have : ∀ m : Fin 10, (([48, 49, 50, 51, 52, 53, 54, 55, 56, 57] : List UInt8).drop m.val).take 1 = digB m.val := by decide
  exact this ⟨n, h⟩
set_option maxRecDepth 100000 in
theorem ref03_digit (n : Nat) (hn : n < 10) (w : World) : Calls Tryz.prog 100 #[.int .i64 (n : Int)] w fun e w' => e = .returned (bstr (digB n)) ∧ w = w' := by
  have h1 := Lib.hid (dig_cut hn)
  generalize digB n = P at h1 ⊢
  have i1 : (n : Int) + 1 ≤ 10 := by omega
  have i2 : ((n : Int) + 1).toNat = n + 1 := by omega
  have i3 : (0 : Int) ≤ (n : Int) + 1 := by omega
  have i4 : (n : Int) ≤ (n : Int) + 1 := by omega
  go_enter Tryz.func100, Tryz.ntmps100
  go_wp2_with fail
  go_ret
  exact ⟨ret1d (by rw [← h1.out]; rfl), rfl⟩
end Go.Proofs.YtfcklbiejlkafaaGreatDoor
/-
  Numbers as digits: the document's text of a number: it calls itself.
-/
namespace Go.Proofs.YtfcklbiejlkafaaGreatDoor
set_option linter.unusedSimpArgs false
set_option linter.unusedVariables false
set_option linter.unusedSectionVars false
open Go.ChangeShapes Go.WideShapes Go.ChangeAt Go.RowKit Go.Deep Go.Shelf

theorem dig_lo {n : Nat} (h : n < 10) : Lib.decDigits n = digB n := dec_lo h
theorem dig_hi {n : Nat} (h : ¬ n < 10) : Lib.decDigits n = Lib.decDigits (n / 10) ++ digB (n % 10) := dec_hi h
theorem dec_len20 {n : Nat} (h : n < 10000000000000000000) : (Lib.decDigits n).length ≤ 19 := dec_len 18 n (by omega)
def RefText (n : Int) (w : World) : Prop := Calls Tryz.prog 76 #[.int .i64 n] w fun e w' => e = .returned (bstr (Lib.itoa n)) ∧ w = w'
set_option maxHeartbeats 4000000 in
set_option maxRecDepth 100000 in
theorem text_pos : ∀ (k m : Nat), m ≤ k → m ≤ 9223372036854775807 → ∀ w, RefText (m : Int) w
  | k, m, hk, hm, w => by
    unfold RefText
    rw [itoa_pos m]
    by_cases h10 : m < 10
    · rw [dig_lo h10]
      have HD := Lib.hid (ref03_digit m h10)
      generalize digB m = P at HD ⊢
      have h1 : ¬ (m : Int) < 0 := by omega
      have h2 : (m : Int) < 10 := by omega
      go_enter Tryz.func76, Tryz.ntmps76
      go_wp2_with (go_at_call 100; (with_reducible refine (HD.out _).mono ?_); rintro e w' ⟨rfl, rfl⟩)
      go_ret
      exact ⟨rfl, rfl⟩
    · obtain ⟨k, rfl⟩ : ∃ k', k = k' + 1 := ⟨k - 1, by omega⟩
      have HT := Lib.hid (text_pos k (m / 10) (by omega) (by omega))
      unfold RefText at HT
      rw [dig_hi h10]
      rw [itoa_pos (m / 10)] at HT
      have hlen : (Lib.decDigits (m / 10)).length ≤ 19 := dec_len20 (by omega)
      have HD := Lib.hid (ref03_digit (m % 10) (by omega))
      have hP : (digB (m % 10)).length ≤ 1 := Nat.le_refl 1
      generalize digB (m % 10) = P at HD hP ⊢
      generalize Lib.decDigits (m / 10) = T at HT hlen ⊢
      have f1 : (m : Int) / 10 = ((m / 10 : Nat) : Int) := by omega
      have f2 : (m : Int) % 10 = ((m % 10 : Nat) : Int) := by omega
      generalize hq : m / 10 = q at *
      generalize hr : m % 10 = r at *
      have h1 : ¬ (m : Int) < 0 := by omega
      have h2 : ¬ (m : Int) < 10 := by omega
      clear hq hr
      go_enter Tryz.func76, Tryz.ntmps76
      go_wp2_with (first
        | (go_at_call 100; (with_reducible refine (HD.out _).mono ?_); rintro e w' ⟨rfl, rfl⟩)
        | (go_at_call 76; (with_reducible refine (HT.out _).mono ?_); rintro e w' ⟨rfl, rfl⟩))
      go_ret
      exact ⟨rfl, rfl⟩
set_option maxHeartbeats 4000000 in
set_option maxRecDepth 100000 in
theorem text_neg : ∀ (k m : Nat), m ≤ k → 1 ≤ m → m ≤ 9223372036854775808 → ∀ w, RefText (-(m : Int)) w
  | k, m, hk, h0, hm, w => by
    unfold RefText
    rw [itoa_minus m h0]
    have h1 : -(m : Int) < 0 := by omega
    by_cases h10 : m < 10
    · rw [dig_lo h10]
      have HD := Lib.hid (ref03_digit m h10)
      have hP : (digB m).length ≤ 1 := Nat.le_refl 1
      generalize digB m = P at HD hP ⊢
      have h2 : -10 < -(m : Int) := by omega
      have s1 : IntKind.i64.wrap (-(-(m : Int))) = (m : Int) := by rw [IntWalk.i64_in _ (by omega)]; omega
      have s2 : IntKind.i64.wrap ((m : Int)) = (m : Int) := by rw [IntWalk.i64_in _ (by omega)]
      go_enter Tryz.func76, Tryz.ntmps76
      go_wp2_with (go_at_call 100; (with_reducible refine (HD.out _).mono ?_); rintro e w' ⟨rfl, rfl⟩)
      go_ret
      exact ⟨rfl, rfl⟩
    · obtain ⟨k, rfl⟩ : ∃ k', k = k' + 1 := ⟨k - 1, by omega⟩
      have HT := Lib.hid (text_neg k (m / 10) (by omega) (by omega) (by omega))
      unfold RefText at HT
      rw [dig_hi h10]
      rw [itoa_minus (m / 10) (by omega)] at HT
      have hlen : (Lib.decDigits (m / 10)).length ≤ 19 := dec_len20 (by omega)
      have HD := Lib.hid (ref03_digit (m % 10) (by omega))
      have hP : (digB (m % 10)).length ≤ 1 := Nat.le_refl 1
      generalize digB (m % 10) = P at HD hP ⊢
      generalize Lib.decDigits (m / 10) = T at HT hlen ⊢
      have f1 : (-(m : Int)).tdiv 10 = -((m / 10 : Nat) : Int) := by rw [Int.neg_tdiv, Int.tdiv_eq_ediv_of_nonneg (by omega)]; omega
      have f2 : (-(m : Int)).tmod 10 = -((m % 10 : Nat) : Int) := by rw [Int.neg_tmod, Int.tmod_eq_emod_of_nonneg (by omega)]; omega
      generalize hq : m / 10 = q at *
      generalize hr : m % 10 = r at *
      have s1 : IntKind.i64.wrap (-(-(r : Int))) = (r : Int) := by rw [IntWalk.i64_in _ (by omega)]; omega
      have s2 : IntKind.i64.wrap (-(q : Int)) = -(q : Int) := by rw [IntWalk.i64_in _ (by omega)]
      have h2 : ¬ -10 < -(m : Int) := by omega
      have hr9 : r < 10 := by omega
      have s3 : wrap64 (r : Int) = (r : Int) := by unfold wrap64; omega
      clear hq hr
      go_enter Tryz.func76, Tryz.ntmps76
      go_wp2_with (first
        | (go_at_call 100; (with_reducible refine (HD.out _).mono ?_); rintro e w' ⟨rfl, rfl⟩)
        | (go_at_call 76; (with_reducible refine (HT.out _).mono ?_); rintro e w' ⟨rfl, rfl⟩))
      go_ret
      exact ⟨rfl, rfl⟩
end Go.Proofs.YtfcklbiejlkafaaGreatDoor
/-
  Numbers as digits: a text's value, the document's.
-/
namespace Go.Proofs.YtfcklbiejlkafaaGreatDoor
set_option linter.unusedSimpArgs false
set_option linter.unusedVariables false
set_option linter.unusedSectionVars false
open Go.ChangeShapes Go.WideShapes Go.ChangeAt Go.RowKit Go.Deep Go.Shelf
end Go.Proofs.YtfcklbiejlkafaaGreatDoor
/-
  Numbers as digits: a text read as a number, the document's road.
-/
namespace Go.Proofs.YtfcklbiejlkafaaGreatDoor
set_option linter.unusedSimpArgs false
set_option linter.unusedVariables false
set_option linter.unusedSectionVars false
open Go.ChangeShapes Go.WideShapes Go.ChangeAt Go.RowKit Go.Deep Go.Shelf

theorem ref03_Text (n : Int) (h0 : -9223372036854775808 ≤ n) (h1 : n ≤ 9223372036854775807) (w : World) : RefText n w := by
  rcases Int.lt_or_le n 0 with h | h
  · obtain ⟨m, rfl⟩ : ∃ m : Nat, n = -(m : Int) := ⟨n.natAbs, by omega⟩
    exact text_neg m m (Nat.le_refl _) (by omega) (by omega) w
  · obtain ⟨m, rfl⟩ : ∃ m : Nat, n = (m : Int) := ⟨n.toNat, by omega⟩
    exact text_pos m m (Nat.le_refl _) (by omega) w
theorem readR_long {s : List UInt8} (h : 20 < (s.length : Int)) : readR s = (0, false) := by unfold readR; rw [if_pos (.inl h)]
theorem head45 (c : UInt8) (r : List UInt8) : ((c :: r).head?.map (· == 45) = some true) ↔ ((c.toNat : Int) == 45) = true := by
  simp only [List.head?_cons, Option.map_some, Option.some.injEq, beq_iff_eq, ← UInt8.toNat_inj]
  show c.toNat = 45 ↔ _
  omega
theorem readR_minus {c : UInt8} {r : List UInt8} (h : ¬ 20 < ((c :: r).length : Int)) (hc : ((c.toNat : Int) == 45) = true) :
    readR (c :: r) = if (vlF r).2 = true ∧ Lib.itoa (vlF r).1 = c :: r then ((vlF r).1, true) else (0, false) := by
  unfold readR
  rw [if_neg (by simp only [reduceCtorEq, or_false]; exact h), if_pos ((head45 c r).2 hc)]
  rfl
theorem readR_plus {c : UInt8} {r : List UInt8} (h : ¬ 20 < ((c :: r).length : Int)) (hc : ((c.toNat : Int) == 45) = false) :
    readR (c :: r) = if (vlF (c :: r)).1 = -9223372036854775808 then (0, false) else if (vlF (c :: r)).2 = true ∧ Lib.itoa (-(vlF (c :: r)).1) = c :: r then (-(vlF (c :: r)).1, true) else (0, false) := by
  unfold readR
  rw [if_neg (by simp only [reduceCtorEq, or_false]; exact h), if_neg (fun e => by rw [(head45 c r).1 e] at hc; cases hc)]

end Go.Proofs.YtfcklbiejlkafaaGreatDoor
/-
  Faults: codes and their names, both roads.
-/
namespace Go.Proofs.YtfcklbiejlkafaaGreatDoor
set_option linter.unusedSimpArgs false
set_option linter.unusedVariables false
set_option linter.unusedSectionVars false
open Go.ChangeShapes Go.WideShapes Go.ChangeAt Go.RowKit Go.Deep Go.Shelf

def NamesM (n : Nat) (f : Nat → List UInt8) (w : World) (e : Ending) (w' : World) : Prop := ∃ g j, e = .returned (.slice (some ⟨g, 0, none⟩) n n) ∧ (∀ k, k < n → w'.cell? ⟨g, k, none⟩ = some (bstr (f k))) ∧ g < w'.heap.size ∧ w' = w.more j
theorem names_more {n : Nat} {f : Nat → List UInt8} {w : World} {t : TypeId} {cs : Array Value} (h : ∀ k, k < n → cs[k]? = some (bstr (f k))) : NamesM n f w (.returned (.slice (some ⟨w.heap.size, 0, none⟩) n n)) (w.alloc (.cells cs t)) := by
  obtain ⟨j, hj⟩ : ∃ j, w.alloc (.cells cs t) = w.more j := Below.junk (by repeat (first | (with_reducible exact Below.refl _ _) | (with_reducible refine Below.allocS ?_ _) | (with_reducible refine Below.moreS ?_ _) | (with_reducible refine Below.drew ?_) | (with_reducible refine below_drewN ?_ _)))
  exact ⟨_, j, rfl, fun k hk => (Blk.new w t cs).cell k |>.trans (h k hk), by simp, hj⟩
set_option maxRecDepth 100000 in
theorem ref09_names (w : World) : Calls Tryz.prog 75 #[] w (NamesM 14 cdName w) := by
  go_enter Tryz.func75, Tryz.ntmps75
  go_wp2_with fail
  go_ret
  refine names_more (cs := (cdNames.map bstr).toArray) fun k hk => ?_
  simp [cdName_lit ⟨k, hk⟩]

set_option maxHeartbeats 2000000 in
set_option maxRecDepth 100000 in
theorem ref09_CodeName (t : Int) (w : World) : Calls Tryz.prog 51 #[.int .i64 t] w fun e w' => e = .returned (bstr (codeN t)) ∧ ∃ j, w' = w.more j := by
  by_cases h : t < 0 ∨ 4294967295 < t
  · rw [codeN_out h]
    rcases h with h | h
    · go_enter Tryz.func51, Tryz.ntmps51
      go_wp2_with fail
      go_ret
      exact ⟨rfl, Below.junk (by repeat (first | (with_reducible exact Below.refl _ _) | (with_reducible refine Below.allocS ?_ _) | (with_reducible refine Below.moreS ?_ _) | (with_reducible refine Below.drew ?_) | (with_reducible refine below_drewN ?_ _)))⟩
    · have h1 : 4294967296 ≤ t := by omega
      have h2 : ¬ t < 0 := by omega
      go_enter Tryz.func51, Tryz.ntmps51
      go_wp2_with fail
      go_ret
      exact ⟨rfl, Below.junk (by repeat (first | (with_reducible exact Below.refl _ _) | (with_reducible refine Below.allocS ?_ _) | (with_reducible refine Below.moreS ?_ _) | (with_reducible refine Below.drew ?_) | (with_reducible refine below_drewN ?_ _)))⟩
  · have h0 : ¬ t < 0 := by omega
    have h1 : ¬ 4294967296 ≤ t := by omega
    by_cases h14 : t < 14
    · obtain ⟨k, rfl⟩ : ∃ k : Nat, t = (k : Int) := ⟨t.toNat, by omega⟩
      rw [codeN_lo (by omega) h14]
      generalize hT : cdAt (k : Int) = T
      have HN := Lib.hid (ref09_names w)
      have hk : k < 14 := by omega
      clear h
      go_enter Tryz.func51, Tryz.ntmps51
      go_wp2_with fail
      refine HN.out.mono ?_
      rintro e w' ⟨g, j, rfl, hc, hg, rfl⟩
      have c0 : (w.more j).cell? ⟨g, k, none⟩ = some (bstr T) := by rw [← hT]; exact hc k hk
      clear hc hk hT
      go_wp2_with fail
      go_ret
      exact ⟨rfl, Below.junk (by repeat (first | (with_reducible exact Below.refl _ _) | (with_reducible refine Below.allocS ?_ _) | (with_reducible refine Below.moreS ?_ _) | (with_reducible refine Below.drew ?_) | (with_reducible refine below_drewN ?_ _)))⟩
    · rw [codeN_hi (by omega) (by omega)]
      have HT : Hid (∀ W, Calls Tryz.prog 76 #[.int .i64 t] W fun e w' => e = .returned (bstr (Lib.itoa t)) ∧ W = w') := fun W => ref03_Text t (by omega) (by omega) W
      generalize Lib.itoa t = T at HT ⊢
      clear h
      go_enter Tryz.func51, Tryz.ntmps51
      go_wp2_with (go_at_call 76; (with_reducible refine (HT.out _).mono ?_); rintro e w' ⟨rfl, rfl⟩)
      go_ret
      exact ⟨rfl, Below.junk (by repeat (first | (with_reducible exact Below.refl _ _) | (with_reducible refine Below.allocS ?_ _) | (with_reducible refine Below.moreS ?_ _) | (with_reducible refine Below.drew ?_) | (with_reducible refine below_drewN ?_ _)))⟩
theorem scan_stepC (f : Int → List UInt8) (s : List UInt8) (g : Nat) (t : Int) : scanF f s (g + 1) t = if f t = s then (t, true) else scanF f s g (t + 1) := rfl
theorem code_hit {s : List UInt8} {t : Int} (h : scanF cdAt s 14 0 = (t, true)) : codeOf s = (t, true) := by unfold codeOf; rw [h, if_pos rfl]
theorem code_miss {s : List UInt8} (h : scanF cdAt s 14 0 = (0, false)) : codeOf s = if (readF s).2 = true ∧ 14 ≤ (readF s).1 ∧ (readF s).1 ≤ 4294967295 then ((readF s).1, true) else (0, false) := by unfold codeOf; rw [h, if_neg (by simp)]

end Go.Proofs.YtfcklbiejlkafaaGreatDoor
