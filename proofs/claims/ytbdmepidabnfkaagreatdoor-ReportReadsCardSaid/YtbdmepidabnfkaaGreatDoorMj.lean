/-
  Parts of the proof, one behind the other: contracts of the program and plain laws; no condition of their own.
-/
import Derived.Test.YtbdmepidabnfkaaGreatDoorMc
import Derived.Test.YtbdmepidabnfkaaGreatDoorMb
import Derived.Deep.LoopGhost
import Derived.BigGuardPart
import Derived.Test.YtbdmepidabnfkaaGreatDoorMi
/-
  Rules: the set of those among some: both roads.
-/
namespace Go.Proofs.YtbdmepidabnfkaaGreatDoor
set_option linter.unusedSimpArgs false
set_option linter.unusedVariables false
set_option linter.unusedSectionVars false
open Go.ChangeShapes Go.WideShapes Go.ChangeAt Go.RowKit Go.Deep Go.Shelf

theorem max_keep {w W : World} {m : Int} (hM : w.cell? MaxA = some (.int .i64 m)) (hW : Below w.heap.size w W) : W.cell? MaxA = some (.int .i64 m) :=
  (hW.cell (p := MaxA) (World.block_lt_of_cell? w MaxA hM)).trans hM
set_option maxHeartbeats 8000000 in
set_option maxRecDepth 100000 in
theorem rules_Of (a : Option Addr) (l : List Int) (cap : Nat) (hl : l.length ≤ 100000) (m : Int) (w : World) (hM : w.cell? MaxA = some (.int .i64 m)) (hS : SlI w w.heap.size a l) :
    Calls Tryz.prog 68 #[.slice a l.length cap] w fun e w' => ∃ v, e = .returned v ∧ OwnI w.heap.size w' v (ofR l) ∧ Below w.heap.size w w' := by
  have HR : Hid (ofR l = setS ltI (l.filter rulR)) := rfl
  generalize ofR l = R at HR ⊢
  have HS := Lib.hid hS
  have HM : Hid (∀ W, Below w.heap.size w W → W.cell? MaxA = some (.int .i64 m)) := fun W hW => max_keep hM hW
  clear hS hM
  go_enter Tryz.func68, Tryz.ntmps68
  go_wp2_with fail
  go_loopg [3, 8] l.length (fun g v i wr => ∃ (k : Nat) (out : List Int), k + g = l.length ∧ i = .int .i64 k ∧ out.length ≤ k ∧ OwnI w.heap.size wr v out ∧ Below w.heap.size w wr ∧ Hid (l.filter rulR = out ++ (l.drop k).filter rulR))
  case atStart => exact ⟨0, [], by omega, rfl, by simp, OwnC.nil _ _, Below.refl _ _, rfl⟩
  case round =>
    obtain ⟨k, out, hkg, rfl, hok, HO, hb, HU⟩ := hrel
    have HO := Lib.hid HO
    have HB := Lib.hid hb
    have HK := Lib.hid hkg
    by_cases hlt : k < l.length
    · obtain ⟨b, off, ha, hbb, c00⟩ := SlR.atI HS.out hlt
      subst ha
      have c0 : wr.cell? ⟨b, off + k, none⟩ = some (.int .i64 l[k]) := (hb.cell (p := ⟨b, off + k, none⟩) hbb).trans c00
      have hbx : b < wr.heap.size := Nat.lt_of_lt_of_le hbb hb.size
      have hd : l.drop k = l[k] :: l.drop (k + 1) := List.drop_eq_getElem_cons hlt
      have HT : Hid (rulR l[k] = true → l.filter rulR = (out ++ [l[k]]) ++ (l.drop (k + 1)).filter rulR) := fun h => by rw [HU.out, hd, List.filter_cons_of_pos h]; simp
      have HF : Hid (rulR l[k] = false → l.filter rulR = out ++ (l.drop (k + 1)).filter rulR) := fun h => by rw [HU.out, hd, List.filter_cons_of_neg (by simp [h])]
      have HN := Lib.hid (rules_Name l[k] m wr (HM.out wr hb))
      have hne : (tabN rulW l[k]).isEmpty = !rulR l[k] := nameR_emp _
      clear hd c00 hb hkg HU
      generalize l[k] = x at c0 HT HF HN hne
      generalize tabN rulW x = nm at HN hne
      generalize rulR x = r at HT HF hne
      cases r
      · have HU2 := Lib.hid (HF.out rfl)
        have hne1 : nm.isEmpty = true := hne
        clear HT HF hne
        go_wp2_with fail
        refine HN.out.mono ?_
        rintro e w' ⟨rfl, j, rfl⟩
        go_wp2_with fail
        go_roundg (l.length - (k + 1))
        case measure => have := HK.out; omega
        case rel => exact ⟨k + 1, out, by have := HK.out; omega, by go_num, by omega, HO.out.below (C := wr.heap.size) (by repeat (first | (with_reducible exact Below.refl _ _) | (with_reducible refine Below.allocS ?_ _) | (with_reducible refine Below.moreS ?_ _) | (with_reducible refine Below.drew ?_) | (with_reducible refine below_drewN ?_ _))) (Nat.le_refl _), HB.out.trans (Below.mono (B := wr.heap.size) (by repeat (first | (with_reducible exact Below.refl _ _) | (with_reducible refine Below.allocS ?_ _) | (with_reducible refine Below.moreS ?_ _) | (with_reducible refine Below.drew ?_) | (with_reducible refine below_drewN ?_ _))) HB.out.size), HU2.out⟩
      · have HU2 := Lib.hid (HT.out rfl)
        have hne1 : nm.isEmpty = false := hne
        clear HT HF hne
        go_wp2_with fail
        refine HN.out.mono ?_
        rintro e w' ⟨rfl, j, rfl⟩
        go_wp2_with (at_builtin; refine app_c (y := x) st_ints intC_len intC_one (by omega) (.tmp 15) (.tmp 17) rfl rfl rfl (HO.out.below (C := wr.heap.size) (by repeat (first | (with_reducible exact Below.refl _ _) | (with_reducible refine Below.allocS ?_ _) | (with_reducible refine Below.moreS ?_ _) | (with_reducible refine Below.drew ?_) | (with_reducible refine below_drewN ?_ _))) (Nat.le_refl _)) rfl (Blk.at_ _ _ _ (by simp)) rfl (by omega) (by have := HB.out.size; simp only [World.size_alloc, World.size_more]; omega) ?_; intro v' w2 hown hbw)
        have hb2 := HB.out.trans ((Below.mono (B := wr.heap.size) (by repeat (first | (with_reducible exact Below.refl _ _) | (with_reducible refine Below.allocS ?_ _) | (with_reducible refine Below.moreS ?_ _) | (with_reducible refine Below.drew ?_) | (with_reducible refine below_drewN ?_ _))) HB.out.size).trans hbw)
        have HB2 := Lib.hid hb2
        have HO2 := Lib.hid hown
        clear hbw hb2 hown
        go_wp2_with fail
        go_roundg (l.length - (k + 1))
        case measure => have := HK.out; omega
        case rel => exact ⟨k + 1, out ++ [x], by have := HK.out; omega, by go_num, by simp; omega, HO2.out, HB2.out, HU2⟩
    · have hU : l.filter rulR = out := by rw [HU.out, List.drop_of_length_le (by omega)]; simp
      have hR : R = Lib.compact (out.mergeSort fun x y => decide (x ≤ y)) := by rw [HR.out, hU, sort_setI]
      have HSO := Lib.hid (sort_ints HO.out hb.size (by omega))
      have hol : (out.mergeSort fun x y => decide (x ≤ y)).length ≤ 1048576 := by rw [List.length_mergeSort]; omega
      have HOL := Lib.hid hol
      clear hU HU HR hb hkg HO hol
      generalize (out.mergeSort fun x y => decide (x ≤ y)) = sr at HSO hR HOL
      go_wp2_with fail
      refine HSO.out.mono ?_
      rintro e w1 ⟨rfl, ho1, hb1⟩
      have HB1 := Lib.hid (HB.out.trans hb1)
      have HC := Lib.hid (compact_ints ho1 (Nat.le_trans HB.out.size hb1.size) HOL.out)
      clear ho1 hb1
      go_wp2_with fail
      refine HC.out.mono ?_
      rintro e w2 ⟨v2, rfl, ho2, hb2⟩
      have HB2 := Lib.hid (HB1.out.trans hb2)
      have HO2 := Lib.hid ho2
      clear ho2 hb2
      go_wp2_with fail
      go_ret
      exact ⟨_, rfl, by rw [hR]; exact HO2.out, HB2.out⟩

theorem ofI_step {l : List Int} {r : Int} (hr : 1 ≤ r) (hr2 : r ≤ 35) : (ofR l).filter (fun x => decide (x < r + 1)) = (ofR l).filter (fun x => decide (x < r)) ++ (if r ∈ l then [r] else []) := by
  rw [upto_step _ (strict_ofR l) r]
  have : (r ∈ ofR l) ↔ r ∈ l := by rw [mem_ofR]; simp [rulR, hr, hr2]
  simp only [this]
set_option maxHeartbeats 8000000 in
set_option maxRecDepth 100000 in
theorem ref38_Of (a : Option Addr) (l : List Int) (cap : Nat) (hl : l.length ≤ 100000) (w : World) (hS : SlI w w.heap.size a l) :
    Calls Tryz.prog 37 #[.slice a l.length cap] w fun e w' => ∃ v, e = .returned v ∧ OwnI w.heap.size w' v (ofR l) ∧ Below w.heap.size w w' := by
  have HS := Lib.hid hS
  have H1 : Hid ((ofR l).filter (fun x => decide (x < 1)) = []) := upto_start l
  have H2 : Hid ((ofR l).filter (fun x => decide (x < 36)) = ofR l) := upto_end l
  have H3 : Hid (∀ r : Int, 1 ≤ r → r ≤ 35 → (ofR l).filter (fun x => decide (x < r + 1)) = (ofR l).filter (fun x => decide (x < r)) ++ (if r ∈ l then [r] else [])) := fun r => ofI_step
  clear hS
  generalize ofR l = R at H1 H2 H3 ⊢
  go_enter Tryz.func37, Tryz.ntmps37
  go_wp2_with fail
  go_loopg [3, 4] 35 (fun g v i wr => ∃ (k : Nat) (out : List Int), k + g = 35 ∧ i = .int .i64 ((k : Int) + 1) ∧ out.length ≤ k ∧ OwnI w.heap.size wr v out ∧ Below w.heap.size w wr ∧ Hid (R.filter (fun x => decide (x < (k : Int) + 1)) = out))
  case atStart => exact ⟨0, [], by omega, rfl, by simp, OwnC.nil _ _, Below.refl _ _, H1⟩
  case round =>
    obtain ⟨k, out, hkg, rfl, hok, HO, hb, HU⟩ := hrel
    have HO := Lib.hid HO
    have HB := Lib.hid hb
    have HK := Lib.hid hkg
    by_cases hlt : k < 35
    · have hle : (k : Int) + 1 ≤ 35 := by omega
      have HT : Hid ((k : Int) + 1 ∈ l → R.filter (fun x => decide (x < (k : Int) + 1 + 1)) = out ++ [(k : Int) + 1]) := fun h => by rw [H3.out _ (by omega) (by omega), HU.out, if_pos h]
      have HF : Hid ((k : Int) + 1 ∉ l → R.filter (fun x => decide (x < (k : Int) + 1 + 1)) = out) := fun h => by rw [H3.out _ (by omega) (by omega), HU.out, if_neg h]; simp
      have hw1 : IntKind.i64.wrap ((k : Int) + 1 + 1) = (k : Int) + 1 + 1 := IntWalk.i64_in _ (by omega)
      clear hb hkg HU
      go_wp2_with fail
      go_loopg [3, 5] l.length (fun g v2 i wr2 => ∃ (q : Nat), q + g = l.length ∧ i = .int .i64 q ∧ wr2 = wr ∧ OwnI w.heap.size wr v2 out ∧ Hid (∀ p (hp : p < l.length), p < q → l[p] ≠ (k : Int) + 1))
      case atStart => exact ⟨0, by omega, rfl, rfl, HO.out, fun p _ h => absurd h (by omega)⟩
      case round =>
        clear HO
        obtain ⟨q, hqg, rfl, rfl, HO, HQ⟩ := hrel
        have HO := Lib.hid HO
        have HQK := Lib.hid hqg
        by_cases hq : q < l.length
        · obtain ⟨b, off, ha, hbb, c00⟩ := SlR.atI HS.out hq
          subst ha
          have c0 : wr.cell? ⟨b, off + q, none⟩ = some (.int .i64 l[q]) := (HB.out.cell (p := ⟨b, off + q, none⟩) hbb).trans c00
          have hbx : b < wr.heap.size := Nat.lt_of_lt_of_le hbb HB.out.size
          have HM : Hid (l[q] ∈ l) := List.getElem_mem hq
          have HN : Hid (l[q] ≠ (k : Int) + 1 → ∀ p (hp : p < l.length), p < q + 1 → l[p] ≠ (k : Int) + 1) := fun h p hp hpq => by
            by_cases e : p = q
            · subst e; exact h
            · exact HQ.out p hp (by omega)
          clear c00 hqg
          generalize l[q] = x at c0 HM HN
          cases hx : (x == (k : Int) + 1)
          · have HN2 := Lib.hid (HN.out (by simpa using hx))
            clear HN HM
            go_wp2_with fail
            go_roundg (l.length - (q + 1))
            case measure => have := HQK.out; omega
            case rel => exact ⟨q + 1, by have := HQK.out; omega, by go_num, rfl, HO.out, HN2⟩
          · have he : x = (k : Int) + 1 := by simpa using hx
            subst he
            have HU2 := Lib.hid (HT.out HM.out)
            clear HT HF HM HN
            go_wp2_with (at_builtin; refine app_c (y := (k : Int) + 1) st_ints intC_len intC_one (by omega) (.tmp 22) (.tmp 24) rfl rfl rfl (HO.out.below (C := wr.heap.size) (by repeat (first | (with_reducible exact Below.refl _ _) | (with_reducible refine Below.allocS ?_ _) | (with_reducible refine Below.moreS ?_ _) | (with_reducible refine Below.drew ?_) | (with_reducible refine below_drewN ?_ _))) (Nat.le_refl _)) rfl (Blk.at_ _ _ _ (by simp)) rfl (by omega) (by have := HB.out.size; simp only [World.size_alloc, World.size_more]; omega) ?_; intro v' w2 hown hbw)
            have hb2 := HB.out.trans ((Below.mono (B := wr.heap.size) (by repeat (first | (with_reducible exact Below.refl _ _) | (with_reducible refine Below.allocS ?_ _) | (with_reducible refine Below.moreS ?_ _) | (with_reducible refine Below.drew ?_) | (with_reducible refine below_drewN ?_ _))) HB.out.size).trans hbw)
            have HB2 := Lib.hid hb2
            have HO2 := Lib.hid hown
            clear hbw hb2 hown
            go_wp2_with fail
            go_roundg (35 - (k + 1))
            case measure => have := HK.out; omega
            case rel => exact ⟨k + 1, out ++ [(k : Int) + 1], by have := HK.out; omega, by go_num, by simp; omega, HO2.out, HB2.out, HU2⟩
        · have HU2 := Lib.hid (HF.out (fun hm => by
            obtain ⟨p, hp, e⟩ := List.getElem_of_mem hm
            exact HQ.out p hp (by omega) e))
          clear HT HF HQ
          go_wp2_with fail
          go_roundg (35 - (k + 1))
          case measure => have := HK.out; omega
          case rel => exact ⟨k + 1, out, by have := HK.out; omega, by go_num, by omega, HO.out, HB.out, HU2⟩
    · have hR : R = out := by rw [← H2.out, ← HU.out, show (k : Int) + 1 = 36 by omega]
      have hle : ¬ (k : Int) + 1 ≤ 35 := by omega
      subst hR
      clear HU H1 H2 H3 hb hkg
      go_wp2_with fail
      go_ret
      exact ⟨_, rfl, HO.out, HB.out⟩
end Go.Proofs.YtbdmepidabnfkaaGreatDoor
/-
  Rules: a set's names as a text: both roads.
-/
namespace Go.Proofs.YtbdmepidabnfkaaGreatDoor
set_option linter.unusedSimpArgs false
set_option linter.unusedVariables false
set_option linter.unusedSectionVars false
open Go.ChangeShapes Go.WideShapes Go.ChangeAt Go.RowKit Go.Deep Go.Shelf

set_option maxHeartbeats 8000000 in
set_option maxRecDepth 100000 in
theorem rules_Show (a : Option Addr) (l : List Int) (cap : Nat) (hl : l.length ≤ 100000) (m : Int) (w : World) (hM : w.cell? MaxA = some (.int .i64 m)) (hS : SlI w w.heap.size a l) :
    Calls Tryz.prog 24 #[.slice a l.length cap] w fun e w' => e = .returned (bstr (showR l)) ∧ ∃ j, w' = w.more j := by
  have HO := Lib.hid (rules_Of a l cap (by omega) m w hM hS)
  have hlen := ofR_len l
  have HW : Hid (showR l = if ofR l = [] then [45] else Lib.join ((ofR l).map nameR) [44]) := rfl
  have HM : Hid (∀ W, Below w.heap.size w W → W.cell? MaxA = some (.int .i64 m)) := fun W hW => max_keep hM hW
  generalize ofR l = S at HO HW hlen
  generalize showR l = R at HW ⊢
  clear hS hM
  go_enter Tryz.func24, Tryz.ntmps24
  go_wp2_with fail
  refine HO.out.mono ?_
  rintro e w1 ⟨v1, rfl, ho1, hb1⟩
  obtain ⟨a1, cap1, rfl, hs1⟩ := ho1.readI
  have HS1 := Lib.hid hs1
  have HB1 := Lib.hid hb1
  have HL := Lib.hid hlen
  clear hs1 hb1 ho1
  go_wp2_with fail
  go_loopg [3, 9] S.length (fun g v i wr => ∃ k : Nat, k + g = S.length ∧ i = .int .i64 k ∧ OwnX w1.heap.size wr v ((S.take k).map nameR) ∧ Below w1.heap.size w1 wr)
  case atStart => exact ⟨0, by omega, rfl, OwnX.nil _ _, Below.refl _ _⟩
  case round =>
    obtain ⟨k, hkg, rfl, HX, hb⟩ := hrel
    have HX := Lib.hid HX
    have HB := Lib.hid hb
    have HK := Lib.hid hkg
    by_cases hlt : k < S.length
    · obtain ⟨b, off, ha, hbb, c00⟩ := SlR.atI HS1.out hlt
      subst ha
      have c0 : wr.cell? ⟨b, off + k, none⟩ = some (.int .i64 S[k]) := (hb.cell (p := ⟨b, off + k, none⟩) hbb).trans c00
      have hbx : b < wr.heap.size := Nat.lt_of_lt_of_le hbb hb.size
      have HT : Hid (Calls Tryz.prog 69 #[.int .i64 S[k]] wr fun e w' => e = .returned (bstr (nameR S[k])) ∧ ∃ j', w' = wr.more j') := rules_Name _ m wr (HM.out _ (HB1.out.trans (hb.mono HB1.out.size)))
      have hU : (S.take (k + 1)).map nameR = (S.take k).map nameR ++ [nameR S[k]] := by rw [List.take_add_one, List.getElem?_eq_getElem hlt, List.map_append]; rfl
      have hlk : ((S.take k).map nameR).length ≤ k := by simp; omega
      have HU := Lib.hid hU
      clear hU
      generalize S[k] = x at c0 HT HU
      generalize nameR x = t at HT HU
      generalize (S.take k).map nameR = out at HX HU hlk
      have HLK := Lib.hid hlk
      clear c00 hb hkg hlk
      go_wp2_with fail
      refine HT.out.mono ?_
      rintro e w2 ⟨rfl, j, rfl⟩
      go_wp2_with (at_builtin; refine app_text (.tmp 13) (.tmp 16) rfl rfl rfl (HX.out.below (C := wr.heap.size) (by repeat (first | (with_reducible exact Below.refl _ _) | (with_reducible refine Below.allocS ?_ _) | (with_reducible refine Below.moreS ?_ _) | (with_reducible refine Below.drew ?_) | (with_reducible refine below_drewN ?_ _))) (Nat.le_refl _)) rfl (Blk.at_ _ _ _ (by simp)) (by have := HLK.out; have := HL.out; omega) (by have := HB.out.size; simp only [World.size_alloc, World.size_more]; omega) ?_; intro v' w2 hown hbw)
      have hb2 := HB.out.trans ((Below.mono (B := wr.heap.size) (by repeat (first | (with_reducible exact Below.refl _ _) | (with_reducible refine Below.allocS ?_ _) | (with_reducible refine Below.moreS ?_ _) | (with_reducible refine Below.drew ?_) | (with_reducible refine below_drewN ?_ _))) HB.out.size).trans hbw)
      have HB2 := Lib.hid hb2
      have HX2 := Lib.hid hown
      clear hbw hb2 hown
      go_wp2_with fail
      go_roundg (S.length - (k + 1))
      case measure => have := HK.out; omega
      case rel => exact ⟨k + 1, by have := HK.out; omega, by go_num, by rw [HU.out]; exact HX2.out, HB2.out⟩
    · have hk : S.take k = S := List.take_of_length_le (by omega)
      have hlen2 : ∀ x ∈ S.map nameR, x.length ≤ 1000 := by simp only [List.mem_map]; rintro x ⟨f, _, rfl⟩; exact Nat.le_trans (nameR_len f) (by omega)
      have hX := HX.out
      rw [hk] at hX
      obtain ⟨a3, cap3, rfl, hsl⟩ := hX.read (fun x hx => by have := hlen2 x hx; unfold maxLen; omega)
      obtain ⟨_, _, hv, hcap⟩ := hX.cap
      injection hv with e1 e2 e3
      subst e3
      by_cases h0 : S = []
      · have hr : R = [45] := by rw [HW.out, if_pos h0]
        subst h0 hr
        clear hX hsl hlen2 hcap HX hkg hb hk e1 HW HS1 HL
        simp only [List.map_nil, List.length_nil]
        go_wp2_with fail
        go_ret
        exact ⟨rfl, (HB1.out.trans (HB.out.mono HB1.out.size)).junk⟩
      · have hne : ¬ (S.map nameR).length = 0 := by simpa using h0
        have hnb : (((S.map nameR).length : Int) == 0) = false := by rw [beq_eq_false_iff_ne]; omega
        have hR : R = Lib.join (S.map nameR) [44] := by rw [HW.out, if_neg h0]
        have HJ := Lib.hid (strings_joinC 44 a3 cap3 (S.map nameR) wr (by have := HL.out; simp; omega) hlen2 hcap hsl)
        rw [← hR] at HJ
        clear hX hsl hlen2 hcap HX hkg hb hk e1 HW hR h0
        generalize S.map nameR = out at HJ hne hnb
        go_wp2_with fail
        refine HJ.out.mono ?_
        rintro e w2 ⟨rfl, hb3⟩
        have HB3 := Lib.hid ((HB1.out.trans (HB.out.mono HB1.out.size)).trans (hb3.mono (Nat.le_trans HB1.out.size HB.out.size)))
        clear hb3
        go_wp2_with fail
        go_ret
        exact ⟨rfl, HB3.out.junk⟩

set_option maxHeartbeats 8000000 in
set_option maxRecDepth 100000 in
theorem ref38_Show (a : Option Addr) (l : List Int) (cap : Nat) (hl : l.length ≤ 100000) (w : World) (hS : SlI w w.heap.size a l) :
    Calls Tryz.prog 50 #[.slice a l.length cap] w fun e w' => e = .returned (bstr (showR l)) ∧ ∃ j, w' = w.more j := by
  have HO := Lib.hid (ref38_Of a l cap (by omega) w hS)
  have hlen := ofR_len l
  have HW : Hid (showR l = if ofR l = [] then [45] else Lib.join ((ofR l).map nameR) [44]) := rfl
  generalize ofR l = S at HO HW hlen
  generalize showR l = R at HW ⊢
  clear hS
  go_enter Tryz.func50, Tryz.ntmps50
  go_wp2_with fail
  refine HO.out.mono ?_
  rintro e w1 ⟨v1, rfl, ho1, hb1⟩
  obtain ⟨a1, cap1, rfl, hs1⟩ := ho1.readI
  have HS1 := Lib.hid hs1
  have HB1 := Lib.hid hb1
  have HL := Lib.hid hlen
  clear hs1 hb1 ho1
  go_wp2_with fail
  go_loopg [4, 5] S.length (fun g v i wr => ∃ (k : Nat) (acc : List UInt8), k + g = S.length ∧ i = .int .i64 k ∧ v = bstr acc ∧ acc.length ≤ 10 * k + 1 ∧ Hid (acc = if k = 0 then [45] else Lib.join ((S.take k).map nameR) [44]) ∧ ∃ j, wr = w1.more j)
  case atStart => exact ⟨0, [45], by omega, rfl, rfl, by simp, rfl, Below.junk (by repeat (first | (with_reducible exact Below.refl _ _) | (with_reducible refine Below.allocS ?_ _) | (with_reducible refine Below.moreS ?_ _) | (with_reducible refine Below.drew ?_) | (with_reducible refine below_drewN ?_ _)))⟩
  case round =>
    obtain ⟨k, acc, hkg, rfl, rfl, hacc, HA, j, rfl⟩ := hrel
    have HK := Lib.hid hkg
    by_cases hlt : k < S.length
    · obtain ⟨b, off, ha, hbb, c0⟩ := SlR.atI HS1.out hlt
      subst ha
      have HT : Hid (∀ W, Calls Tryz.prog 91 #[.int .i64 S[k]] W fun e w' => e = .returned (bstr (nameR S[k])) ∧ ∃ j, w' = W.more j) := fun W => ref38_Name _ W
      have hlk := nameR_len S[k]
      by_cases hk0 : k = 0
      · subst hk0
        have HU : Hid (nameR S[0] = Lib.join ((S.take 1).map nameR) [44]) := by
          show _ = _
          rw [show S.take 1 = S.take 0 ++ [S[0]] from List.take_succ_eq_append_getElem hlt]
          simp [Lib.join_one]
        generalize nameR S[0] = t at HT HU hlk
        generalize S[0] = x at c0 HT
        rw [Nat.add_zero] at c0
        clear HA hkg
        go_wp2_with fail
        refine (HT.out _).mono ?_
        rintro e w3 ⟨rfl, j3, rfl⟩
        go_wp2_with fail
        go_roundg (S.length - 1)
        case measure => have := HK.out; omega
        case rel => exact ⟨1, t, by have := HK.out; omega, by go_num, by simp, by simp; omega, by show _ = _; rw [HU.out]; rfl, Below.junk (by repeat (first | (with_reducible exact Below.refl _ _) | (with_reducible refine Below.allocS ?_ _) | (with_reducible refine Below.moreS ?_ _) | (with_reducible refine Below.drew ?_) | (with_reducible refine below_drewN ?_ _)))⟩
      · have HU : Hid (acc ++ [44] ++ nameR S[k] = Lib.join ((S.take (k + 1)).map nameR) [44]) := by show _ = _; rw [HA.out, if_neg hk0, ← showR_step S k hlt (by omega)]
        have hkb : ((k : Int) == 0) = false := by rw [beq_eq_false_iff_ne]; omega
        generalize nameR S[k] = t at HT HU hlk
        generalize S[k] = x at c0 HT
        clear HA hkg
        go_wp2_with fail
        refine (HT.out _).mono ?_
        rintro e w3 ⟨rfl, j3, rfl⟩
        go_wp2_with fail
        go_roundg (S.length - (k + 1))
        case measure => have := HK.out; omega
        case rel => exact ⟨k + 1, acc ++ [44] ++ t, by have := HK.out; omega, by go_num, by simp, by simp; omega, by show _ = _; rw [HU.out, if_neg (by omega)], Below.junk (by repeat (first | (with_reducible exact Below.refl _ _) | (with_reducible refine Below.allocS ?_ _) | (with_reducible refine Below.moreS ?_ _) | (with_reducible refine Below.drew ?_) | (with_reducible refine below_drewN ?_ _)))⟩
    · have hr : R = acc := by
        rw [HW.out, HA.out, show k = S.length by omega, List.take_length]
        by_cases hz : S = []
        · rw [if_pos hz, if_pos (by rw [hz]; rfl)]
        · rw [if_neg hz, if_neg (by simpa using hz)]
      subst hr
      clear HA hkg HW
      go_wp2_with fail
      go_ret
      exact ⟨rfl, (HB1.out.trans ((Below.refl w1.heap.size w1).moreS j |>.mono HB1.out.size)).junk⟩
end Go.Proofs.YtbdmepidabnfkaaGreatDoor
/-
  Rules: a text read as a set of them: the program's.
-/
namespace Go.Proofs.YtbdmepidabnfkaaGreatDoor
set_option linter.unusedSimpArgs false
set_option linter.unusedVariables false
set_option linter.unusedSectionVars false
open Go.ChangeShapes Go.WideShapes Go.ChangeAt Go.RowKit Go.Deep Go.Shelf

theorem map_nil_appI (o : Option (List Int)) : o = o.map ([] ++ ·) := by cases o <;> simp
theorem goR_yes {x : List UInt8} {r : List (List UInt8)} {n : Int} {last : Option Int} (h : 0 ≤ idxX rulW x) (hn : idxX rulW x + 1 = n) (ho : okI last n = true) (out : List Int) : (goR (x :: r) last).map (out ++ ·) = (goR r (some n)).map ((out ++ [n]) ++ ·) := by
  subst hn
  rw [goR, if_pos ⟨h, ho⟩]
  cases goR r (some (idxX rulW x + 1)) <;> simp
theorem goR_no {x : List UInt8} {r : List (List UInt8)} {last : Option Int} (h : ¬ (0 ≤ idxX rulW x ∧ okI last (idxX rulW x + 1) = true)) : goR (x :: r) last = none := by
  rw [goR, if_neg h]
theorem nil_or_snocI (l : List Int) : l = [] ∨ ∃ i y, l = i ++ [y] := by
  rcases List.eq_nil_or_concat l with h | ⟨i, y, h⟩
  · exact .inl h
  · exact .inr ⟨i, y, by rw [h, List.concat_eq_append]⟩
theorem last_snocI (l : List Int) (f : Int) : (l ++ [f]).getLast? = some f := by simp

end Go.Proofs.YtbdmepidabnfkaaGreatDoor
/-
  Rules: a text read as a set of them: the document's.
-/
namespace Go.Proofs.YtbdmepidabnfkaaGreatDoor
set_option linter.unusedSimpArgs false
set_option linter.unusedVariables false
set_option linter.unusedSectionVars false
open Go.ChangeShapes Go.WideShapes Go.ChangeAt Go.RowKit Go.Deep Go.Shelf

def tailR (s : List UInt8) (k fr : Nat) : List (List UInt8) := if k ≤ s.length then preF ((s.drop fr).take (k - fr)) (cutF 44 (s.drop k)) else []
theorem pre_nilR (c : UInt8) (s : List UInt8) : preF [] (cutF c s) = cutF c s := by obtain ⟨a, t, e⟩ := cut_ne c s; rw [e]; rfl
theorem tailR_zero (s : List UInt8) : tailR s 0 0 = cutF 44 s := by unfold tailR; rw [if_pos (Nat.zero_le _)]; simp [pre_nilR]
theorem tailR_skip {s : List UInt8} {k fr : Nat} (hlt : k < s.length) (hf : fr ≤ k) (hc : s[k] ≠ 44) : tailR s k fr = tailR s (k + 1) fr := by
  unfold tailR
  rw [if_pos (by omega), if_pos (by omega), List.drop_eq_getElem_cons hlt, cutF, if_neg hc, pre_pre]
  congr 1
  rw [show k + 1 - fr = (k - fr) + 1 by omega, List.take_succ_eq_append_getElem (by simp; omega)]
  simp [show fr + (k - fr) = k by omega]
theorem tailR_cut {s : List UInt8} {k fr : Nat} (hk : k ≤ s.length) (hc : ∀ h : k < s.length, s[k] = 44) : tailR s k fr = (s.drop fr).take (k - fr) :: tailR s (k + 1) (k + 1) := by
  unfold tailR
  rw [if_pos hk]
  by_cases hlt : k < s.length
  · rw [List.drop_eq_getElem_cons hlt, cutF, if_pos (hc hlt), if_pos (by omega), Nat.sub_self, List.take_zero, pre_nilR]
    simp [preF]
  · have e : s.drop k = [] := List.drop_of_length_le (by omega)
    rw [e, if_neg (by omega)]; simp [cutF, preF]

end Go.Proofs.YtbdmepidabnfkaaGreatDoor
