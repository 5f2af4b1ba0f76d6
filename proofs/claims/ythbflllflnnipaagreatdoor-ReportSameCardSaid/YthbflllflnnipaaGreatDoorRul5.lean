/-
  Rules: a set's names as a text: both roads.
-/
import Derived.Test.YthbflllflnnipaaGreatDoorRul4
import Derived.Test.YthbflllflnnipaaGreatDoorFlt10
namespace Go.Proofs.YthbflllflnnipaaGreatDoor
set_option linter.unusedSimpArgs false
set_option linter.unusedVariables false
set_option linter.unusedSectionVars false
open Go.ChangeShapes Go.WideShapes Go.ChangeAt Go.RowKit Go.Deep Go.Shelf

set_option maxHeartbeats 8000000 in
set_option maxRecDepth 100000 in
theorem rules_Show (a : Option Addr) (l : List Int) (cap : Nat) (hl : l.length ≤ 100000) (m : Int) (w : World) (hM : w.cell? MaxA = some (.int .i64 m)) (hS : SlI w w.heap.size a l) :
    Calls Tryz.prog 24 #[.slice a l.length cap] w fun e w' => e = .returned (bstr (showR l)) ∧ ∃ j, w' = w.more j := by
  have HO := Lib.hid (rules_Of a l cap (by omega) m w hM hS)
  have hlen := ofR_len l
  have HW : Hid (showR l = if ofR l = [] then [45] else Lib.join ((ofR l).map nameR) [44]) := rfl
  have HM : Hid (∀ W, Below w.heap.size w W → W.cell? MaxA = some (.int .i64 m)) := fun W hW => max_keep hM hW
  generalize ofR l = S at HO HW hlen
  generalize showR l = R at HW ⊢
  clear hS hM
  go_enter Tryz.func24, Tryz.ntmps24
  go_wp2_with fail
  refine HO.out.mono ?_
  rintro e w1 ⟨v1, rfl, ho1, hb1⟩
  obtain ⟨a1, cap1, rfl, hs1⟩ := ho1.readI
  have HS1 := Lib.hid hs1
  have HB1 := Lib.hid hb1
  have HL := Lib.hid hlen
  clear hs1 hb1 ho1
  go_wp2_with fail
  go_loopg [3, 9] S.length (fun g v i wr => ∃ k : Nat, k + g = S.length ∧ i = .int .i64 k ∧ OwnX w1.heap.size wr v ((S.take k).map nameR) ∧ Below w1.heap.size w1 wr)
  case atStart => exact ⟨0, by omega, rfl, OwnX.nil _ _, Below.refl _ _⟩
  case round =>
    obtain ⟨k, hkg, rfl, HX, hb⟩ := hrel
    have HX := Lib.hid HX
    have HB := Lib.hid hb
    have HK := Lib.hid hkg
    by_cases hlt : k < S.length
    · obtain ⟨b, off, ha, hbb, c00⟩ := SlR.atI HS1.out hlt
      subst ha
      have c0 : wr.cell? ⟨b, off + k, none⟩ = some (.int .i64 S[k]) := (hb.cell (p := ⟨b, off + k, none⟩) hbb).trans c00
      have hbx : b < wr.heap.size := Nat.lt_of_lt_of_le hbb hb.size
      have HT : Hid (Calls Tryz.prog 69 #[.int .i64 S[k]] wr fun e w' => e = .returned (bstr (nameR S[k])) ∧ ∃ j', w' = wr.more j') := rules_Name _ m wr (HM.out _ (HB1.out.trans (hb.mono HB1.out.size)))
      have hU : (S.take (k + 1)).map nameR = (S.take k).map nameR ++ [nameR S[k]] := by rw [List.take_add_one, List.getElem?_eq_getElem hlt, List.map_append]; rfl
      have hlk : ((S.take k).map nameR).length ≤ k := by simp; omega
      have HU := Lib.hid hU
      clear hU
      generalize S[k] = x at c0 HT HU
      generalize nameR x = t at HT HU
      generalize (S.take k).map nameR = out at HX HU hlk
      have HLK := Lib.hid hlk
      clear c00 hb hkg hlk
      go_wp2_with fail
      refine HT.out.mono ?_
      rintro e w2 ⟨rfl, j, rfl⟩
      go_wp2_with (at_builtin; refine app_text (.tmp 13) (.tmp 16) rfl rfl rfl (HX.out.below (C := wr.heap.size) (by repeat (first | (with_reducible exact Below.refl _ _) | (with_reducible refine Below.allocS ?_ _) | (with_reducible refine Below.moreS ?_ _) | (with_reducible refine Below.drew ?_) | (with_reducible refine below_drewN ?_ _))) (Nat.le_refl _)) rfl (Blk.at_ _ _ _ (by simp)) (by have := HLK.out; have := HL.out; omega) (by have := HB.out.size; simp only [World.size_alloc, World.size_more]; omega) ?_; intro v' w2 hown hbw)
      have hb2 := HB.out.trans ((Below.mono (B := wr.heap.size) (by repeat (first | (with_reducible exact Below.refl _ _) | (with_reducible refine Below.allocS ?_ _) | (with_reducible refine Below.moreS ?_ _) | (with_reducible refine Below.drew ?_) | (with_reducible refine below_drewN ?_ _))) HB.out.size).trans hbw)
      have HB2 := Lib.hid hb2
      have HX2 := Lib.hid hown
      clear hbw hb2 hown
      go_wp2_with fail
      go_roundg (S.length - (k + 1))
      case measure => have := HK.out; omega
      case rel => exact ⟨k + 1, by have := HK.out; omega, by go_num, by rw [HU.out]; exact HX2.out, HB2.out⟩
    · have hk : S.take k = S := List.take_of_length_le (by omega)
      have hlen2 : ∀ x ∈ S.map nameR, x.length ≤ 1000 := by simp only [List.mem_map]; rintro x ⟨f, _, rfl⟩; exact Nat.le_trans (nameR_len f) (by omega)
      have hX := HX.out
      rw [hk] at hX
      obtain ⟨a3, cap3, rfl, hsl⟩ := hX.read (fun x hx => by have := hlen2 x hx; unfold maxLen; omega)
      obtain ⟨_, _, hv, hcap⟩ := hX.cap
      injection hv with e1 e2 e3
      subst e3
      by_cases h0 : S = []
      · have hr : R = [45] := by rw [HW.out, if_pos h0]
        subst h0 hr
        clear hX hsl hlen2 hcap HX hkg hb hk e1 HW HS1 HL
        simp only [List.map_nil, List.length_nil]
        go_wp2_with fail
        go_ret
        exact ⟨rfl, (HB1.out.trans (HB.out.mono HB1.out.size)).junk⟩
      · have hne : ¬ (S.map nameR).length = 0 := by simpa using h0
        have hnb : (((S.map nameR).length : Int) == 0) = false := by rw [beq_eq_false_iff_ne]; omega
        have hR : R = Lib.join (S.map nameR) [44] := by rw [HW.out, if_neg h0]
        have HJ := Lib.hid (strings_joinC 44 a3 cap3 (S.map nameR) wr (by have := HL.out; simp; omega) hlen2 hcap hsl)
        rw [← hR] at HJ
        clear hX hsl hlen2 hcap HX hkg hb hk e1 HW hR h0
        generalize S.map nameR = out at HJ hne hnb
        go_wp2_with fail
        refine HJ.out.mono ?_
        rintro e w2 ⟨rfl, hb3⟩
        have HB3 := Lib.hid ((HB1.out.trans (HB.out.mono HB1.out.size)).trans (hb3.mono (Nat.le_trans HB1.out.size HB.out.size)))
        clear hb3
        go_wp2_with fail
        go_ret
        exact ⟨rfl, HB3.out.junk⟩

set_option maxHeartbeats 8000000 in
set_option maxRecDepth 100000 in
theorem ref38_Show (a : Option Addr) (l : List Int) (cap : Nat) (hl : l.length ≤ 100000) (w : World) (hS : SlI w w.heap.size a l) :
    Calls Tryz.prog 50 #[.slice a l.length cap] w fun e w' => e = .returned (bstr (showR l)) ∧ ∃ j, w' = w.more j := by
  have HO := Lib.hid (ref38_Of a l cap (by omega) w hS)
  have hlen := ofR_len l
  have HW : Hid (showR l = if ofR l = [] then [45] else Lib.join ((ofR l).map nameR) [44]) := rfl
  generalize ofR l = S at HO HW hlen
  generalize showR l = R at HW ⊢
  clear hS
  go_enter Tryz.func50, Tryz.ntmps50
  go_wp2_with fail
  refine HO.out.mono ?_
  rintro e w1 ⟨v1, rfl, ho1, hb1⟩
  obtain ⟨a1, cap1, rfl, hs1⟩ := ho1.readI
  have HS1 := Lib.hid hs1
  have HB1 := Lib.hid hb1
  have HL := Lib.hid hlen
  clear hs1 hb1 ho1
  go_wp2_with fail
  go_loopg [4, 5] S.length (fun g v i wr => ∃ (k : Nat) (acc : List UInt8), k + g = S.length ∧ i = .int .i64 k ∧ v = bstr acc ∧ acc.length ≤ 10 * k + 1 ∧ Hid (acc = if k = 0 then [45] else Lib.join ((S.take k).map nameR) [44]) ∧ ∃ j, wr = w1.more j)
  case atStart => exact ⟨0, [45], by omega, rfl, rfl, by simp, rfl, Below.junk (by repeat (first | (with_reducible exact Below.refl _ _) | (with_reducible refine Below.allocS ?_ _) | (with_reducible refine Below.moreS ?_ _) | (with_reducible refine Below.drew ?_) | (with_reducible refine below_drewN ?_ _)))⟩
  case round =>
    obtain ⟨k, acc, hkg, rfl, rfl, hacc, HA, j, rfl⟩ := hrel
    have HK := Lib.hid hkg
    by_cases hlt : k < S.length
    · obtain ⟨b, off, ha, hbb, c0⟩ := SlR.atI HS1.out hlt
      subst ha
      have HT : Hid (∀ W, Calls Tryz.prog 91 #[.int .i64 S[k]] W fun e w' => e = .returned (bstr (nameR S[k])) ∧ ∃ j, w' = W.more j) := fun W => ref38_Name _ W
      have hlk := nameR_len S[k]
      by_cases hk0 : k = 0
      · subst hk0
        have HU : Hid (nameR S[0] = Lib.join ((S.take 1).map nameR) [44]) := by
          show _ = _
          rw [show S.take 1 = S.take 0 ++ [S[0]] from List.take_succ_eq_append_getElem hlt]
          simp [Lib.join_one]
        generalize nameR S[0] = t at HT HU hlk
        generalize S[0] = x at c0 HT
        rw [Nat.add_zero] at c0
        clear HA hkg
        go_wp2_with fail
        refine (HT.out _).mono ?_
        rintro e w3 ⟨rfl, j3, rfl⟩
        go_wp2_with fail
        go_roundg (S.length - 1)
        case measure => have := HK.out; omega
        case rel => exact ⟨1, t, by have := HK.out; omega, by go_num, by simp, by simp; omega, by show _ = _; rw [HU.out]; rfl, Below.junk (by repeat (first | (with_reducible exact Below.refl _ _) | (with_reducible refine Below.allocS ?_ _) | (with_reducible refine Below.moreS ?_ _) | (with_reducible refine Below.drew ?_) | (with_reducible refine below_drewN ?_ _)))⟩
      · have HU : Hid (acc ++ [44] ++ nameR S[k] = Lib.join ((S.take (k + 1)).map nameR) [44]) := by show _ = _; rw [HA.out, if_neg hk0, ← showR_step S k hlt (by omega)]
        have hkb : ((k : Int) == 0) = false := by rw [beq_eq_false_iff_ne]; omega
        generalize nameR S[k] = t at HT HU hlk
        generalize S[k] = x at c0 HT
        clear HA hkg
        go_wp2_with fail
        refine (HT.out _).mono ?_
        rintro e w3 ⟨rfl, j3, rfl⟩
        go_wp2_with fail
        go_roundg (S.length - (k + 1))
        case measure => have := HK.out; omega
        case rel => exact ⟨k + 1, acc ++ [44] ++ t, by have := HK.out; omega, by go_num, by simp, by simp; omega, by show _ = _; rw [HU.out, if_neg (by omega)], Below.junk (by repeat (first | (with_reducible exact Below.refl _ _) | (with_reducible refine Below.allocS ?_ _) | (with_reducible refine Below.moreS ?_ _) | (with_reducible refine Below.drew ?_) | (with_reducible refine below_drewN ?_ _)))⟩
    · have hr : R = acc := by
        rw [HW.out, HA.out, show k = S.length by omega, List.take_length]
        by_cases hz : S = []
        · rw [if_pos hz, if_pos (by rw [hz]; rfl)]
        · rw [if_neg hz, if_neg (by simpa using hz)]
      subst hr
      clear HA hkg HW
      go_wp2_with fail
      go_ret
      exact ⟨rfl, (HB1.out.trans ((Below.refl w1.heap.size w1).moreS j |>.mono HB1.out.size)).junk⟩
end Go.Proofs.YthbflllflnnipaaGreatDoor
