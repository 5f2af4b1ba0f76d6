/-
  Rules and faults: a text read as a set of them, the document's; the row is new. (Printed by mk_repm.py.)
-/
import Derived.Test.YtbdmepidabnfkaaGreatDoorRepN
import Derived.Test.YtbdmepidabnfkaaGreatDoorMi
import Derived.Test.YtbdmepidabnfkaaGreatDoorMj
namespace Go.Proofs.YtbdmepidabnfkaaGreatDoor
set_option linter.unusedSimpArgs false
set_option linter.unusedVariables false
set_option linter.unusedSectionVars false
open Go.ChangeShapes Go.WideShapes Go.ChangeAt Go.RowKit Go.Deep Go.Shelf

set_option maxHeartbeats 8000000 in
set_option maxRecDepth 100000 in
theorem ref09_ReadSetN (s : List UInt8) (hm : s.length ≤ 90000) (w : World) :
    Calls Tryz.prog 56 #[bstr s] w fun e w' => ∃ a cap, e = .returned (.tuple #[.slice a (setW s).1.length cap, .bool (setW s).2]) ∧ SlFl w' w'.heap.size a (setW s).1 ∧ (∀ p, a = some p → w.heap.size ≤ p.block) ∧ Below w.heap.size w w' := by
  by_cases h0 : s = [45]
  · subst h0
    have hr : setW [45] = ([], true) := by unfold setW; rw [if_pos rfl]
    rw [hr]
    clear hr
    go_enter Tryz.func56, Tryz.ntmps56
    go_wp2_with fail
    go_ret2
    exact ⟨none, 0, rfl, .nil, none_new, Below.refl _ _⟩
  have hne : (s == ([45] : List UInt8)) = false := by rw [beq_eq_false_iff_ne]; exact h0
  have HS : Hid (setW s = endD s (tailD s 0 0)) := setW_tail h0
  clear h0
  generalize setW s = R at HS ⊢
  obtain ⟨r1, r2⟩ := R
  go_enter Tryz.func56, Tryz.ntmps56
  go_wp2_with fail
  go_loopg [4, 5, 6] (s.length + 1) (fun g v f i wr => ∃ (k fr : Nat) (out : List Fl), k + g = s.length + 1 ∧ i = .int .i64 k ∧ f = .int .i64 fr ∧ fr ≤ k ∧ out.length ≤ k ∧ OwnFl w.heap.size wr v out ∧ Below w.heap.size w wr ∧ Hid (tailD s 0 0 = (tailD s k fr).map (out ++ ·)))
  case atStart => exact ⟨0, 0, [], by omega, rfl, rfl, Nat.le_refl _, by simp, OwnC.nil _ _, Below.refl _ _, by show _ = _; exact map_nil_appD _⟩
  case round =>
    obtain ⟨k, fr, out, hkg, rfl, rfl, hfk, hok, HO, hb, HU⟩ := hrel
    have HO := Lib.hid HO
    have HB := Lib.hid hb
    have HK := Lib.hid hkg
    by_cases hle : k ≤ s.length
    · have hle' : (k : Int) ≤ s.length := by omega
      have hfk' : (fr : Int) ≤ k := by omega
      by_cases hskip : ∃ h : k < s.length, s[k] ≠ 44
      · obtain ⟨hlt, hne4⟩ := hskip
        have hc : ((s[k].toNat : Int) != 44) = true := by
          rw [bne_iff_ne]; intro h; exact hne4 (UInt8.toNat_inj.1 (by show s[k].toNat = 44; omega))
        have hc2 : ((s[k].toNat : Int) == 44) = false := by
          rw [beq_eq_false_iff_ne]; intro h; exact hne4 (UInt8.toNat_inj.1 (by show s[k].toNat = 44; omega))
        have HU2 : Hid (tailD s 0 0 = (tailD s (k + 1) fr).map (out ++ ·)) := by show _ = _; rw [HU.out, tailD_skip hlt hfk hne4]
        clear hne4 hkg hb HU
        go_wp2_with fail
        go_roundg (s.length + 1 - (k + 1))
        case measure => have := HK.out; omega
        case rel => exact ⟨k + 1, fr, out, by have := HK.out; omega, by go_num, rfl, by omega, by omega, HO.out, HB.out, HU2⟩
      · have hc : ∀ h : k < s.length, s[k] = 44 := fun h => Decidable.byContradiction fun hn => hskip ⟨h, hn⟩
        obtain ⟨rr, ht1, ht2⟩ := tailD_cut (fr := fr) hle hc
        have hX : ((s.drop fr).take (k - fr)).length ≤ 1000000 := by simp; omega
        have HRD : Hid (∀ W, Calls Tryz.prog 96 #[bstr ((s.drop fr).take (k - fr))] W fun e w' => e = .returned (.tuple #[.agg #[.int .i64 (readW ((s.drop fr).take (k - fr))).1.scope, .int .i64 (readW ((s.drop fr).take (k - fr))).1.code], .bool (readW ((s.drop fr).take (k - fr))).2]) ∧ ∃ j, w' = W.more j) := fun W => ref09_Read _ hX W
        have HY : Hid (∀ f, readW ((s.drop fr).take (k - fr)) = (f, true) → tailD s 0 0 = (tailD s (k + 1) (k + 1)).map ((out ++ [f]) ++ ·)) := fun f h => by rw [HU.out, ht1, allD_yes h, ht2]
        have HN : Hid ((readW ((s.drop fr).take (k - fr))).2 = false → (r1, r2) = ([], false)) := fun h => by rw [HS.out, HU.out, ht1, allD_no h]; rfl
        clear ht1 ht2 HU hskip hX
        generalize readW ((s.drop fr).take (k - fr)) = V at HRD HY HN
        obtain ⟨⟨fs, fc⟩, is⟩ := V
        simp only at HRD HN
        have hcase : k < s.length ∨ ¬ k < s.length := Decidable.em _
        have HOK := Lib.hid hok
        have HFK := Lib.hid hfk
        rcases hcase with hlt | hlt
        · have hc4 := hc hlt
          have hc : ((s[k].toNat : Int) != 44) = false := by rw [hc4]; rfl
          have hc2 : ((s[k].toNat : Int) == 44) = true := by rw [hc4]; rfl
          clear hc4
          cases is
          · have hr := HN.out rfl
            obtain ⟨rfl, rfl⟩ := Prod.mk.inj hr
            clear hr HN HY hkg hb
            go_wp2_with fail
            refine (HRD.out _).mono ?_
            rintro e w' ⟨rfl, j, rfl⟩
            go_wp2_with fail
            go_ret2
            exact ⟨none, 0, rfl, .nil, none_new, HB.out.trans (Below.mono (B := wr.heap.size) (by repeat (first | (with_reducible exact Below.refl _ _) | (with_reducible refine Below.allocS ?_ _) | (with_reducible refine Below.moreS ?_ _) | (with_reducible refine Below.drew ?_) | (with_reducible refine below_drewN ?_ _))) HB.out.size)⟩
          · have HU2 := Lib.hid (HY.out ⟨fs, fc⟩ rfl)
            clear HN HY hkg hb
            go_wp2_with fail
            refine (HRD.out _).mono ?_
            rintro e w' ⟨rfl, j, rfl⟩
            go_wp2_with (at_builtin; refine app_c (y := ⟨fs, fc⟩) st_fl flC_len flC_one (by omega) (.tmp 37) (.tmp 39) rfl rfl rfl (HO.out.below (C := wr.heap.size) (by repeat (first | (with_reducible exact Below.refl _ _) | (with_reducible refine Below.allocS ?_ _) | (with_reducible refine Below.moreS ?_ _) | (with_reducible refine Below.drew ?_) | (with_reducible refine below_drewN ?_ _))) (Nat.le_refl _)) rfl (Blk.at_ _ _ _ (by simp)) rfl (by have := HOK.out; omega) (by have := HB.out.size; simp only [World.size_alloc, World.size_more]; omega) ?_; intro v' w2 hown hbw)
            have hb2 := HB.out.trans ((Below.mono (B := wr.heap.size) (by repeat (first | (with_reducible exact Below.refl _ _) | (with_reducible refine Below.allocS ?_ _) | (with_reducible refine Below.moreS ?_ _) | (with_reducible refine Below.drew ?_) | (with_reducible refine below_drewN ?_ _))) HB.out.size).trans hbw)
            have HB2 := Lib.hid hb2
            have HO2 := Lib.hid hown
            clear hbw hb2 hown
            go_wp2_with fail
            go_roundg (s.length + 1 - (k + 1))
            case measure => have := HK.out; omega
            case rel => exact ⟨k + 1, k + 1, out ++ [⟨fs, fc⟩], by have := HK.out; omega, by go_num, by go_num, Nat.le_refl _, by have := HOK.out; simp; omega, HO2.out, HB2.out, HU2⟩
        · clear hc
          cases is
          · have hr := HN.out rfl
            obtain ⟨rfl, rfl⟩ := Prod.mk.inj hr
            clear hr HN HY hkg hb
            go_wp2_with fail
            refine (HRD.out _).mono ?_
            rintro e w' ⟨rfl, j, rfl⟩
            go_wp2_with fail
            go_ret2
            exact ⟨none, 0, rfl, .nil, none_new, HB.out.trans (Below.mono (B := wr.heap.size) (by repeat (first | (with_reducible exact Below.refl _ _) | (with_reducible refine Below.allocS ?_ _) | (with_reducible refine Below.moreS ?_ _) | (with_reducible refine Below.drew ?_) | (with_reducible refine below_drewN ?_ _))) HB.out.size)⟩
          · have HU2 := Lib.hid (HY.out ⟨fs, fc⟩ rfl)
            clear HN HY hkg hb
            go_wp2_with fail
            refine (HRD.out _).mono ?_
            rintro e w' ⟨rfl, j, rfl⟩
            go_wp2_with (at_builtin; refine app_c (y := ⟨fs, fc⟩) st_fl flC_len flC_one (by omega) (.tmp 37) (.tmp 39) rfl rfl rfl (HO.out.below (C := wr.heap.size) (by repeat (first | (with_reducible exact Below.refl _ _) | (with_reducible refine Below.allocS ?_ _) | (with_reducible refine Below.moreS ?_ _) | (with_reducible refine Below.drew ?_) | (with_reducible refine below_drewN ?_ _))) (Nat.le_refl _)) rfl (Blk.at_ _ _ _ (by simp)) rfl (by have := HOK.out; omega) (by have := HB.out.size; simp only [World.size_alloc, World.size_more]; omega) ?_; intro v' w2 hown hbw)
            have hb2 := HB.out.trans ((Below.mono (B := wr.heap.size) (by repeat (first | (with_reducible exact Below.refl _ _) | (with_reducible refine Below.allocS ?_ _) | (with_reducible refine Below.moreS ?_ _) | (with_reducible refine Below.drew ?_) | (with_reducible refine below_drewN ?_ _))) HB.out.size).trans hbw)
            have HB2 := Lib.hid hb2
            have HO2 := Lib.hid hown
            clear hbw hb2 hown
            go_wp2_with fail
            go_roundg (s.length + 1 - (k + 1))
            case measure => have := HK.out; omega
            case rel => exact ⟨k + 1, k + 1, out ++ [⟨fs, fc⟩], by have := HK.out; omega, by go_num, by go_num, Nat.le_refl _, by have := HOK.out; simp; omega, HO2.out, HB2.out, HU2⟩
    · have hT : tailD s 0 0 = some out := by rw [HU.out]; unfold tailD; rw [if_neg hle]; simp
      have HR : Hid ((r1, r2) = if showW out = s then (out, true) else ([], false)) := by show _ = _; rw [HS.out, hT]; rfl
      have hoL : out.length ≤ 100000 := by have := HK.out; omega
      have hle' : ¬ (k : Int) ≤ s.length := by omega
      obtain ⟨a3, cap3, rfl, hsl⟩ := HO.out.read flC_len
      have HSH := Lib.hid (ref09_Show a3 out cap3 hoL wr hsl)
      have HSL := Lib.hid hsl
      have HNW := Lib.hid (own_new HO.out (Nat.le_refl w.heap.size))
      clear hT HS HU HO hsl hoL hb hkg hok hle
      generalize showW out = T at HR HSH
      cases e1 : (T == s)
      · have hr : (r1, r2) = ([], false) := by rw [HR.out, if_neg (by intro h; rw [h] at e1; simp at e1)]
        obtain ⟨rfl, rfl⟩ := Prod.mk.inj hr
        have e2 : (T != s) = true := by unfold bne; rw [e1]; rfl
        clear hr HR
        go_wp2_with fail
        refine HSH.out.mono ?_
        rintro e w' ⟨rfl, j, rfl⟩
        go_wp2_with fail
        go_ret2
        exact ⟨none, 0, rfl, .nil, none_new, HB.out.trans (Below.mono (B := wr.heap.size) (by repeat (first | (with_reducible exact Below.refl _ _) | (with_reducible refine Below.allocS ?_ _) | (with_reducible refine Below.moreS ?_ _) | (with_reducible refine Below.drew ?_) | (with_reducible refine below_drewN ?_ _))) HB.out.size)⟩
      · have hr : (r1, r2) = (out, true) := by rw [HR.out, if_pos (eq_of_beq e1)]
        obtain ⟨rfl, rfl⟩ := Prod.mk.inj hr
        have e2 : (T != s) = false := by unfold bne; rw [e1]; rfl
        clear hr HR
        go_wp2_with fail
        refine HSH.out.mono ?_
        rintro e w' ⟨rfl, j, rfl⟩
        go_wp2_with fail
        go_ret2
        exact ⟨_, _, rfl, (HSL.out.below (C := wr.heap.size) (by repeat (first | (with_reducible exact Below.refl _ _) | (with_reducible refine Below.allocS ?_ _) | (with_reducible refine Below.moreS ?_ _) | (with_reducible refine Below.drew ?_) | (with_reducible refine below_drewN ?_ _))) (Nat.le_refl _)).mono (by simp) (fun _ _ _ h => h), HNW.out, HB.out.trans (Below.mono (B := wr.heap.size) (by repeat (first | (with_reducible exact Below.refl _ _) | (with_reducible refine Below.allocS ?_ _) | (with_reducible refine Below.moreS ?_ _) | (with_reducible refine Below.drew ?_) | (with_reducible refine below_drewN ?_ _))) HB.out.size)⟩
set_option maxHeartbeats 8000000 in
set_option maxRecDepth 100000 in
theorem ref38_ReadSetN (s : List UInt8) (hm : s.length ≤ 90000) (w : World) :
    Calls Tryz.prog 57 #[bstr s] w fun e w' => ∃ a cap, e = .returned (.tuple #[.slice a (setRD s).1.length cap, .bool (setRD s).2]) ∧ SlI w' w'.heap.size a (setRD s).1 ∧ (∀ p, a = some p → w.heap.size ≤ p.block) ∧ Below w.heap.size w w' := by
  have HS : Hid (setRD s = if s = [45] then ([], true) else if showR ((cutF 44 s).map numR) = s then (ofR ((cutF 44 s).map numR), true) else ([], false)) := rfl
  generalize setRD s = R at HS ⊢
  obtain ⟨r1, r2⟩ := R
  go_enter Tryz.func57, Tryz.ntmps57
  go_wp2_with fail
  go_loopg [4, 5, 6] (s.length + 1) (fun g v f i wr => ∃ (k fr : Nat) (out : List Int), k + g = s.length + 1 ∧ i = .int .i64 k ∧ f = .int .i64 fr ∧ fr ≤ k ∧ out.length ≤ k ∧ OwnI w.heap.size wr v out ∧ Below w.heap.size w wr ∧ Hid ((cutF 44 s).map numR = out ++ (tailR s k fr).map numR))
  case atStart => exact ⟨0, 0, [], by omega, rfl, rfl, Nat.le_refl _, by simp, OwnC.nil _ _, Below.refl _ _, by show _ = _; rw [tailR_zero]; rfl⟩
  case round =>
    obtain ⟨k, fr, out, hkg, rfl, rfl, hfk, hok, HO, hb, HU⟩ := hrel
    have HO := Lib.hid HO
    have HB := Lib.hid hb
    have HK := Lib.hid hkg
    by_cases hle : k ≤ s.length
    · have hle' : (k : Int) ≤ s.length := by omega
      have hfk' : (fr : Int) ≤ k := by omega
      by_cases hskip : ∃ h : k < s.length, s[k] ≠ 44
      · obtain ⟨hlt, hne4⟩ := hskip
        have hc : ((s[k].toNat : Int) != 44) = true := by
          rw [bne_iff_ne]; intro h; exact hne4 (UInt8.toNat_inj.1 (by show s[k].toNat = 44; omega))
        have hc2 : ((s[k].toNat : Int) == 44) = false := by
          rw [beq_eq_false_iff_ne]; intro h; exact hne4 (UInt8.toNat_inj.1 (by show s[k].toNat = 44; omega))
        have HU2 : Hid ((cutF 44 s).map numR = out ++ (tailR s (k + 1) fr).map numR) := by show _ = _; rw [HU.out, tailR_skip hlt hfk hne4]
        clear hne4 hkg hb HU
        go_wp2_with fail
        go_roundg (s.length + 1 - (k + 1))
        case measure => have := HK.out; omega
        case rel => exact ⟨k + 1, fr, out, by have := HK.out; omega, by go_num, rfl, by omega, by omega, HO.out, HB.out, HU2⟩
      · have hc : ∀ h : k < s.length, s[k] = 44 := fun h => Decidable.byContradiction fun hn => hskip ⟨h, hn⟩
        have ht := tailR_cut (fr := fr) hle hc
        have HRD : Hid (∀ W, Calls Tryz.prog 97 #[bstr ((s.drop fr).take (k - fr))] W fun e w' => e = .returned (.tuple #[.int .i64 (numR ((s.drop fr).take (k - fr))), .bool (decide (0 ≤ idxX rulW ((s.drop fr).take (k - fr))))]) ∧ ∃ j, w' = W.more j) := fun W => ref38_ByName _ W
        have HU2 : Hid ((cutF 44 s).map numR = (out ++ [numR ((s.drop fr).take (k - fr))]) ++ (tailR s (k + 1) (k + 1)).map numR) := by show _ = _; rw [HU.out, ht, List.map_cons, List.append_assoc]; rfl
        generalize decide (0 ≤ idxX rulW ((s.drop fr).take (k - fr))) = is at HRD
        generalize numR ((s.drop fr).take (k - fr)) = n at HRD HU2
        clear ht HU hskip
        have hcase : k < s.length ∨ ¬ k < s.length := Decidable.em _
        have HOK := Lib.hid hok
        have HFK := Lib.hid hfk
        rcases hcase with hlt | hlt
        · have hc4 := hc hlt
          have hc : ((s[k].toNat : Int) != 44) = false := by rw [hc4]; rfl
          have hc2 : ((s[k].toNat : Int) == 44) = true := by rw [hc4]; rfl
          clear hc4 hkg hb
          go_wp2_with fail
          refine (HRD.out _).mono ?_
          rintro e w' ⟨rfl, j, rfl⟩
          go_wp2_with (at_builtin; refine app_c (y := n) st_ints intC_len intC_one (by omega) (.tmp 33) (.tmp 35) rfl rfl rfl (HO.out.below (C := wr.heap.size) (by repeat (first | (with_reducible exact Below.refl _ _) | (with_reducible refine Below.allocS ?_ _) | (with_reducible refine Below.moreS ?_ _) | (with_reducible refine Below.drew ?_) | (with_reducible refine below_drewN ?_ _))) (Nat.le_refl _)) rfl (Blk.at_ _ _ _ (by simp)) rfl (by have := HOK.out; omega) (by have := HB.out.size; simp only [World.size_alloc, World.size_more]; omega) ?_; intro v' w2 hown hbw)
          have hb2 := HB.out.trans ((Below.mono (B := wr.heap.size) (by repeat (first | (with_reducible exact Below.refl _ _) | (with_reducible refine Below.allocS ?_ _) | (with_reducible refine Below.moreS ?_ _) | (with_reducible refine Below.drew ?_) | (with_reducible refine below_drewN ?_ _))) HB.out.size).trans hbw)
          have HB2 := Lib.hid hb2
          have HO2 := Lib.hid hown
          clear hbw hb2 hown
          go_wp2_with fail
          go_roundg (s.length + 1 - (k + 1))
          case measure => have := HK.out; omega
          case rel => exact ⟨k + 1, k + 1, out ++ [n], by have := HK.out; omega, by go_num, by go_num, Nat.le_refl _, by have := HOK.out; simp; omega, HO2.out, HB2.out, HU2⟩
        · clear hc hkg hb
          go_wp2_with fail
          refine (HRD.out _).mono ?_
          rintro e w' ⟨rfl, j, rfl⟩
          go_wp2_with (at_builtin; refine app_c (y := n) st_ints intC_len intC_one (by omega) (.tmp 33) (.tmp 35) rfl rfl rfl (HO.out.below (C := wr.heap.size) (by repeat (first | (with_reducible exact Below.refl _ _) | (with_reducible refine Below.allocS ?_ _) | (with_reducible refine Below.moreS ?_ _) | (with_reducible refine Below.drew ?_) | (with_reducible refine below_drewN ?_ _))) (Nat.le_refl _)) rfl (Blk.at_ _ _ _ (by simp)) rfl (by have := HOK.out; omega) (by have := HB.out.size; simp only [World.size_alloc, World.size_more]; omega) ?_; intro v' w2 hown hbw)
          have hb2 := HB.out.trans ((Below.mono (B := wr.heap.size) (by repeat (first | (with_reducible exact Below.refl _ _) | (with_reducible refine Below.allocS ?_ _) | (with_reducible refine Below.moreS ?_ _) | (with_reducible refine Below.drew ?_) | (with_reducible refine below_drewN ?_ _))) HB.out.size).trans hbw)
          have HB2 := Lib.hid hb2
          have HO2 := Lib.hid hown
          clear hbw hb2 hown
          go_wp2_with fail
          go_roundg (s.length + 1 - (k + 1))
          case measure => have := HK.out; omega
          case rel => exact ⟨k + 1, k + 1, out ++ [n], by have := HK.out; omega, by go_num, by go_num, Nat.le_refl _, by have := HOK.out; simp; omega, HO2.out, HB2.out, HU2⟩
    · have hT : (cutF 44 s).map numR = out := by rw [HU.out]; unfold tailR; rw [if_neg hle]; simp
      have HR : Hid ((r1, r2) = if s = [45] then ([], true) else if showR out = s then (ofR out, true) else ([], false)) := by show _ = _; rw [HS.out, hT]
      have hoL : out.length ≤ 100000 := by have := HK.out; omega
      have hle' : ¬ (k : Int) ≤ s.length := by omega
      obtain ⟨a3, cap3, rfl, hsl⟩ := HO.out.readI
      clear HS HU HO hb hkg hok hle hT
      cases e0 : (s == [45])
      · have HSH := Lib.hid (ref38_Show a3 out cap3 hoL wr hsl)
        have HOF : Hid (∀ W, Below wr.heap.size wr W → Calls Tryz.prog 37 #[.slice a3 out.length cap3] W fun e w' => ∃ v, e = .returned v ∧ OwnI W.heap.size w' v (ofR out) ∧ Below W.heap.size W w') := fun W hW => ref38_Of a3 out cap3 (by omega) W ((hsl.below hW (Nat.le_refl _)).mono hW.size (fun _ _ _ h => h))
        have hs45 : ¬ s = [45] := by simpa using e0
        clear hsl
        generalize showR out = T at HR HSH
        generalize ofR out = F at HR HOF
        cases e1 : (T == s)
        · have hr : (r1, r2) = ([], false) := by rw [HR.out, if_neg hs45, if_neg (by intro h; rw [h] at e1; simp at e1)]
          obtain ⟨rfl, rfl⟩ := Prod.mk.inj hr
          have e2 : (T != s) = true := by unfold bne; rw [e1]; rfl
          clear hr HR hs45
          go_wp2_with fail
          refine HSH.out.mono ?_
          rintro e w' ⟨rfl, j, rfl⟩
          go_wp2_with fail
          go_ret2
          exact ⟨none, 0, rfl, .nil, none_new, HB.out.trans (Below.mono (B := wr.heap.size) (by repeat (first | (with_reducible exact Below.refl _ _) | (with_reducible refine Below.allocS ?_ _) | (with_reducible refine Below.moreS ?_ _) | (with_reducible refine Below.drew ?_) | (with_reducible refine below_drewN ?_ _))) HB.out.size)⟩
        · have hr : (r1, r2) = (F, true) := by rw [HR.out, if_neg hs45, if_pos (eq_of_beq e1)]
          obtain ⟨rfl, rfl⟩ := Prod.mk.inj hr
          have e2 : (T != s) = false := by unfold bne; rw [e1]; rfl
          clear hr HR hs45
          go_wp2_with fail
          refine HSH.out.mono ?_
          rintro e w' ⟨rfl, j, rfl⟩
          go_wp2_with fail
          refine (HOF.out _ (by repeat (first | (with_reducible exact Below.refl _ _) | (with_reducible refine Below.allocS ?_ _) | (with_reducible refine Below.moreS ?_ _) | (with_reducible refine Below.drew ?_) | (with_reducible refine below_drewN ?_ _)))).mono ?_
          rintro e w' ⟨v, rfl, ho, hb⟩
          obtain ⟨a4, cap4, rfl, hs4⟩ := ho.readI
          have HS4 := Lib.hid hs4
          have HN4 := Lib.hid (own_new (C := w.heap.size) ho (by have := HB.out.size; simp only [World.size_more]; omega))
          have HB4 := Lib.hid (HB.out.trans ((Below.mono (B := wr.heap.size) (by repeat (first | (with_reducible exact Below.refl _ _) | (with_reducible refine Below.allocS ?_ _) | (with_reducible refine Below.moreS ?_ _) | (with_reducible refine Below.drew ?_) | (with_reducible refine below_drewN ?_ _))) HB.out.size).trans (hb.mono (by have := HB.out.size; simp only [World.size_more]; omega))))
          clear ho hb hs4
          go_wp2_with fail
          go_ret2
          exact ⟨_, _, rfl, HS4.out, HN4.out, HB4.out⟩
      · have hr : (r1, r2) = ([], true) := by rw [HR.out, if_pos (eq_of_beq e0)]
        obtain ⟨rfl, rfl⟩ := Prod.mk.inj hr
        clear hr HR
        go_wp2_with fail
        go_ret2
        exact ⟨none, ⟨0, rfl⟩, .nil, none_new, HB.out⟩
end Go.Proofs.YtbdmepidabnfkaaGreatDoor
