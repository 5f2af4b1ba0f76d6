/-
  Faults: a text read as a set: the document's.
-/
import Derived.Test.YtamklaehaadiaaaGreatDoorFlt20
import Derived.Test.YtamklaehaadiaaaGreatDoorOwnX
namespace Go.Proofs.YtamklaehaadiaaaGreatDoor
set_option linter.unusedSimpArgs false
set_option linter.unusedVariables false
set_option linter.unusedSectionVars false
open Go.ChangeShapes Go.WideShapes Go.ChangeAt Go.RowKit Go.Deep Go.Shelf

theorem map_nil_appD (o : Option (List Fl)) : o = o.map ([] ++ ·) := by cases o <;> simp
theorem allD_yes {x : List UInt8} {r : List (List UInt8)} {f : Fl} (h : readW x = (f, true)) (out : List Fl) : (allD (x :: r)).map (out ++ ·) = (allD r).map ((out ++ [f]) ++ ·) := by
  rw [allD, h, if_pos rfl]
  cases allD r <;> simp
theorem allD_no {x : List UInt8} {r : List (List UInt8)} (h : (readW x).2 = false) : allD (x :: r) = none := by
  rw [allD, if_neg (by rw [h]; simp)]
def tailD (s : List UInt8) (k fr : Nat) : Option (List Fl) := if k ≤ s.length then allD (preF ((s.drop fr).take (k - fr)) (cutF 44 (s.drop k))) else some []
theorem pre_nilD (c : UInt8) (s : List UInt8) : preF [] (cutF c s) = cutF c s := by obtain ⟨a, t, e⟩ := cut_ne c s; rw [e]; rfl
theorem tailD_zero (s : List UInt8) : allD (cutF 44 s) = tailD s 0 0 := by unfold tailD; rw [if_pos (Nat.zero_le _)]; simp [pre_nilD]
theorem tailD_skip {s : List UInt8} {k fr : Nat} (hlt : k < s.length) (hf : fr ≤ k) (hc : s[k] ≠ 44) : tailD s k fr = tailD s (k + 1) fr := by
  unfold tailD
  rw [if_pos (by omega), if_pos (by omega), List.drop_eq_getElem_cons hlt, cutF, if_neg hc, pre_pre]
  congr 2
  rw [show k + 1 - fr = (k - fr) + 1 by omega, List.take_succ_eq_append_getElem (by simp; omega)]
  simp [show fr + (k - fr) = k by omega]
theorem tailD_cut {s : List UInt8} {k fr : Nat} (hk : k ≤ s.length) (hc : ∀ h : k < s.length, s[k] = 44) : ∃ r, tailD s k fr = allD ((s.drop fr).take (k - fr) :: r) ∧ allD r = tailD s (k + 1) (k + 1) := by
  unfold tailD
  rw [if_pos hk]
  by_cases hlt : k < s.length
  · refine ⟨cutF 44 (s.drop (k + 1)), ?_, ?_⟩
    · rw [List.drop_eq_getElem_cons hlt, cutF, if_pos (hc hlt)]; simp [preF]
    · rw [if_pos (by omega)]; simp [pre_nilD]
  · refine ⟨[], ?_, ?_⟩
    · have e : s.drop k = [] := List.drop_of_length_le (by omega)
      rw [e]; simp [cutF, preF]
    · rw [if_neg (by omega)]; rfl
def endD (s : List UInt8) : Option (List Fl) → List Fl × Bool
  | none => ([], false)
  | some l => if showW l = s then (l, true) else ([], false)
theorem setW_tail {s : List UInt8} (h : s ≠ [45]) : setW s = endD s (tailD s 0 0) := by
  rw [setW_eq, ← tailD_zero]
  unfold setD
  rw [if_neg h]
  cases allD (cutF 44 s) <;> rfl

set_option maxHeartbeats 8000000 in
set_option maxRecDepth 100000 in
theorem ref09_ReadSet (s : List UInt8) (hm : s.length ≤ 900) (w : World) :
    Calls Tryz.prog 12 #[bstr s] w fun e w' => ∃ a cap, e = .returned (.tuple #[.slice a (setW s).1.length cap, .bool (setW s).2]) ∧ SlFl w' w'.heap.size a (setW s).1 ∧ Below w.heap.size w w' := by
  by_cases h0 : s = [45]
  · subst h0
    have hr : setW [45] = ([], true) := by unfold setW; rw [if_pos rfl]
    rw [hr]
    clear hr
    go_enter Tryz.func12, Tryz.ntmps12
    go_wp2_with fail
    go_ret2
    exact ⟨none, 0, rfl, .nil, Below.refl _ _⟩
  have hne : (s == ([45] : List UInt8)) = false := by rw [beq_eq_false_iff_ne]; exact h0
  have HS : Hid (setW s = endD s (tailD s 0 0)) := setW_tail h0
  clear h0
  generalize setW s = R at HS ⊢
  obtain ⟨r1, r2⟩ := R
  go_enter Tryz.func12, Tryz.ntmps12
  go_wp2_with fail
  go_loopg [4, 5, 6] (s.length + 1) (fun g v f i wr => ∃ (k fr : Nat) (out : List Fl), k + g = s.length + 1 ∧ i = .int .i64 k ∧ f = .int .i64 fr ∧ fr ≤ k ∧ out.length ≤ k ∧ OwnFl w.heap.size wr v out ∧ Below w.heap.size w wr ∧ Hid (tailD s 0 0 = (tailD s k fr).map (out ++ ·)))
  case atStart => exact ⟨0, 0, [], by omega, rfl, rfl, Nat.le_refl _, by simp, OwnC.nil _ _, Below.refl _ _, by show _ = _; exact map_nil_appD _⟩
  case round =>
    obtain ⟨k, fr, out, hkg, rfl, rfl, hfk, hok, HO, hb, HU⟩ := hrel
    have HO := Lib.hid HO
    have HB := Lib.hid hb
    have HK := Lib.hid hkg
    by_cases hle : k ≤ s.length
    · have hle' : (k : Int) ≤ s.length := by omega
      have hfk' : (fr : Int) ≤ k := by omega
      by_cases hskip : ∃ h : k < s.length, s[k] ≠ 44
      · obtain ⟨hlt, hne4⟩ := hskip
        have hc : ((s[k].toNat : Int) != 44) = true := by
          rw [bne_iff_ne]; intro h; exact hne4 (UInt8.toNat_inj.1 (by show s[k].toNat = 44; omega))
        have hc2 : ((s[k].toNat : Int) == 44) = false := by
          rw [beq_eq_false_iff_ne]; intro h; exact hne4 (UInt8.toNat_inj.1 (by show s[k].toNat = 44; omega))
        have HU2 : Hid (tailD s 0 0 = (tailD s (k + 1) fr).map (out ++ ·)) := by show _ = _; rw [HU.out, tailD_skip hlt hfk hne4]
        clear hne4 hkg hb HU
        go_wp2_with fail
        go_roundg (s.length + 1 - (k + 1))
        case measure => have := HK.out; omega
        case rel => exact ⟨k + 1, fr, out, by have := HK.out; omega, by go_num, rfl, by omega, by omega, HO.out, HB.out, HU2⟩
      · have hc : ∀ h : k < s.length, s[k] = 44 := fun h => Decidable.byContradiction fun hn => hskip ⟨h, hn⟩
        obtain ⟨rr, ht1, ht2⟩ := tailD_cut (fr := fr) hle hc
        have hX : ((s.drop fr).take (k - fr)).length ≤ 1000000 := by simp; omega
        have HRD : Hid (∀ W, Calls Tryz.prog 9 #[bstr ((s.drop fr).take (k - fr))] W fun e w' => e = .returned (.tuple #[.agg #[.int .i64 (readW ((s.drop fr).take (k - fr))).1.scope, .int .i64 (readW ((s.drop fr).take (k - fr))).1.code], .bool (readW ((s.drop fr).take (k - fr))).2]) ∧ ∃ j, w' = W.more j) := fun W => ref09_Read _ hX W
        have HY : Hid (∀ f, readW ((s.drop fr).take (k - fr)) = (f, true) → tailD s 0 0 = (tailD s (k + 1) (k + 1)).map ((out ++ [f]) ++ ·)) := fun f h => by rw [HU.out, ht1, allD_yes h, ht2]
        have HN : Hid ((readW ((s.drop fr).take (k - fr))).2 = false → (r1, r2) = ([], false)) := fun h => by rw [HS.out, HU.out, ht1, allD_no h]; rfl
        clear ht1 ht2 HU hskip hX
        generalize readW ((s.drop fr).take (k - fr)) = V at HRD HY HN
        obtain ⟨⟨fs, fc⟩, is⟩ := V
        simp only at HRD HN
        have hcase : k < s.length ∨ ¬ k < s.length := Decidable.em _
        have HOK := Lib.hid hok
        have HFK := Lib.hid hfk
        rcases hcase with hlt | hlt
        · have hc4 := hc hlt
          have hc : ((s[k].toNat : Int) != 44) = false := by rw [hc4]; rfl
          have hc2 : ((s[k].toNat : Int) == 44) = true := by rw [hc4]; rfl
          clear hc4
          cases is
          · have hr := HN.out rfl
            obtain ⟨rfl, rfl⟩ := Prod.mk.inj hr
            clear hr HN HY hkg hb
            go_wp2_with fail
            refine (HRD.out _).mono ?_
            rintro e w' ⟨rfl, j, rfl⟩
            go_wp2_with fail
            go_ret2
            exact ⟨none, 0, rfl, .nil, HB.out.trans (Below.mono (B := wr.heap.size) (by repeat (first | (with_reducible exact Below.refl _ _) | (with_reducible refine Below.allocS ?_ _) | (with_reducible refine Below.moreS ?_ _) | (with_reducible refine Below.drew ?_) | (with_reducible refine below_drewN ?_ _))) HB.out.size)⟩
          · have HU2 := Lib.hid (HY.out ⟨fs, fc⟩ rfl)
            clear HN HY hkg hb
            go_wp2_with fail
            refine (HRD.out _).mono ?_
            rintro e w' ⟨rfl, j, rfl⟩
            go_wp2_with (at_builtin; refine app_c (y := ⟨fs, fc⟩) st_fl flC_len flC_one (by omega) (.tmp 37) (.tmp 39) rfl rfl rfl (HO.out.below (C := wr.heap.size) (by repeat (first | (with_reducible exact Below.refl _ _) | (with_reducible refine Below.allocS ?_ _) | (with_reducible refine Below.moreS ?_ _) | (with_reducible refine Below.drew ?_) | (with_reducible refine below_drewN ?_ _))) (Nat.le_refl _)) rfl (Blk.at_ _ _ _ (by simp)) rfl (by have := HOK.out; omega) (by have := HB.out.size; simp only [World.size_alloc, World.size_more]; omega) ?_; intro v' w2 hown hbw)
            have hb2 := HB.out.trans ((Below.mono (B := wr.heap.size) (by repeat (first | (with_reducible exact Below.refl _ _) | (with_reducible refine Below.allocS ?_ _) | (with_reducible refine Below.moreS ?_ _) | (with_reducible refine Below.drew ?_) | (with_reducible refine below_drewN ?_ _))) HB.out.size).trans hbw)
            have HB2 := Lib.hid hb2
            have HO2 := Lib.hid hown
            clear hbw hb2 hown
            go_wp2_with fail
            go_roundg (s.length + 1 - (k + 1))
            case measure => have := HK.out; omega
            case rel => exact ⟨k + 1, k + 1, out ++ [⟨fs, fc⟩], by have := HK.out; omega, by go_num, by go_num, Nat.le_refl _, by have := HOK.out; simp; omega, HO2.out, HB2.out, HU2⟩
        · clear hc
          cases is
          · have hr := HN.out rfl
            obtain ⟨rfl, rfl⟩ := Prod.mk.inj hr
            clear hr HN HY hkg hb
            go_wp2_with fail
            refine (HRD.out _).mono ?_
            rintro e w' ⟨rfl, j, rfl⟩
            go_wp2_with fail
            go_ret2
            exact ⟨none, 0, rfl, .nil, HB.out.trans (Below.mono (B := wr.heap.size) (by repeat (first | (with_reducible exact Below.refl _ _) | (with_reducible refine Below.allocS ?_ _) | (with_reducible refine Below.moreS ?_ _) | (with_reducible refine Below.drew ?_) | (with_reducible refine below_drewN ?_ _))) HB.out.size)⟩
          · have HU2 := Lib.hid (HY.out ⟨fs, fc⟩ rfl)
            clear HN HY hkg hb
            go_wp2_with fail
            refine (HRD.out _).mono ?_
            rintro e w' ⟨rfl, j, rfl⟩
            go_wp2_with (at_builtin; refine app_c (y := ⟨fs, fc⟩) st_fl flC_len flC_one (by omega) (.tmp 37) (.tmp 39) rfl rfl rfl (HO.out.below (C := wr.heap.size) (by repeat (first | (with_reducible exact Below.refl _ _) | (with_reducible refine Below.allocS ?_ _) | (with_reducible refine Below.moreS ?_ _) | (with_reducible refine Below.drew ?_) | (with_reducible refine below_drewN ?_ _))) (Nat.le_refl _)) rfl (Blk.at_ _ _ _ (by simp)) rfl (by have := HOK.out; omega) (by have := HB.out.size; simp only [World.size_alloc, World.size_more]; omega) ?_; intro v' w2 hown hbw)
            have hb2 := HB.out.trans ((Below.mono (B := wr.heap.size) (by repeat (first | (with_reducible exact Below.refl _ _) | (with_reducible refine Below.allocS ?_ _) | (with_reducible refine Below.moreS ?_ _) | (with_reducible refine Below.drew ?_) | (with_reducible refine below_drewN ?_ _))) HB.out.size).trans hbw)
            have HB2 := Lib.hid hb2
            have HO2 := Lib.hid hown
            clear hbw hb2 hown
            go_wp2_with fail
            go_roundg (s.length + 1 - (k + 1))
            case measure => have := HK.out; omega
            case rel => exact ⟨k + 1, k + 1, out ++ [⟨fs, fc⟩], by have := HK.out; omega, by go_num, by go_num, Nat.le_refl _, by have := HOK.out; simp; omega, HO2.out, HB2.out, HU2⟩
    · have hT : tailD s 0 0 = some out := by rw [HU.out]; unfold tailD; rw [if_neg hle]; simp
      have HR : Hid ((r1, r2) = if showW out = s then (out, true) else ([], false)) := by show _ = _; rw [HS.out, hT]; rfl
      have hoL : out.length ≤ 1000 := by have := HK.out; omega
      have hle' : ¬ (k : Int) ≤ s.length := by omega
      obtain ⟨a3, cap3, rfl, hsl⟩ := HO.out.read flC_len
      have HSH := Lib.hid (ref09_Show a3 out cap3 hoL wr hsl)
      have HSL := Lib.hid hsl
      clear hT HS HU HO hsl hoL hb hkg hok hle
      generalize showW out = T at HR HSH
      cases e1 : (T == s)
      · have hr : (r1, r2) = ([], false) := by rw [HR.out, if_neg (by intro h; rw [h] at e1; simp at e1)]
        obtain ⟨rfl, rfl⟩ := Prod.mk.inj hr
        have e2 : (T != s) = true := by unfold bne; rw [e1]; rfl
        clear hr HR
        go_wp2_with fail
        refine HSH.out.mono ?_
        rintro e w' ⟨rfl, j, rfl⟩
        go_wp2_with fail
        go_ret2
        exact ⟨none, 0, rfl, .nil, HB.out.trans (Below.mono (B := wr.heap.size) (by repeat (first | (with_reducible exact Below.refl _ _) | (with_reducible refine Below.allocS ?_ _) | (with_reducible refine Below.moreS ?_ _) | (with_reducible refine Below.drew ?_) | (with_reducible refine below_drewN ?_ _))) HB.out.size)⟩
      · have hr : (r1, r2) = (out, true) := by rw [HR.out, if_pos (eq_of_beq e1)]
        obtain ⟨rfl, rfl⟩ := Prod.mk.inj hr
        have e2 : (T != s) = false := by unfold bne; rw [e1]; rfl
        clear hr HR
        go_wp2_with fail
        refine HSH.out.mono ?_
        rintro e w' ⟨rfl, j, rfl⟩
        go_wp2_with fail
        go_ret2
        exact ⟨_, _, rfl, (HSL.out.below (C := wr.heap.size) (by repeat (first | (with_reducible exact Below.refl _ _) | (with_reducible refine Below.allocS ?_ _) | (with_reducible refine Below.moreS ?_ _) | (with_reducible refine Below.drew ?_) | (with_reducible refine below_drewN ?_ _))) (Nat.le_refl _)).mono (by simp) (fun _ _ _ h => h), HB.out.trans (Below.mono (B := wr.heap.size) (by repeat (first | (with_reducible exact Below.refl _ _) | (with_reducible refine Below.allocS ?_ _) | (with_reducible refine Below.moreS ?_ _) | (with_reducible refine Below.drew ?_) | (with_reducible refine below_drewN ?_ _))) HB.out.size)⟩
end Go.Proofs.YtamklaehaadiaaaGreatDoor
