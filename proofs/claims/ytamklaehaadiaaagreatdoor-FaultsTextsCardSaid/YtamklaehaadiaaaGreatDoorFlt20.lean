/-
  Faults: a text read as a fault: the document's.
-/
import Derived.Test.YtamklaehaadiaaaGreatDoorFlt19
import Derived.Test.YtamklaehaadiaaaGreatDoorFlt18
namespace Go.Proofs.YtamklaehaadiaaaGreatDoor
set_option linter.unusedSimpArgs false
set_option linter.unusedVariables false
set_option linter.unusedSectionVars false
open Go.ChangeShapes Go.WideShapes Go.ChangeAt Go.RowKit Go.Deep Go.Shelf

theorem hd_absent {c : UInt8} {s : List UInt8} (h : c ∉ s) : hdF c s = none := by
  cases hd : hdF c s with
  | none => rfl
  | some p =>
    obtain ⟨a, b⟩ := p
    obtain ⟨rfl, _⟩ := hd_some hd
    exact absurd (by simp) h
theorem readW_none {s : List UInt8} (h : (58 : UInt8) ∉ s) : readW s = (⟨0, 0⟩, false) := by
  unfold readW
  rw [hd_absent h]
theorem readW_at {s : List UInt8} {k : Nat} (hk : k < s.length) (hc : s[k] = 58) (h : (58 : UInt8) ∉ s.take k) :
    readW s = if (codeOf (s.drop (k + 1))).2 = true ∧ textW (docFl (s.take k) (s.drop (k + 1))) = s then (docFl (s.take k) (s.drop (k + 1)), true) else (⟨0, 0⟩, false) := by
  have e : s = s.take k ++ 58 :: s.drop (k + 1) := by rw [← hc, ← List.drop_eq_getElem_cons hk, List.take_append_drop]
  have hd : hdF 58 s = some (s.take k, s.drop (k + 1)) := by
    have := hd_app 58 (s.drop (k + 1)) (s.take k) h
    rw [← e] at this
    exact this
  rw [readW_eq]
  unfold readD
  rw [hd]

set_option maxHeartbeats 8000000 in
set_option maxRecDepth 100000 in
theorem ref09_Read (s : List UInt8) (hm : s.length ≤ 1000000) (w : World) :
    Calls Tryz.prog 9 #[bstr s] w fun e w' => e = .returned (.tuple #[.agg #[.int .i64 (readW s).1.scope, .int .i64 (readW s).1.code], .bool (readW s).2]) ∧ ∃ j, w' = w.more j := by
  have HR0 : Hid ((58 : UInt8) ∉ s → readW s = (⟨0, 0⟩, false)) := readW_none
  have HR1 : Hid (∀ k (hk : k < s.length), s[k] = 58 → (58 : UInt8) ∉ s.take k → readW s = if (codeOf (s.drop (k + 1))).2 = true ∧ textW (docFl (s.take k) (s.drop (k + 1))) = s then (docFl (s.take k) (s.drop (k + 1)), true) else (⟨0, 0⟩, false)) := fun k hk => readW_at hk
  generalize readW s = R at HR0 HR1 ⊢
  go_enter Tryz.func9, Tryz.ntmps9
  go_wp2_with fail
  go_loopg [4] s.length (fun g i wr => ∃ k : Nat, k + g = s.length ∧ i = .int .i64 k ∧ Hid ((58 : UInt8) ∉ s.take k) ∧ ∃ j, wr = (w.alloc (.cells #[.int .i64 0, .int .i64 0] 23)).more j)
  case atStart => exact ⟨0, by omega, rfl, by show _ ∉ _; simp, _, more_self _⟩
  case round =>
    obtain ⟨k, hkg, rfl, HA, j, rfl⟩ := hrel
    have HK := Lib.hid hkg
    by_cases hlt : k < s.length
    · have hlt' : (k : Int) < s.length := by omega
      by_cases h58 : s[k] = 58
      · have hc : ((s[k].toNat : Int) != 58) = false := by rw [h58]; rfl
        have hc2 : ((s[k].toNat : Int) == 58) = true := by rw [h58]; rfl
        have HR := Lib.hid (HR1.out k hlt h58 HA.out)
        have hb : (s.drop (k + 1)).length ≤ 1048576 := by simp; omega
        have hcut : (s.drop (k + 1)).take (s.length - (k + 1)) = s.drop (k + 1) := List.take_of_length_le (by simp)
        have HC : Hid (∀ W, Calls Tryz.prog 23 #[bstr ((s.drop (k + 1)).take (s.length - (k + 1)))] W fun e w' => e = .returned (.tuple #[.int .i64 (codeOf (s.drop (k + 1))).1, .bool (codeOf (s.drop (k + 1))).2]) ∧ ∃ j, w' = W.more j) := fun W => by rw [hcut]; exact ref09_Code _ hb W
        have hdoc : docFl (s.take k) (s.drop (k + 1)) = ⟨if s.take k = [99, 111, 110, 110, 101, 99, 116, 105, 111, 110] then 2 else 1, (codeOf (s.drop (k + 1))).1⟩ := rfl
        rw [hdoc] at HR
        have i1 : (0 : Int) ≤ (k : Int) + 1 := by omega
        have i2 : (k : Int) + 1 ≤ s.length := by omega
        clear HR0 HR1 HA h58 hkg hb hdoc hcut
        generalize codeOf (s.drop (k + 1)) = q at HC HR
        obtain ⟨cd, is⟩ := q
        cases e3 : (s.take k == [99, 111, 110, 110, 101, 99, 116, 105, 111, 110])
        · have HR2 : Hid (R = if is = true ∧ textW ⟨1, cd⟩ = s then (⟨1, cd⟩, true) else (⟨0, 0⟩, false)) := by
            show _ = _
            have h1 := HR.out
            rw [show (if s.take k = [99, 111, 110, 110, 101, 99, 116, 105, 111, 110] then (2 : Int) else 1) = 1 from if_neg (fun h => by rw [h] at e3; simp at e3)] at h1
            exact h1
          have HT : Hid (∀ W, Calls Tryz.prog 7 #[.agg #[.int .i64 1, .int .i64 cd]] W fun e w' => e = .returned (bstr (textW ⟨1, cd⟩)) ∧ ∃ j, w' = W.more j) := ref09_Text 1 cd
          generalize textW ⟨1, cd⟩ = T at HT HR2
          clear HR
          cases is
          · have hr : R = (⟨0, 0⟩, false) := by rw [HR2.out, if_neg (by simp)]
            subst hr
            clear HR2
            go_wp2_with (go_at_call 23; (with_reducible refine (HC.out _).mono ?_); rintro e w' ⟨rfl, j, rfl⟩)
            refine bodyPost_ret (res_cell_tmp (cs := #[.int .i64 0, .int .i64 0]) rfl st_Fl rfl (by repeat (first | ((with_reducible apply Blk.at_); (simp; done)) | (with_reducible apply Blk.alloc) | (with_reducible apply Blk.more) | (with_reducible apply Blk.drew))) rfl rfl) rfl ⟨rfl, Below.junk (by repeat (first | (with_reducible exact Below.refl _ _) | (with_reducible refine Below.allocS ?_ _) | (with_reducible refine Below.moreS ?_ _) | (with_reducible refine Below.drew ?_) | (with_reducible refine below_drewN ?_ _)))⟩
          · cases e4 : (T == s)
            · have hr : R = (⟨0, 0⟩, false) := by rw [HR2.out, if_neg (by intro h; rw [h.2] at e4; simp at e4)]
              subst hr
              clear HR2
              go_wp2_with (first
                | (go_at_call 23; (with_reducible refine (HC.out _).mono ?_); rintro e w' ⟨rfl, j, rfl⟩)
                | (go_at_call 7; (with_reducible refine (HT.out _).mono ?_); rintro e w' ⟨rfl, j, rfl⟩))
              refine bodyPost_ret (res_cell_tmp (cs := #[.int .i64 0, .int .i64 0]) rfl st_Fl rfl (by repeat (first | ((with_reducible apply Blk.at_); (simp; done)) | (with_reducible apply Blk.alloc) | (with_reducible apply Blk.more) | (with_reducible apply Blk.drew))) rfl rfl) rfl ⟨rfl, Below.junk (by repeat (first | (with_reducible exact Below.refl _ _) | (with_reducible refine Below.allocS ?_ _) | (with_reducible refine Below.moreS ?_ _) | (with_reducible refine Below.drew ?_) | (with_reducible refine below_drewN ?_ _)))⟩
            · have hr : R = (⟨1, cd⟩, true) := by rw [HR2.out, if_pos ⟨rfl, eq_of_beq e4⟩]
              subst hr
              clear HR2
              go_wp2_with (first
                | (go_at_call 23; (with_reducible refine (HC.out _).mono ?_); rintro e w' ⟨rfl, j, rfl⟩)
                | (go_at_call 7; (with_reducible refine (HT.out _).mono ?_); rintro e w' ⟨rfl, j, rfl⟩))
              refine bodyPost_ret (res_cell_tmp (cs := #[.int .i64 1, .int .i64 cd]) rfl st_Fl rfl (by repeat (first | ((with_reducible apply Blk.at_); (simp; done)) | (with_reducible apply Blk.alloc) | (with_reducible apply Blk.more) | (with_reducible apply Blk.drew))) rfl rfl) rfl ⟨rfl, Below.junk (by repeat (first | (with_reducible exact Below.refl _ _) | (with_reducible refine Below.allocS ?_ _) | (with_reducible refine Below.moreS ?_ _) | (with_reducible refine Below.drew ?_) | (with_reducible refine below_drewN ?_ _)))⟩
        · have HR2 : Hid (R = if is = true ∧ textW ⟨2, cd⟩ = s then (⟨2, cd⟩, true) else (⟨0, 0⟩, false)) := by
            show _ = _
            have h1 := HR.out
            rw [show (if s.take k = [99, 111, 110, 110, 101, 99, 116, 105, 111, 110] then (2 : Int) else 1) = 2 from if_pos (eq_of_beq e3)] at h1
            exact h1
          have HT : Hid (∀ W, Calls Tryz.prog 7 #[.agg #[.int .i64 2, .int .i64 cd]] W fun e w' => e = .returned (bstr (textW ⟨2, cd⟩)) ∧ ∃ j, w' = W.more j) := ref09_Text 2 cd
          generalize textW ⟨2, cd⟩ = T at HT HR2
          clear HR
          cases is
          · have hr : R = (⟨0, 0⟩, false) := by rw [HR2.out, if_neg (by simp)]
            subst hr
            clear HR2
            go_wp2_with (go_at_call 23; (with_reducible refine (HC.out _).mono ?_); rintro e w' ⟨rfl, j, rfl⟩)
            refine bodyPost_ret (res_cell_tmp (cs := #[.int .i64 0, .int .i64 0]) rfl st_Fl rfl (by repeat (first | ((with_reducible apply Blk.at_); (simp; done)) | (with_reducible apply Blk.alloc) | (with_reducible apply Blk.more) | (with_reducible apply Blk.drew))) rfl rfl) rfl ⟨rfl, Below.junk (by repeat (first | (with_reducible exact Below.refl _ _) | (with_reducible refine Below.allocS ?_ _) | (with_reducible refine Below.moreS ?_ _) | (with_reducible refine Below.drew ?_) | (with_reducible refine below_drewN ?_ _)))⟩
          · cases e4 : (T == s)
            · have hr : R = (⟨0, 0⟩, false) := by rw [HR2.out, if_neg (by intro h; rw [h.2] at e4; simp at e4)]
              subst hr
              clear HR2
              go_wp2_with (first
                | (go_at_call 23; (with_reducible refine (HC.out _).mono ?_); rintro e w' ⟨rfl, j, rfl⟩)
                | (go_at_call 7; (with_reducible refine (HT.out _).mono ?_); rintro e w' ⟨rfl, j, rfl⟩))
              refine bodyPost_ret (res_cell_tmp (cs := #[.int .i64 0, .int .i64 0]) rfl st_Fl rfl (by repeat (first | ((with_reducible apply Blk.at_); (simp; done)) | (with_reducible apply Blk.alloc) | (with_reducible apply Blk.more) | (with_reducible apply Blk.drew))) rfl rfl) rfl ⟨rfl, Below.junk (by repeat (first | (with_reducible exact Below.refl _ _) | (with_reducible refine Below.allocS ?_ _) | (with_reducible refine Below.moreS ?_ _) | (with_reducible refine Below.drew ?_) | (with_reducible refine below_drewN ?_ _)))⟩
            · have hr : R = (⟨2, cd⟩, true) := by rw [HR2.out, if_pos ⟨rfl, eq_of_beq e4⟩]
              subst hr
              clear HR2
              go_wp2_with (first
                | (go_at_call 23; (with_reducible refine (HC.out _).mono ?_); rintro e w' ⟨rfl, j, rfl⟩)
                | (go_at_call 7; (with_reducible refine (HT.out _).mono ?_); rintro e w' ⟨rfl, j, rfl⟩))
              refine bodyPost_ret (res_cell_tmp (cs := #[.int .i64 2, .int .i64 cd]) rfl st_Fl rfl (by repeat (first | ((with_reducible apply Blk.at_); (simp; done)) | (with_reducible apply Blk.alloc) | (with_reducible apply Blk.more) | (with_reducible apply Blk.drew))) rfl rfl) rfl ⟨rfl, Below.junk (by repeat (first | (with_reducible exact Below.refl _ _) | (with_reducible refine Below.allocS ?_ _) | (with_reducible refine Below.moreS ?_ _) | (with_reducible refine Below.drew ?_) | (with_reducible refine below_drewN ?_ _)))⟩
      · have hc : ((s[k].toNat : Int) != 58) = true := by
          rw [bne_iff_ne]; intro h; exact h58 (UInt8.toNat_inj.1 (by show s[k].toNat = 58; omega))
        have hc2 : ((s[k].toNat : Int) == 58) = false := by
          rw [beq_eq_false_iff_ne]; intro h; exact h58 (UInt8.toNat_inj.1 (by show s[k].toNat = 58; omega))
        have HA2 : Hid ((58 : UInt8) ∉ s.take (k + 1)) := by
          show _ ∉ _
          rw [List.take_succ_eq_append_getElem hlt]
          simp only [List.mem_append, List.mem_singleton, not_or]
          exact ⟨HA.out, fun h => h58 h.symm⟩
        clear HR0 HR1 HA h58 hkg
        go_wp2_with fail
        go_roundg (s.length - (k + 1))
        case measure => have := HK.out; omega
        case rel => exact ⟨k + 1, by have := HK.out; omega, by go_num, HA2, _, rfl⟩
    · have hr : R = (⟨0, 0⟩, false) := HR0.out (by have := HA.out; rwa [List.take_of_length_le (by omega)] at this)
      subst hr
      have hlt' : ¬ (k : Int) < s.length := by omega
      clear HR0 HR1 HA hkg
      go_wp2_with fail
      refine bodyPost_ret (res_cell_tmp (cs := #[.int .i64 0, .int .i64 0]) rfl st_Fl rfl (by repeat (first | ((with_reducible apply Blk.at_); (simp; done)) | (with_reducible apply Blk.alloc) | (with_reducible apply Blk.more) | (with_reducible apply Blk.drew))) rfl rfl) rfl ⟨rfl, Below.junk (by repeat (first | (with_reducible exact Below.refl _ _) | (with_reducible refine Below.allocS ?_ _) | (with_reducible refine Below.moreS ?_ _) | (with_reducible refine Below.drew ?_) | (with_reducible refine below_drewN ?_ _)))⟩
end Go.Proofs.YtamklaehaadiaaaGreatDoor
