/-
  Faults: their texts, and sets' texts: the document's.
-/
import Derived.Test.YtamklaehaadiaaaGreatDoorFlt11
import Derived.Test.YtamklaehaadiaaaGreatDoorFlt6
namespace Go.Proofs.YtamklaehaadiaaaGreatDoor
set_option linter.unusedSimpArgs false
set_option linter.unusedVariables false
set_option linter.unusedSectionVars false
open Go.ChangeShapes Go.WideShapes Go.ChangeAt Go.RowKit Go.Deep Go.Shelf

set_option maxHeartbeats 2000000 in
set_option maxRecDepth 100000 in
theorem ref09_Text (s c : Int) (w : World) : Calls Tryz.prog 7 #[.agg #[.int .i64 s, .int .i64 c]] w fun e w' => e = .returned (bstr (textW ⟨s, c⟩)) ∧ ∃ j, w' = w.more j := by
  have HQ : Hid (∀ W, Calls Tryz.prog 8 #[.agg #[.int .i64 s, .int .i64 c]] W fun e w' => e = .returned (.bool (flR ⟨s, c⟩)) ∧ ∃ j, w' = W.more j) := ref09_Right s c
  have HC : Hid (∀ W, Calls Tryz.prog 22 #[.int .i64 c] W fun e w' => e = .returned (bstr (codeN c)) ∧ ∃ j, w' = W.more j) := ref09_CodeName c
  have HW : Hid (textW ⟨s, c⟩ = if flR ⟨s, c⟩ = true then scopeW s ++ 58 :: codeN c else []) := rfl
  have hl2 := codeN_len c
  generalize textW ⟨s, c⟩ = T at HW ⊢
  generalize flR ⟨s, c⟩ = r at HQ HW
  cases r
  · have HR : Hid (T = []) := by show _ = _; rw [HW.out, if_neg (by simp)]
    clear HW HC
    go_enter Tryz.func7, Tryz.ntmps7
    go_wp2_with fail
    refine (HQ.out _).mono ?_
    rintro e w' ⟨rfl, j, rfl⟩
    go_wp2_with fail
    go_ret
    exact ⟨by rw [HR.out]; rfl, Below.junk (by repeat (first | (with_reducible exact Below.refl _ _) | (with_reducible refine Below.allocS ?_ _) | (with_reducible refine Below.moreS ?_ _) | (with_reducible refine Below.drew ?_) | (with_reducible refine below_drewN ?_ _)))⟩
  · have HR : Hid (T = scopeW s ++ 58 :: codeN c) := by show _ = _; rw [HW.out, if_pos rfl]
    clear HW
    generalize codeN c = Q at HR HC hl2
    cases h1 : (s == 1)
    · have hs : ¬ s = 1 := by simpa using h1
      have HR2 : Hid (T = [99, 111, 110, 110, 101, 99, 116, 105, 111, 110, 58] ++ Q) := by show _ = _; rw [HR.out]; unfold scopeW; rw [if_neg hs]; rfl
      clear HR hs
      go_enter Tryz.func7, Tryz.ntmps7
      go_wp2_with fail
      refine (HQ.out _).mono ?_
      rintro e w' ⟨rfl, j, rfl⟩
      go_wp2_with (go_at_call 22; (with_reducible refine (HC.out _).mono ?_); rintro e w' ⟨rfl, j, rfl⟩)
      go_ret
      exact ⟨by rw [HR2.out]; rfl, Below.junk (by repeat (first | (with_reducible exact Below.refl _ _) | (with_reducible refine Below.allocS ?_ _) | (with_reducible refine Below.moreS ?_ _) | (with_reducible refine Below.drew ?_) | (with_reducible refine below_drewN ?_ _)))⟩
    · obtain rfl : s = 1 := by simpa using h1
      have HR2 : Hid (T = [115, 116, 114, 101, 97, 109, 58] ++ Q) := by show _ = _; rw [HR.out]; rfl
      clear HR h1
      go_enter Tryz.func7, Tryz.ntmps7
      go_wp2_with fail
      refine (HQ.out _).mono ?_
      rintro e w' ⟨rfl, j, rfl⟩
      go_wp2_with (go_at_call 22; (with_reducible refine (HC.out _).mono ?_); rintro e w' ⟨rfl, j, rfl⟩)
      go_ret
      exact ⟨by rw [HR2.out]; rfl, Below.junk (by repeat (first | (with_reducible exact Below.refl _ _) | (with_reducible refine Below.allocS ?_ _) | (with_reducible refine Below.moreS ?_ _) | (with_reducible refine Below.drew ?_) | (with_reducible refine below_drewN ?_ _)))⟩

theorem show_step (S : List Fl) (k : Nat) (hk : k < S.length) (h0 : 0 < k) : Lib.join ((S.take (k + 1)).map textW) [44] = Lib.join ((S.take k).map textW) [44] ++ [44] ++ textW S[k] := by
  rw [List.map_take, List.map_take, take_join_c 44 _ k (by simpa using hk), if_neg (by omega)]
  simp
set_option maxHeartbeats 8000000 in
set_option maxRecDepth 100000 in
theorem ref09_Show (a : Option Addr) (l : List Fl) (cap : Nat) (hl : l.length ≤ 1000) (w : World) (hS : SlFl w w.heap.size a l) :
    Calls Tryz.prog 13 #[.slice a l.length cap] w fun e w' => e = .returned (bstr (showW l)) ∧ ∃ j, w' = w.more j := by
  have HO := Lib.hid (ref09_Of a l cap (by omega) w hS)
  have hlen := ofF_len l
  have HW : Hid (showW l = if ofF l = [] then [45] else Lib.join ((ofF l).map textW) [44]) := rfl
  generalize ofF l = S at HO HW hlen
  generalize showW l = R at HW ⊢
  clear hS
  go_enter Tryz.func13, Tryz.ntmps13
  go_wp2_with fail
  refine HO.out.mono ?_
  rintro e w1 ⟨a1, cap1, rfl, hcap1, hs1, hb1⟩
  have HS1 := Lib.hid hs1
  have HB1 := Lib.hid hb1
  have HL := Lib.hid hlen
  clear hs1 hb1 hcap1
  cases hS : S with
  | nil =>
    have hr : R = [45] := by rw [HW.out, if_pos hS]
    subst hS hr
    clear HW HS1 HL
    go_wp2_with fail
    go_ret
    exact ⟨rfl, HB1.out.junk⟩
  | cons x0 r0 =>
  have h0 : 0 < S.length := by rw [hS]; simp
  have hR : R = Lib.join ((S.take S.length).map textW) [44] := by rw [HW.out, if_neg (by rw [hS]; simp), List.take_length]
  have HR := Lib.hid hR
  rw [← hS]
  have HZ : Hid (textW S[0] = Lib.join ((S.take 1).map textW) [44]) := by
    show _ = _
    rw [show S.take 1 = S.take 0 ++ [S[0]] from List.take_succ_eq_append_getElem h0]
    simp [Lib.join_one]
  obtain ⟨b, off, ha, hbb, c00, c01⟩ := SlR.atFl HS1.out h0
  subst ha
  simp only [Nat.zero_mul, Nat.add_zero] at c00 c01
  have HT0 : Hid (∀ W, Calls Tryz.prog 7 #[.agg #[.int .i64 S[0].scope, .int .i64 S[0].code]] W fun e w' => e = .returned (bstr (textW S[0])) ∧ ∃ j, w' = W.more j) := fun W => ref09_Text _ _ W
  have hlen0 := textW_len S[0]
  have hne : ¬ S.length = 0 := by omega
  have hnb : ((S.length : Int) == 0) = false := by rw [beq_eq_false_iff_ne]; omega
  generalize textW S[0] = t0 at HZ HT0 hlen0
  generalize S[0] = x at c00 c01 HT0
  obtain ⟨xs, xc⟩ := x
  clear HW hR hS
  go_wp2_with fail
  refine (HT0.out _).mono ?_
  rintro e w2 ⟨rfl, j0, rfl⟩
  go_wp2_with fail
  go_loopg [4, 5] S.length (fun g v i wr => ∃ (k : Nat) (acc : List UInt8), k + g = S.length + 1 ∧ 1 ≤ k ∧ k ≤ S.length ∧ i = .int .i64 k ∧ v = bstr acc ∧ acc.length ≤ 32 * k ∧ Hid (acc = Lib.join ((S.take k).map textW) [44]) ∧ ∃ j, wr = w1.more j)
  case atStart => exact ⟨1, t0, by omega, Nat.le_refl _, h0, rfl, rfl, by omega, HZ, ⟨j0, rfl⟩⟩
  case round =>
    obtain ⟨k, acc, hkg, hk1, hk2, rfl, rfl, hacc, HA, j, rfl⟩ := hrel
    have HK := Lib.hid hkg
    by_cases hlt : k < S.length
    · obtain ⟨b', off', ha, hbb2, d0, d1⟩ := SlR.atFl HS1.out hlt
      injection ha with ha
      injection ha with ha1 ha2
      subst ha1 ha2
      have HT : Hid (∀ W, Calls Tryz.prog 7 #[.agg #[.int .i64 S[k].scope, .int .i64 S[k].code]] W fun e w' => e = .returned (bstr (textW S[k])) ∧ ∃ j, w' = W.more j) := fun W => ref09_Text _ _ W
      have hlk := textW_len S[k]
      have HU : Hid (acc ++ [44] ++ textW S[k] = Lib.join ((S.take (k + 1)).map textW) [44]) := by show _ = _; rw [HA.out, ← show_step S k hlt hk1]
      generalize textW S[k] = t at HT HU hlk
      generalize S[k] = x at d0 d1 HT
      obtain ⟨xs, xc⟩ := x
      clear HA hkg
      go_wp2_with fail
      refine (HT.out _).mono ?_
      rintro e w3 ⟨rfl, j3, rfl⟩
      go_wp2_with fail
      go_roundg (S.length - k)
      case measure => have := HK.out; omega
      case rel => exact ⟨k + 1, acc ++ [44] ++ t, by have := HK.out; omega, by omega, by omega, by go_num, by simp, by simp; omega, HU, Below.junk (by repeat (first | (with_reducible exact Below.refl _ _) | (with_reducible refine Below.allocS ?_ _) | (with_reducible refine Below.moreS ?_ _) | (with_reducible refine Below.drew ?_) | (with_reducible refine below_drewN ?_ _)))⟩
    · have hr : R = acc := by rw [HR.out, HA.out, show k = S.length by omega]
      subst hr
      clear HA hkg
      go_wp2_with fail
      go_ret
      exact ⟨rfl, (HB1.out.trans ((Below.refl w1.heap.size w1).moreS j |>.mono HB1.out.size)).junk⟩
end Go.Proofs.YtamklaehaadiaaaGreatDoor
