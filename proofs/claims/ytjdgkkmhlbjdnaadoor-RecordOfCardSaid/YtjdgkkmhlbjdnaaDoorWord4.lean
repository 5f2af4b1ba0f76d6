/-
  Words: the document's digits, word, and back.
-/
import Derived.Test.YtjdgkkmhlbjdnaaDoorByt
import Derived.Test.YtjdgkkmhlbjdnaaDoorQm
import Derived.Test.YtjdgkkmhlbjdnaaDoorWordP
import Derived.Deep.LoopGhost
import Derived.BigGuardPart
namespace Go.Proofs.YtjdgkkmhlbjdnaaDoor
set_option linter.unusedSimpArgs false
set_option linter.unusedVariables false
set_option linter.unusedSectionVars false
open Go.ChangeShapes Go.WideShapes Go.ChangeAt Go.RowKit Go.Deep Go.Shelf

theorem hex_cut {n : Nat} (h : n < 16) : (hexD.drop n).take 1 = [hexD.getD n 0] := by
  have : ∀ m : Fin 16, (hexD.drop m.val).take 1 = [hexD.getD m.val 0] := by decide
  exact this ⟨n, h⟩
set_option maxRecDepth 100000 in
theorem ref04_pair (c : UInt8) (w : World) : Calls Tryd.prog 82 #[.int .u8 (c.toNat : Int)] w fun e w' => e = .returned (bstr (pairB c)) ∧ ∃ j, w' = w.more j := by
  have hb := c.toNat_lt
  have h1 := Lib.hid (hex_cut (n := c.toNat / 16) (by omega))
  have h2 := Lib.hid (hex_cut (n := c.toNat % 16) (by omega))
  have HF : Hid (pairB c = [hexD.getD (c.toNat / 16) 0] ++ [hexD.getD (c.toNat % 16) 0]) := rfl
  generalize pairB c = P at HF ⊢
  generalize c.toNat = n at *
  have f1 : (n : Int) / 16 = ((n / 16 : Nat) : Int) := by omega
  have f2 : (n : Int) % 16 = ((n % 16 : Nat) : Int) := by omega
  have g1 : n / 16 < 16 := by omega
  have g2 : n % 16 < 16 := by omega
  generalize hq : n / 16 = q at *
  generalize hr : n % 16 = r at *
  clear hq hr
  have f3 : IntKind.i64.wrap ((q : Int) + 1) = (q : Int) + 1 := by rw [IntWalk.i64_in _ (by omega)]
  have f4 : IntKind.i64.wrap ((r : Int) + 1) = (r : Int) + 1 := by rw [IntWalk.i64_in _ (by omega)]
  have i1 : (q : Int) + 1 ≤ 16 := by omega
  have i2 : (r : Int) + 1 ≤ 16 := by omega
  have i3 : (q : Int) ≤ (q : Int) + 1 := by omega
  have i4 : (r : Int) ≤ (r : Int) + 1 := by omega
  have i5 : ((q : Int) + 1).toNat = q + 1 := by omega
  have i6 : ((r : Int) + 1).toNat = r + 1 := by omega
  have i7 : (0 : Int) ≤ (q : Int) + 1 := by omega
  have i8 : (0 : Int) ≤ (r : Int) + 1 := by omega
  have i9 : ¬ 9223372036854775807 < min 1 (16 - q) + min 1 (16 - r) := by omega
  go_enter Tryd.func82, Tryd.ntmps82
  go_wp2_with fail
  go_quiet (fail)
  go_wp2_with fail
  go_ret
  exact ⟨ret1d (by rw [HF.out, ← h1.out, ← h2.out]; rfl), (below_drewN (Below.refl _ _) _).junk⟩

def fndFrom : List UInt8 → UInt8 → Nat → Int
  | [], _, _ => -1
  | b :: l, c, k => if (b == c) = true then (k : Int) else fndFrom l c (k + 1)
theorem fnd_index : ∀ (l : List UInt8) (c : UInt8) (k : Nat), fndFrom l c k = if Lib.indexByte l c = -1 then -1 else Lib.indexByte l c + k
  | [], _, _ => rfl
  | b :: l, c, k => by
    have ih := fnd_index l c (k + 1)
    have hge := Lib.indexByte_ge l c
    unfold fndFrom Lib.indexByte
    cases h : (b == c)
    · simp only [Bool.false_eq_true, if_false]
      rw [ih]
      by_cases h1 : Lib.indexByte l c = -1
      · simp [h1]
      · have h1' : (Lib.indexByte l c == -1) = false := by simpa using h1
        rw [if_neg h1]
        simp only [h1', Bool.false_eq_true, if_false]
        rw [if_neg (by omega)]
        omega
    · simp
theorem hexI_fnd (c : UInt8) : hexI c = fndFrom hexD c 0 := by
  have := fnd_index hexD c 0
  have hge := Lib.indexByte_ge hexD c
  unfold hexI
  rw [this]
  split <;> omega
set_option maxRecDepth 100000 in
theorem ref04_value (c : UInt8) (w : World) : Calls Tryd.prog 81 #[.int .u8 (c.toNat : Int)] w fun e w' => e = .returned (.int .i64 (hexI c)) ∧ w = w' := by
  have HF : Hid (hexI c = fndFrom (hexD.drop 0) c 0) := hexI_fnd c
  generalize hexI c = R at HF ⊢
  go_enter Tryd.func81, Tryd.ntmps81
  go_wp2_with fail
  go_loop [3] (fun i => ∃ k : Nat, k ≤ 16 ∧ i = .int .i64 k ∧ Hid (R = fndFrom (hexD.drop k) c k)) (fun i => 16 - (intOf i).toNat)
  case atStart => exact ⟨0, by omega, rfl, HF⟩
  case round =>
    clear HF
    obtain ⟨k, hk, rfl, HF⟩ := hrel
    by_cases hlt : k < 16
    · have hd : hexD.drop k = hexD[k]'hlt :: hexD.drop (k + 1) := List.drop_eq_getElem_cons hlt
      have he : (hexD[k]'hlt == c) = (((hexD[k]'hlt).toNat : Int) == (c.toNat : Int)) := by
        rw [Bool.eq_iff_iff, beq_iff_eq, beq_iff_eq, ← UInt8.toNat_inj]
        omega
      have HF2 : Hid (R = if (((hexD[k]'hlt).toNat : Int) == (c.toNat : Int)) = true then (k : Int) else fndFrom (hexD.drop (k + 1)) c (k + 1)) := by
        show R = _
        rw [HF.out, hd, fndFrom, he]
      clear HF hd he
      cases hq : (((hexD[k]'hlt).toNat : Int) == (c.toNat : Int))
      · go_wp2_with fail
        go_round
        case rel => exact ⟨k + 1, hlt, by go_num, HF2.out.trans (by rw [hq]; rfl)⟩
        case measure => simp [intOf]; omega
      · go_wp2_with fail
        go_ret
        exact ⟨ret1d (by rw [HF2.out, if_pos hq]; rfl), rfl⟩
    · go_wp2_with fail
      go_ret
      exact ⟨ret1d (by rw [HF.out, List.drop_of_length_le (by show 16 ≤ k; omega)]; rfl), rfl⟩
