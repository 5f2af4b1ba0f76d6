/-
  Words: two digits; back from a word, the program's.
-/
import Derived.Test.YtjdgkkmhlbjdnaaDoorWord1
import Derived.Test.YtjdgkkmhlbjdnaaDoorQm
namespace Go.Proofs.YtjdgkkmhlbjdnaaDoor
set_option linter.unusedSimpArgs false
set_option linter.unusedVariables false
set_option linter.unusedSectionVars false
open Go.ChangeShapes Go.WideShapes Go.ChangeAt Go.RowKit Go.Deep Go.Shelf

theorem toUInt8_back (c : UInt8) : ((c.toNat : Int).toNat).toUInt8 = c := by simp
theorem hex_index (c : UInt8) (w : World) : Calls Tryd.prog 73 #[bstr hexD, .int .u8 (c.toNat : Int)] w fun e w' => e = .returned (.int .i64 (hexI c)) ∧ w = w' :=
  (Tryd.strings_IndexByte ⟨hexD.toArray⟩ c.toNat w).mono fun e w' ⟨he, hw⟩ => ⟨by rw [he, toUInt8_back]; rfl, hw.symm⟩
theorem or_hex {p q : Int} (p0 : 0 ≤ p) (p1 : p ≤ 15) (q0 : 0 ≤ q) (q1 : q ≤ 15) : bits .or .i64 (p * 16) q % 256 = 16 * p + q := by
  have h : ∀ a b : Fin 16, bits .or .i64 ((a.val : Int) * 16) (b.val : Int) % 256 = 16 * (a.val : Int) + (b.val : Int) := by decide +kernel
  obtain ⟨a, rfl⟩ : ∃ a : Nat, p = a := ⟨p.toNat, by omega⟩
  obtain ⟨b, rfl⟩ : ∃ b : Nat, q = b := ⟨q.toNat, by omega⟩
  exact h ⟨a, by omega⟩ ⟨b, by omega⟩
def twoF : List UInt8 → UInt8 × Bool
  | h :: l :: _ => if 0 ≤ hexI h ∧ 0 ≤ hexI l then (byteOf h l, true) else (0, false)
  | _ => (0, false)
set_option maxHeartbeats 2000000 in
set_option maxRecDepth 100000 in
theorem words_two (l : List UInt8) (hm : l.length ≤ 1048576) (w : World) :
    Calls Tryd.prog 80 #[bstr l] w fun e w' => e = .returned (.tuple #[.int .u8 ((twoF l).1.toNat : Int), .bool (twoF l).2]) ∧ ∃ j, w' = w.more j := by
  match l, hm with
  | [], _ =>
    go_enter Tryd.func80, Tryd.ntmps80
    go_wp2_with fail
    go_ret2
    exact ⟨rfl, Below.junk (by repeat (first | (with_reducible exact Below.refl _ _) | (with_reducible refine Below.allocS ?_ _) | (with_reducible refine Below.moreS ?_ _) | (with_reducible refine Below.drew ?_) | (with_reducible refine below_drewN ?_ _)))⟩
  | [c], _ =>
    go_enter Tryd.func80, Tryd.ntmps80
    go_wp2_with fail
    go_ret2
    exact ⟨rfl, Below.junk (by repeat (first | (with_reducible exact Below.refl _ _) | (with_reducible refine Below.allocS ?_ _) | (with_reducible refine Below.moreS ?_ _) | (with_reducible refine Below.drew ?_) | (with_reducible refine below_drewN ?_ _)))⟩
  | h :: x :: r, hm =>
    have b1 := hexI_bd h
    have b2 := hexI_bd x
    have HB : Hid (0 ≤ hexI h → 0 ≤ hexI x → (byteOf h x).toNat = 16 * (hexI h).toNat + (hexI x).toNat) := byteOf_nat
    have HI : Hid (∀ W, Calls Tryd.prog 73 #[bstr hexD, .int .u8 (h.toNat : Int)] W fun e w' => e = .returned (.int .i64 (hexI h)) ∧ W = w') := hex_index h
    have HX : Hid (∀ W, Calls Tryd.prog 73 #[bstr hexD, .int .u8 (x.toNat : Int)] W fun e w' => e = .returned (.int .i64 (hexI x)) ∧ W = w') := hex_index x
    have HF : Hid (twoF (h :: x :: r) = if 0 ≤ hexI h ∧ 0 ≤ hexI x then (byteOf h x, true) else (0, false)) := rfl
    generalize hexI h = p at *
    generalize hexI x = q at *
    generalize twoF (h :: x :: r) = T at *
    generalize byteOf h x = bb at *
    have hm' : r.length ≤ 1048574 := by simp at hm; omega
    have i1 : 0 < (r.length : Int) + 1 + 1 := by omega
    have i2 : 1 < (r.length : Int) + 1 + 1 := by omega
    have i3 : (0 : Int) < (r.length : Int) + 1 := by omega
    clear hm
    go_enter Tryd.func80, Tryd.ntmps80
    go_wp2_with fail
    refine wp_region_more (by kernel_rfl) (by kernel_rfl) ?_
    repeat (quiet_step (first | (go_at_call 73; exact more_of_same (HI.out _)) | (go_at_call 73; exact more_of_same (HX.out _))))
    refine wpQuiet_nil ?_
    intro w' hw'
    obtain ⟨j, rfl⟩ := hw'
    by_cases c1 : 0 ≤ p <;> by_cases c2 : 0 ≤ q
    all_goals go_wp2_with fail
    all_goals first
      | (exfalso; omega)
      | go_ret2
    · have e := or_hex c1 b1.2 c2 b2.2
      have e2 := HB.out c1 c2
      refine ⟨?_, Below.junk (by repeat (first | (with_reducible exact Below.refl _ _) | (with_reducible refine Below.allocS ?_ _) | (with_reducible refine Below.moreS ?_ _) | (with_reducible refine Below.drew ?_) | (with_reducible refine below_drewN ?_ _)))⟩
      rw [HF.out, if_pos ⟨c1, c2⟩]
      show Ending.returned (.tuple #[.int .u8 (bits .or .i64 (p * 16) q % 256), .bool true]) = _
      rw [e]
      have : ((bb.toNat : Nat) : Int) = 16 * p + q := by omega
      rw [← this]
    all_goals
      refine ⟨?_, Below.junk (by repeat (first | (with_reducible exact Below.refl _ _) | (with_reducible refine Below.allocS ?_ _) | (with_reducible refine Below.moreS ?_ _) | (with_reducible refine Below.drew ?_) | (with_reducible refine below_drewN ?_ _)))⟩
      rw [HF.out, if_neg (by omega)]
      rfl
