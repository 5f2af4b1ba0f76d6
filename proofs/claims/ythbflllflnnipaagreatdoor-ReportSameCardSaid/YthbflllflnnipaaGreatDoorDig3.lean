/-
  Numbers as digits: a text's value, the document's.
-/
import Derived.Test.YthbflllflnnipaaGreatDoorDig1
namespace Go.Proofs.YthbflllflnnipaaGreatDoor
set_option linter.unusedSimpArgs false
set_option linter.unusedVariables false
set_option linter.unusedSectionVars false
open Go.ChangeShapes Go.WideShapes Go.ChangeAt Go.RowKit Go.Deep Go.Shelf

def vlE (s : List UInt8) : Option Int → Int × Bool
  | some n => (n, !s.isEmpty)
  | none => (0, false)
set_option maxHeartbeats 4000000 in
set_option maxRecDepth 100000 in
theorem ref03_value (s : List UInt8) (hm : s.length ≤ 1048576) (w : World) :
    Calls Tryz.prog 124 #[bstr s] w fun e w' => e = .returned (.tuple #[.int .i64 (vlF s).1, .bool (vlF s).2]) ∧ w = w' := by
  have HF : Hid (vlF s = vlE s (vlGo s 0)) := by show _ = _; unfold vlF vlE; rfl
  have HG : Hid (vlGo s 0 = vlGo (s.drop 0) 0) := rfl
  generalize vlF s = R at HF ⊢
  generalize vlGo s 0 = V at HF HG
  obtain ⟨r1, r2⟩ := R
  go_enter Tryz.func124, Tryz.ntmps124
  go_wp2_with fail
  go_loop [4, 5] (fun nv i => ∃ (k : Nat) (n : Int), k ≤ s.length ∧ i = .int .i64 k ∧ nv = .int .i64 n ∧ -9223372036854775808 ≤ n ∧ n ≤ 0 ∧ Hid (V = vlGo (s.drop k) n)) (fun _ i => s.length - (intOf i).toNat)
  case atStart => exact ⟨0, 0, by omega, rfl, rfl, by omega, by omega, HG⟩
  case round =>
    clear HG
    obtain ⟨k, n, hk, rfl, rfl, hn0, hn1, HG⟩ := hrel
    by_cases hlt : k < s.length
    · have hc := s[k].toNat_lt
      have hE : V = if (s[k].toNat : Int) < 48 ∨ 57 < (s[k].toNat : Int) then none else if n < -922337203685477580 ∨ (n = -922337203685477580 ∧ 8 < (s[k].toNat : Int) - 48) then none else vlGo (s.drop (k + 1)) (10 * n - ((s[k].toNat : Int) - 48)) := by rw [HG.out, List.drop_eq_getElem_cons hlt, vlGo]
      have HE := Lib.hid hE
      clear hE HG
      by_cases t1 : (s[k].toNat : Int) < 48
      · have hr : (r1, r2) = (0, false) := by rw [HF.out, HE.out, if_pos (.inl t1)]; rfl
        obtain ⟨rfl, rfl⟩ := Prod.mk.inj hr
        clear hr HF HE
        go_wp2_with fail
        go_ret2
        exact ⟨rfl, rfl⟩
      by_cases t2 : 57 < (s[k].toNat : Int)
      · have hr : (r1, r2) = (0, false) := by rw [HF.out, HE.out, if_pos (.inr t2)]; rfl
        obtain ⟨rfl, rfl⟩ := Prod.mk.inj hr
        clear hr HF HE
        go_wp2_with fail
        go_ret2
        exact ⟨rfl, rfl⟩
      have s1 : IntKind.u8.wrap ((s[k].toNat : Int) - 48) = (s[k].toNat : Int) - 48 := IntWalk.u8_in _ (by omega)
      have s2 : IntKind.i64.wrap ((s[k].toNat : Int) - 48) = (s[k].toNat : Int) - 48 := IntWalk.i64_in _ (by omega)
      have s3 : ((s[k].toNat : Int) - 48) % 256 = (s[k].toNat : Int) - 48 := by omega
      have s4 : wrap64 ((s[k].toNat : Int) - 48) = (s[k].toNat : Int) - 48 := by unfold wrap64; omega
      by_cases t3 : n < -922337203685477580
      · have hr : (r1, r2) = (0, false) := by rw [HF.out, HE.out, if_neg (by omega), if_pos (.inl t3)]; rfl
        obtain ⟨rfl, rfl⟩ := Prod.mk.inj hr
        clear hr HF HE
        go_wp2_with fail
        go_ret2
        exact ⟨rfl, rfl⟩
      cases t4 : (n == -922337203685477580)
      · have t4' : ¬ n = -922337203685477580 := by simpa using t4
        have HN : Hid (V = vlGo (s.drop (k + 1)) (10 * n - ((s[k].toNat : Int) - 48))) := by show _ = _; rw [HE.out, if_neg (by omega), if_neg (by omega)]
        have s5 : IntKind.i64.wrap (10 * n) = 10 * n := IntWalk.i64_in _ (by omega)
        have s6 : IntKind.i64.wrap (10 * n - ((s[k].toNat : Int) - 48)) = 10 * n - ((s[k].toNat : Int) - 48) := IntWalk.i64_in _ (by omega)
        have s7 : wrap64 (10 * n) = 10 * n := by unfold wrap64; omega
        have s8 : wrap64 (10 * n - ((s[k].toNat : Int) - 48)) = 10 * n - ((s[k].toNat : Int) - 48) := by unfold wrap64; omega
        clear HF HE
        go_wp2_with fail
        go_round
        case rel => exact ⟨k + 1, 10 * n - ((s[k].toNat : Int) - 48), hlt, by go_num, by first | rfl | go_num, by omega, by omega, HN⟩
        case measure => simp [intOf]; omega
      · have t4' : n = -922337203685477580 := by simpa using t4
        by_cases t5 : 8 < (s[k].toNat : Int) - 48
        · have hr : (r1, r2) = (0, false) := by rw [HF.out, HE.out, if_neg (by omega), if_pos (.inr ⟨t4', t5⟩)]; rfl
          obtain ⟨rfl, rfl⟩ := Prod.mk.inj hr
          clear hr HF HE
          go_wp2_with fail
          go_ret2
          exact ⟨rfl, rfl⟩
        · have HN : Hid (V = vlGo (s.drop (k + 1)) (10 * n - ((s[k].toNat : Int) - 48))) := by show _ = _; rw [HE.out, if_neg (by omega), if_neg (by omega)]
          have s5 : IntKind.i64.wrap (10 * n) = 10 * n := IntWalk.i64_in _ (by omega)
          have s6 : IntKind.i64.wrap (10 * n - ((s[k].toNat : Int) - 48)) = 10 * n - ((s[k].toNat : Int) - 48) := IntWalk.i64_in _ (by omega)
          have s7 : wrap64 (10 * n) = 10 * n := by unfold wrap64; omega
          have s8 : wrap64 (10 * n - ((s[k].toNat : Int) - 48)) = 10 * n - ((s[k].toNat : Int) - 48) := by unfold wrap64; omega
          clear HF HE
          go_wp2_with fail
          go_round
          case rel => exact ⟨k + 1, 10 * n - ((s[k].toNat : Int) - 48), hlt, by go_num, by first | rfl | go_num, by omega, by omega, HN⟩
          case measure => simp [intOf]; omega
    · have hr : (r1, r2) = (n, !s.isEmpty) := by rw [HF.out, HG.out, List.drop_of_length_le (by omega)]; rfl
      obtain ⟨rfl, rfl⟩ := Prod.mk.inj hr
      clear hr HF HG
      have hd : decide ((0 : Int) < s.length) = !s.isEmpty := by cases s <;> simp <;> omega
      have HD := Lib.hid hd
      clear hd
      go_wp2_with fail
      go_ret2
      exact ⟨by rw [← HD.out]; first | rfl | simp, rfl⟩
