/-
  Digits of base sixteen: back to bytes, the document's.
-/
import Derived.Test.YtjdgkkmhlbjdnaaDoorHex1
namespace Go.Proofs.YtjdgkkmhlbjdnaaDoor
set_option linter.unusedSimpArgs false
set_option linter.unusedVariables false
open Go.ChangeShapes Go.WideShapes Go.ChangeAt Go.RowKit Go.Deep Go.Shelf

def unhE : Option (List UInt8) → List UInt8 × Bool
  | some o => (o, true)
  | none => ([], false)
theorem unhexF_E (l : List UInt8) : unhexF l = unhE (unhx l) := by unfold unhexF unhE; rfl
theorem unhx_two {l : List UInt8} {a b : UInt8} : unhx (a :: b :: l) = if 0 ≤ hexI a ∧ 0 ≤ hexI b then (unhx l).map (byteOf a b :: ·) else none := by rw [unhx]

set_option maxHeartbeats 8000000 in
set_option maxRecDepth 100000 in
theorem ref04_Unhex (l : List UInt8) (hm : l.length ≤ 1048576) (w : World) :
    Calls Tryd.prog 36 #[bstr l] w fun e w' => ∃ v, e = .returned (.tuple #[v, .bool (unhexF l).2]) ∧ OwnB w.heap.size w' v (unhexF l).1 ∧ ∃ j, w' = w.more j := by
  by_cases hodd : l.length % 2 = 1
  · have HR : Hid (unhexF l = ([], false)) := by show _ = _; rw [unhexF_E, unhx_odd _ l (Nat.le_refl _) hodd]; rfl
    have t1 : (l.length : Int) % 2 = 1 := by omega
    have t1' : ((l.length : Int).tmod 2) = 1 := by rw [Int.tmod_eq_emod_of_nonneg (by omega)]; exact t1
    go_enter Tryd.func36, Tryd.ntmps36
    go_wp2_with fail
    go_ret2
    exact ⟨_, by rw [HR.out]; rfl, by rw [HR.out]; exact OwnB.nil _ _, Below.junk (by repeat (first | (with_reducible exact Below.refl _ _) | (with_reducible refine Below.allocS ?_ _) | (with_reducible refine Below.moreS ?_ _) | (with_reducible refine Below.drew ?_) | (with_reducible refine below_drewN ?_ _)))⟩
  have t1 : (l.length : Int) % 2 = 0 := by omega
  have t1' : ((l.length : Int).tmod 2) = 0 := by rw [Int.tmod_eq_emod_of_nonneg (by omega)]; exact t1
  have HEV : Hid (l.length % 2 = 0) := by show _ = _; omega
  have HF : Hid (unhexF l = unhE (unhx l)) := unhexF_E l
  clear hodd
  go_enter Tryd.func36, Tryd.ntmps36
  go_wp2_with fail
  clear t1 t1'
  go_loopg [4, 5] l.length (fun g v i wr => ∃ (k : Nat) (acc : List UInt8), k + g = l.length ∧ i = .int .i64 k ∧ acc.length ≤ k ∧ k % 2 = 0 ∧ OwnB w.heap.size wr v acc ∧ Below w.heap.size w wr ∧ Hid (unhx l = unrB acc (unhx (l.drop k))))
  case atStart => exact ⟨0, [], by omega, rfl, by simp, rfl, OwnB.nil _ _, Below.refl _ _, by show _ = _; simp [unrB]⟩
  case round =>
    obtain ⟨k, acc, hkg, rfl, hak, hev, HO, hb, HU⟩ := hrel
    by_cases hlt : k < l.length
    · have hlt2 : k + 1 < l.length := by have := HEV.out; omega
      have HK := Lib.hid hkg
      have HV := Lib.hid hev
      have HO' := Lib.hid HO
      have HB := Lib.hid hb
      have hzb := hb.size
      have hd : l.drop k = l[k] :: l.drop (k + 1) := List.drop_eq_getElem_cons hlt
      have hd2 : l.drop (k + 1) = l[k + 1] :: l.drop (k + 2) := List.drop_eq_getElem_cons hlt2
      obtain ⟨x1, e1⟩ : ∃ x, l[k] = x := ⟨_, rfl⟩
      obtain ⟨x2, e2⟩ : ∃ x, l[k + 1] = x := ⟨_, rfl⟩
      rw [e1] at hd
      rw [e2] at hd2
      have hE : unhx l = unrB acc (if 0 ≤ hexI x1 ∧ 0 ≤ hexI x2 then (unhx (l.drop (k + 2))).map (byteOf x1 x2 :: ·) else none) := by rw [HU.out, hd, hd2, unhx_two]
      have HV1 : Hid (∀ W, Calls Tryd.prog 81 #[.int .u8 (x1.toNat : Int)] W fun e w' => e = .returned (.int .i64 (hexI x1)) ∧ W = w') := ref04_value x1
      have HV2 : Hid (∀ W, Calls Tryd.prog 81 #[.int .u8 (x2.toNat : Int)] W fun e w' => e = .returned (.int .i64 (hexI x2)) ∧ W = w') := ref04_value x2
      have b1 := hexI_bd x1
      have b2 := hexI_bd x2
      have hbn : 0 ≤ hexI x1 → 0 ≤ hexI x2 → (byteOf x1 x2).toNat = 16 * (hexI x1).toNat + (hexI x2).toNat := byteOf_nat
      generalize hexI x1 = p at *
      generalize hexI x2 = q at *
      generalize byteOf x1 x2 = bb at *
      have HE := Lib.hid hE
      have HBN := Lib.hid hbn
      clear hd hd2 hE hbn hkg HO hb hev
      have s1 : IntKind.i64.wrap ((k : Int) + 1) = (k : Int) + 1 := IntWalk.i64_in _ (by omega)
      have s5 : ((k : Int) + 1).toNat = k + 1 := by omega
      have s7 : (0 : Int) ≤ (k : Int) + 1 := by omega
      have s9 : (k : Int) + 1 < l.length := by omega
      by_cases pq : 0 ≤ p ∧ 0 ≤ q
      · obtain ⟨p0, q0⟩ := pq
        have HU2 : Hid (unhx l = unrB (acc ++ [bb]) (unhx (l.drop (k + 2)))) := by show _ = _; rw [HE.out, if_pos ⟨p0, q0⟩, unrB_map]
        have hbs : (16 * p + q) % 256 = (bb.toNat : Int) := by have := HBN.out p0 q0; omega
        go_wp2_with (first
          | (go_at_call 81; (with_reducible refine (HV1.out _).mono ?_); rintro e w' ⟨rfl, rfl⟩)
          | (go_at_call 81; (with_reducible refine (HV2.out _).mono ?_); rintro e w' ⟨rfl, rfl⟩))
        have s3 : IntKind.i64.wrap (16 * p) = 16 * p := IntWalk.i64_in _ (by omega)
        have s4 : IntKind.i64.wrap (16 * p + q) = 16 * p + q := IntWalk.i64_in _ (by omega)
        have s11 : IntKind.u8.wrap (16 * p + q) = (bb.toNat : Int) := by rw [IntWalk.u8_in _ (by omega)]; omega
        go_region_law (first
          | (refine step_byte (.tmp 29) (.tmp 42) rfl rfl rfl (HO'.out.alloc _).drew rfl (Blk.new _ _ _).drew (by omega) (by rw [World.size_drew, World.size_alloc]; omega) ?_; intro v' w1 hown hbw)
          | (go_simp; (first | (go_at_call 81; (with_reducible refine (HV1.out _).mono ?_); rintro e w' ⟨rfl, rfl⟩) | (go_at_call 81; (with_reducible refine (HV2.out _).mono ?_); rintro e w' ⟨rfl, rfl⟩))))
        all_goals
          have hb2 := HB.out.trans (((Below.refl w.heap.size wr).alloc HB.out.size _).drew.trans hbw)
          clear hbw
          go_wp2_with fail
          go_roundg (l.length - (k + 2))
          case measure => have := HK.out; omega
          case rel => exact ⟨k + 2, acc ++ [bb], by omega, by go_num, by simp; omega, by have := HV.out; omega, hown, hb2, HU2⟩
      · have HR : Hid (unhexF l = ([], false)) := by show _ = _; rw [HF.out, HE.out, if_neg pq]; rfl
        by_cases p0 : 0 ≤ p
        · have q0 : ¬ 0 ≤ q := fun h => pq ⟨p0, h⟩
          clear pq
          go_wp2_with (first
            | (go_at_call 81; (with_reducible refine (HV1.out _).mono ?_); rintro e w' ⟨rfl, rfl⟩)
            | (go_at_call 81; (with_reducible refine (HV2.out _).mono ?_); rintro e w' ⟨rfl, rfl⟩))
          go_ret2
          exact ⟨_, by rw [HR.out]; rfl, by rw [HR.out]; exact OwnB.nil _ _, HB.out.junk⟩
        · clear pq
          go_wp2_with (first
            | (go_at_call 81; (with_reducible refine (HV1.out _).mono ?_); rintro e w' ⟨rfl, rfl⟩)
            | (go_at_call 81; (with_reducible refine (HV2.out _).mono ?_); rintro e w' ⟨rfl, rfl⟩))
          go_ret2
          exact ⟨_, by rw [HR.out]; rfl, by rw [HR.out]; exact OwnB.nil _ _, HB.out.junk⟩
    · have HR : Hid (unhexF l = (acc, true)) := by show _ = _; rw [HF.out, HU.out, List.drop_of_length_le (by omega)]; simp [unhx, unrB, unhE]
      go_wp2_with fail
      go_ret2
      exact ⟨_, by rw [HR.out]; rfl, by rw [HR.out]; exact HO, hb.junk⟩
