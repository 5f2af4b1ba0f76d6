/-
  Words: back from a word, the document's.
-/
import Derived.Test.YtjdgkkmhlbjdnaaDoorWord5
import Derived.StillTailTactics
namespace Go.Proofs.YtjdgkkmhlbjdnaaDoor
set_option linter.unusedSimpArgs false
set_option linter.unusedVariables false
set_option linter.unusedSectionVars false
open Go.ChangeShapes Go.WideShapes Go.ChangeAt Go.RowKit Go.Deep Go.Shelf

set_option maxHeartbeats 8000000 in
set_option maxRecDepth 100000 in
theorem ref04_Unquote (l : List UInt8) (hm : l.length ≤ 1048576) (w : World) :
    Calls Tryd.prog 32 #[bstr l] w fun e w' => e = .returned (.tuple #[bstr (unquoteR l).1, .bool (unquoteR l).2]) ∧ ∃ j, w' = w.more j := by
  by_cases h0 : l = [37]
  · subst h0
    go_enter Tryd.func32, Tryd.ntmps32
    go_wp2_with fail
    go_ret2
    exact ⟨rfl, Below.junk (by repeat (first | (with_reducible exact Below.refl _ _) | (with_reducible refine Below.allocS ?_ _) | (with_reducible refine Below.moreS ?_ _) | (with_reducible refine Below.drew ?_) | (with_reducible refine below_drewN ?_ _)))⟩
  have hne : (l == [37]) = false := by simpa using h0
  have HF : Hid (unquoteR l = unrE l (unqR l)) := by show unquoteR l = _; rw [unquoteR, if_neg h0]; cases unqR l <;> rfl
  clear h0
  go_enter Tryd.func32, Tryd.ntmps32
  go_wp2_with fail
  go_loopg [4, 5] l.length (fun g v i wr => ∃ (k : Nat) (acc : List UInt8), k + g = l.length ∧ i = .int .i64 k ∧ acc.length ≤ k ∧ OwnB w.heap.size wr v acc ∧ Below w.heap.size w wr ∧ Hid (unqR l = unrB acc (unqR (l.drop k))))
  case atStart => exact ⟨0, [], by omega, rfl, by simp, World.ownsRow_lit (base := w.heap.size) (e := 5) (size := 1) w #[] 0 (Nat.le_refl _) (by decide) rfl, Below.allocS (Below.refl _ _) _, by show _ = _; simp [unrB]⟩
  case round =>
    obtain ⟨k, acc, hkg, rfl, hak, HO, hb, HU⟩ := hrel
    by_cases hlt : k < l.length
    · have HK := Lib.hid hkg
      have HO' := Lib.hid HO
      have HB := Lib.hid hb
      have hzb := hb.size
      have hd : l.drop k = l[k] :: l.drop (k + 1) := List.drop_eq_getElem_cons hlt
      have h37 : (l[k] == 37) = ((l[k].toNat : Int) == 37) := by
        rw [Bool.eq_iff_iff, beq_iff_eq, beq_iff_eq, ← UInt8.toNat_inj]
        show l[k].toNat = 37 ↔ _
        omega
      clear hkg HO hb
      cases c37 : ((l[k].toNat : Int) == 37) with
      | false =>
        have c37n : ((l[k].toNat : Int) != 37) = true := by rw [bne, c37]; rfl
        have HU2 : Hid (unqR l = unrB (acc ++ [l[k]]) (unqR (l.drop (k + 1)))) := by show _ = _; rw [HU.out, hd, unqR_plain (by rw [h37]; exact c37), unrB_map]
        clear hd h37
        go_wp2_with (at_builtin; refine app_byte (.tmp 20) (.tmp 24) rfl rfl rfl (HO'.out.alloc _) rfl (Blk.new _ _ _) (by omega) (by rw [World.size_alloc]; omega) ?_; intro v' w1 hown hbw)
        have hb2 := HB.out.trans (((Below.refl w.heap.size wr).alloc HB.out.size _).trans hbw)
        clear hbw
        go_wp2_with fail
        go_roundg (l.length - (k + 1))
        case measure => have := HK.out; omega
        case rel => exact ⟨k + 1, acc ++ [l[k]], by omega, by go_num, by simp; omega, hown, hb2, HU2⟩
      | true =>
        have c37n : ((l[k].toNat : Int) != 37) = false := by rw [bne, c37]; rfl
        by_cases h3 : k + 2 < l.length
        · have hd2 : l.drop (k + 1) = l[k + 1] :: l.drop (k + 2) := List.drop_eq_getElem_cons (by omega)
          have hd3 : l.drop (k + 2) = l[k + 2] :: l.drop (k + 3) := List.drop_eq_getElem_cons h3
          obtain ⟨x1, e1⟩ : ∃ x, l[k + 1] = x := ⟨_, rfl⟩
          obtain ⟨x2, e2⟩ : ∃ x, l[k + 2] = x := ⟨_, rfl⟩
          rw [e1] at hd2
          rw [e2] at hd3
          have hE : unqR l = unrB acc (if 0 ≤ hexI x1 ∧ 0 ≤ hexI x2 then (unqR (l.drop (k + 3))).map (byteOf x1 x2 :: ·) else none) := by rw [HU.out, hd, unqR_esc (by rw [h37]; exact c37), hd2, hd3]
          have HV1 : Hid (∀ W, Calls Tryd.prog 81 #[.int .u8 (x1.toNat : Int)] W fun e w' => e = .returned (.int .i64 (hexI x1)) ∧ W = w') := ref04_value x1
          have HV2 : Hid (∀ W, Calls Tryd.prog 81 #[.int .u8 (x2.toNat : Int)] W fun e w' => e = .returned (.int .i64 (hexI x2)) ∧ W = w') := ref04_value x2
          have b1 := hexI_bd x1
          have b2 := hexI_bd x2
          have hbn : 0 ≤ hexI x1 → 0 ≤ hexI x2 → (byteOf x1 x2).toNat = 16 * (hexI x1).toNat + (hexI x2).toNat := byteOf_nat
          generalize hexI x1 = p at *
          generalize hexI x2 = q at *
          generalize byteOf x1 x2 = bb at *
          have HE := Lib.hid hE
          have HBN := Lib.hid hbn
          clear hd h37 hd2 hd3 hE hbn
          by_cases pq : 0 ≤ p ∧ 0 ≤ q
          · obtain ⟨p0, q0⟩ := pq
            have HU2 : Hid (unqR l = unrB (acc ++ [bb]) (unqR (l.drop (k + 3)))) := by show _ = _; rw [HE.out, if_pos ⟨p0, q0⟩, unrB_map]
            have hbs : (16 * p + q) % 256 = (bb.toNat : Int) := by have := HBN.out p0 q0; omega
            go_wp2_with (first
              | (go_at_call 81; (with_reducible refine (HV1.out _).mono ?_); rintro e w' ⟨rfl, rfl⟩)
              | (go_at_call 81; (with_reducible refine (HV2.out _).mono ?_); rintro e w' ⟨rfl, rfl⟩))
            have s1 : IntKind.i64.wrap ((k : Int) + 1) = (k : Int) + 1 := IntWalk.i64_in _ (by omega)
            have s2 : IntKind.i64.wrap ((k : Int) + 2) = (k : Int) + 2 := IntWalk.i64_in _ (by omega)
            have s3 : IntKind.i64.wrap (16 * p) = 16 * p := IntWalk.i64_in _ (by omega)
            have s4 : IntKind.i64.wrap (16 * p + q) = 16 * p + q := IntWalk.i64_in _ (by omega)
            have s5 : ((k : Int) + 1).toNat = k + 1 := by omega
            have s6 : ((k : Int) + 2).toNat = k + 2 := by omega
            have s7 : (0 : Int) ≤ (k : Int) + 1 := by omega
            have s8 : (0 : Int) ≤ (k : Int) + 2 := by omega
            have s9 : (k : Int) + 1 < l.length := by omega
            have s10 : (k : Int) + 2 < l.length := by omega
            have s11 : IntKind.u8.wrap (16 * p + q) = (bb.toNat : Int) := by rw [IntWalk.u8_in _ (by omega)]; omega
            go_region_law (first
              | (refine step_byte (.tmp 47) (.tmp 61) rfl rfl rfl (HO'.out.alloc _).drew rfl (Blk.new _ _ _).drew (by omega) (by rw [World.size_drew, World.size_alloc]; omega) ?_; intro v' w1 hown hbw)
              | (go_simp; (first | (go_at_call 81; (with_reducible refine (HV1.out _).mono ?_); rintro e w' ⟨rfl, rfl⟩) | (go_at_call 81; (with_reducible refine (HV2.out _).mono ?_); rintro e w' ⟨rfl, rfl⟩))))
            all_goals
              have hb2 := HB.out.trans (((Below.refl w.heap.size wr).alloc HB.out.size _).drew.trans hbw)
              clear hbw
              go_wp2_with fail
              go_roundg (l.length - (k + 3))
              case measure => have := HK.out; omega
              case rel => exact ⟨k + 3, acc ++ [bb], by omega, by go_num, by simp; omega, hown, hb2, HU2⟩
          · have HR : Hid (unquoteR l = ([], false)) := by show _ = _; rw [HF.out, HE.out, if_neg pq]; rfl
            by_cases p0 : 0 ≤ p
            · have q0 : ¬ 0 ≤ q := fun h => pq ⟨p0, h⟩
              clear pq
              go_wp2_with (first
                | (go_at_call 81; (with_reducible refine (HV1.out _).mono ?_); rintro e w' ⟨rfl, rfl⟩)
                | (go_at_call 81; (with_reducible refine (HV2.out _).mono ?_); rintro e w' ⟨rfl, rfl⟩))
              go_ret2
              exact ⟨by rw [HR.out]; rfl, HB.out.junk⟩
            · clear pq
              go_wp2_with (first
                | (go_at_call 81; (with_reducible refine (HV1.out _).mono ?_); rintro e w' ⟨rfl, rfl⟩)
                | (go_at_call 81; (with_reducible refine (HV2.out _).mono ?_); rintro e w' ⟨rfl, rfl⟩))
              go_ret2
              exact ⟨by rw [HR.out]; rfl, HB.out.junk⟩
        · have hE : unqR l = none := by
            rw [HU.out, hd, unqR_esc (by rw [h37]; exact c37)]
            have : (l.drop (k + 1)).length ≤ 1 := by simp; omega
            match l.drop (k + 1), this with
            | [], _ => rfl
            | [_], _ => rfl
            | _ :: _ :: _, h => simp at h
          have HR : Hid (unquoteR l = ([], false)) := by show _ = _; rw [HF.out, hE]; rfl
          have h3' : (l.length : Int) ≤ (k : Int) + 2 := by omega
          clear hd h37 hE h3
          go_wp2_with fail
          go_ret2
          exact ⟨by rw [HR.out]; rfl, HB.out.junk⟩
    · have hU : unqR l = some acc := by rw [HU.out, List.drop_of_length_le (by omega), unrB_nil]
      have HR : Hid (unquoteR l = if quoteF acc = l then (acc, true) else ([], false)) := by show _ = _; rw [HF.out, hU]; rfl
      have HQ : Hid (∀ W, Calls Tryd.prog 33 #[bstr acc] W fun e w' => e = .returned (bstr (quoteF acc)) ∧ ∃ j, w' = W.more j) := ref04_Quote acc (by omega)
      have ht := HO.text
      have HB := Lib.hid hb
      clear hU HU HF hb
      generalize quoteF acc = Q at HR HQ
      cases hq : (Q == l)
      · have hqn : (Q != l) = true := by rw [bne, hq]; rfl
        have HRn : Hid (unquoteR l = ([], false)) := by show _ = _; rw [HR.out, if_neg (by simpa using hq)]
        clear HR
        go_wp2_with (go_at_call 33; refine (HQ.out _).mono ?_; rintro e w' ⟨rfl, j, rfl⟩)
        go_ret2
        exact ⟨by rw [HRn.out]; rfl, (HB.out.trans ((Below.moreS (Below.refl _ _) j).mono HB.out.size)).junk⟩
      · have hqn : (Q != l) = false := by rw [bne, hq]; rfl
        have HRn : Hid (unquoteR l = (acc, true)) := by show _ = _; rw [HR.out, if_pos (by simpa using hq)]
        clear HR
        go_wp2_with (go_at_call 33; refine (HQ.out _).mono ?_; rintro e w' ⟨rfl, j, rfl⟩)
        go_ret2
        exact ⟨by rw [HRn.out]; rfl, (HB.out.trans ((Below.moreS (Below.refl _ _) j).mono HB.out.size)).junk⟩
