/-
  Digits of base sixteen: back to bytes, the program's.
-/
import Derived.Test.YtjdgkkmhlbjdnaaDoorHex2
import Derived.Test.YtjdgkkmhlbjdnaaDoorHex3
namespace Go.Proofs.YtjdgkkmhlbjdnaaDoor
set_option linter.unusedSimpArgs false
set_option linter.unusedVariables false
open Go.ChangeShapes Go.WideShapes Go.ChangeAt Go.RowKit Go.Deep Go.Shelf

theorem unhx_twoF {r : List UInt8} (h2 : 2 ≤ r.length) : unhx r = if (twoF r).2 = true then (unhx (r.drop 2)).map ((twoF r).1 :: ·) else none := by
  match r, h2 with
  | a :: b :: r, _ =>
    rw [unhx_two]
    by_cases hg : 0 ≤ hexI a ∧ 0 ≤ hexI b
    · have e : twoF (a :: b :: r) = (byteOf a b, true) := if_pos hg
      rw [e, if_pos hg]; rfl
    · have e : twoF (a :: b :: r) = (0, false) := if_neg hg
      rw [e, if_neg hg]; rfl

set_option maxHeartbeats 8000000 in
set_option maxRecDepth 100000 in
theorem words_Unhex (l : List UInt8) (hm : l.length ≤ 1048576) (w : World) :
    Calls Tryd.prog 35 #[bstr l] w fun e w' => ∃ v, e = .returned (.tuple #[v, .bool (unhexF l).2]) ∧ OwnB w.heap.size w' v (unhexF l).1 ∧ ∃ j, w' = w.more j := by
  obtain ⟨i0, hi, hz0, hz1, hz2⟩ := uint8_parts
  by_cases hodd : l.length % 2 = 1
  · have HR : Hid (unhexF l = ([], false)) := by show _ = _; rw [unhexF_E, unhx_odd _ l (Nat.le_refl _) hodd]; rfl
    have t1 : (l.length : Int) % 2 = 1 := by omega
    have t1' : ((l.length : Int).tmod 2) = 1 := by rw [Int.tmod_eq_emod_of_nonneg (by omega)]; exact t1
    go_enter Tryd.func35, Tryd.ntmps35
    go_wp2_with fail
    go_ret2
    exact ⟨_, by rw [HR.out]; rfl, by rw [HR.out]; exact OwnB.nil _ _, Below.junk (by repeat (first | (with_reducible exact Below.refl _ _) | (with_reducible refine Below.allocS ?_ _) | (with_reducible refine Below.moreS ?_ _) | (with_reducible refine Below.drew ?_) | (with_reducible refine below_drewN ?_ _)))⟩
  have t1 : (l.length : Int) % 2 = 0 := by omega
  have t1' : ((l.length : Int).tmod 2) = 0 := by rw [Int.tmod_eq_emod_of_nonneg (by omega)]; exact t1
  have HF : Hid (unhexF l = unhE (unhx l)) := unhexF_E l
  clear hodd
  go_enter Tryd.func35, Tryd.ntmps35
  go_wp2_with (at_make; refine wpList_make_own _ rfl _ _ 22 rfl w.heap.size 5 i0 (.int .u8 0) 1 Tryd.underlying22 hi hz0 hz1 .i64 .i64 _ (l.length / 2) rfl rfl (by first | omega | simp) (by rw [hz2]; omega) (by unfold maxLen; omega) (Nat.le_refl _) ?_; intro w1 hown1 hgrow1)
  have HO1 := Lib.hid (own_made hown1)
  have hb1 : Below w.heap.size w w1 := (Below.refl _ _).grown hgrow1 (Nat.le_refl _) (fun k h => by cases h)
  have HEV : l.length % 2 = 0 := by omega
  clear hown1 hgrow1 t1 t1'
  have HM : Hid (l.length ≤ 1048576) := hm
  go_loopg [0, 4] l.length (fun g s v wr => ∃ (r acc : List UInt8), s = bstr r ∧ g = r.length ∧ 2 * acc.length + r.length = l.length ∧ OwnB w.heap.size wr v acc ∧ Below w.heap.size w wr ∧ Hid (unhx l = unrB acc (unhx r)))
  case atStart => exact ⟨l, [], rfl, rfl, by simp, HO1.out, hb1, by show _ = _; simp [unrB]⟩
  case round =>
    obtain ⟨r, acc, rfl, hgr, hlen, HO, hb, HU⟩ := hrel
    have hzb := hb.size
    by_cases hr0 : r = []
    · subst hr0
      have HR : Hid (unhexF l = (acc, true)) := by show _ = _; rw [HF.out, HU.out]; simp [unhx, unrB, unhE]
      go_wp2_with fail
      go_ret2
      exact ⟨_, by rw [HR.out]; rfl, by rw [HR.out]; exact HO, hb.junk⟩
    · have h2 : 2 ≤ r.length := by
        have : r.length ≠ 0 := fun h => hr0 (List.eq_nil_of_length_eq_zero h)
        omega
      have hne : r.isEmpty = false := by cases r <;> simp_all
      have hne' : (!r.isEmpty) = true := by rw [hne]; rfl
      have hnb : (r == []) = false := by simpa using hr0
      have hnb' : (r != []) = true := by rw [bne, hnb]; rfl
      have hE : unhx l = unrB acc (if (twoF r).2 = true then (unhx (r.drop 2)).map ((twoF r).1 :: ·) else none) := by rw [HU.out, unhx_twoF h2]
      have HT : Hid (∀ W, Calls Tryd.prog 80 #[bstr r] W fun e w' => e = .returned (.tuple #[.int .u8 ((twoF r).1.toNat : Int), .bool (twoF r).2]) ∧ ∃ j, w' = W.more j) := words_two r (by omega)
      generalize twoF r = T at HT hE
      obtain ⟨tb, ti⟩ := T
      simp only at HT hE
      have HE := Lib.hid hE
      have HO' := Lib.hid HO
      have HB := Lib.hid hb
      have HG := Lib.hid hgr
      have HL := Lib.hid hlen
      have hacc : acc.length ≤ 1048576 := by omega
      have hcut : (r.drop 2).take (r.length - 2) = r.drop 2 := List.take_of_length_le (by simp)
      clear hE hr0 HO hb hgr hlen
      cases ti
      · have HR : Hid (unhexF l = ([], false)) := by show _ = _; rw [HF.out, HE.out]; rfl
        go_wp2_with (go_at_call 80; (with_reducible refine (HT.out _).mono ?_); rintro e w' ⟨rfl, j, rfl⟩)
        go_ret2
        exact ⟨_, by rw [HR.out]; rfl, by rw [HR.out]; exact OwnB.nil _ _, (HB.out.trans (((Below.refl wr.heap.size wr).moreS j).mono HB.out.size)).junk⟩
      · have HU2 : Hid (unhx l = unrB (acc ++ [tb]) (unhx (r.drop 2))) := by show _ = _; rw [HE.out, if_pos rfl, unrB_map]
        go_wp2_with (first
          | (go_at_call 80; (with_reducible refine (HT.out _).mono ?_); rintro e w' ⟨rfl, j, rfl⟩)
          | (at_builtin; refine app_byte (.tmp 26) (.tmp 28) rfl rfl rfl ((HO'.out.more _).alloc _) rfl (Blk.at_ _ _ _ (by simp)) (by omega) (by rw [World.size_alloc, World.size_more]; omega) ?_; intro v' w2 hown hbw))
        have hb2 := HB.out.trans (((((Below.refl wr.heap.size wr).moreS j).alloc (by simp) _).mono HB.out.size).trans hbw)
        clear hbw
        go_wp2_with fail
        go_roundg (r.length - 2)
        case measure => have := HG.out; omega
        case rel => exact ⟨r.drop 2, acc ++ [tb], by first | rfl | rw [hcut], by simp, by have := HL.out; simp; omega, hown, hb2, HU2⟩
