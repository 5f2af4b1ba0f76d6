/-
  Digits of base sixteen: the document's; two lists of bytes.
-/
import Derived.Test.YtjdgkkmhlbjdnaaDoorWord6
namespace Go.Proofs.YtjdgkkmhlbjdnaaDoor
set_option linter.unusedSimpArgs false
set_option linter.unusedVariables false
open Go.ChangeShapes Go.WideShapes Go.ChangeAt Go.RowKit Go.Deep Go.Shelf

def hexF (b : List UInt8) : List UInt8 := b.flatMap pairB
theorem hex_len (l : List UInt8) : ∀ k, ((l.take k).flatMap pairB).length ≤ 2 * k := by
  induction l with
  | nil => intro k; simp
  | cons c r ih =>
    intro k
    cases k with
    | zero => simp
    | succ k =>
      rw [List.take_succ_cons, List.flatMap_cons, List.length_append]
      have := ih k
      have h2 : (pairB c).length = 2 := rfl
      omega
def unhx : List UInt8 → Option (List UInt8)
  | [] => some []
  | [_] => none
  | h :: l :: r => if 0 ≤ hexI h ∧ 0 ≤ hexI l then (unhx r).map (byteOf h l :: ·) else none
def unhexF (s : List UInt8) : List UInt8 × Bool := match unhx s with
  | some o => (o, true)
  | none => ([], false)
theorem unhx_hex : ∀ (b : List UInt8), unhx (hexF b) = some b
  | [] => rfl
  | c :: r => by
    have hlt := c.toNat_lt
    have h1 := hexI_of (c.toNat / 16) (by omega)
    have h2 := hexI_of (c.toNat % 16) (by omega)
    show unhx (pairB c ++ hexF r) = _
    show unhx (hexD.getD (c.toNat / 16) 0 :: hexD.getD (c.toNat % 16) 0 :: hexF r) = _
    rw [unhx, if_pos ⟨by rw [h1]; omega, by rw [h2]; omega⟩, unhx_hex r, byteOf_pair]
    rfl
theorem unhex_hex (b : List UInt8) : unhexF (hexF b) = (b, true) := by unfold unhexF; rw [unhx_hex]
theorem unhx_odd : ∀ (n : Nat) (s : List UInt8), s.length ≤ n → s.length % 2 = 1 → unhx s = none
  | _, [], _, h => by simp at h
  | _, [_], _, _ => rfl
  | 0, _ :: _ :: _, h, _ => by simp at h
  | n + 1, a :: b :: r, h, ho => by
    rw [unhx]
    have := unhx_odd n r (by simp at h; omega) (by simp at ho; omega)
    rw [this]
    split <;> rfl

def sameB (a b : List UInt8) : Bool := a == b
set_option maxHeartbeats 4000000 in
set_option maxRecDepth 100000 in
theorem ref01_Same (a b : Option Addr) (ca cb : Nat) (x y : List UInt8) (w0 w : World) (hx : x.length ≤ 1048576) (hy : y.length ≤ 1048576) (hb : Below w0.heap.size w0 w) (hsx0 : SlB w0 w0.heap.size a x) (hsy0 : SlB w0 w0.heap.size b y) :
    Calls Tryd.prog 38 #[.slice a x.length ca, .slice b y.length cb] w fun e w' => e = .returned (.bool (sameB x y)) ∧ ∃ j, w' = w.more j := by
  have hsx := hsx0.below hb (Nat.le_refl _)
  have hsy := hsy0.below hb (Nat.le_refl _)
  have hz := hb.size
  clear hsx0 hsy0 hb
  by_cases hl : x.length = y.length
  case neg =>
    have HR : Hid (sameB x y = false) := by
      show (x == y) = false
      rw [beq_eq_false_iff_ne]
      exact fun h => hl (by rw [h])
    have h1 : ((x.length : Int) != y.length) = true := by rw [bne_iff_ne]; omega
    go_enter Tryd.func38, Tryd.ntmps38
    go_wp2_with fail
    go_ret
    exact ⟨ret1d (by rw [HR.out]; rfl), Below.junk (by repeat (first | (with_reducible exact Below.refl _ _) | (with_reducible refine Below.allocS ?_ _) | (with_reducible refine Below.moreS ?_ _) | (with_reducible refine Below.drew ?_) | (with_reducible refine below_drewN ?_ _)))⟩
  have h1 : ((x.length : Int) != y.length) = false := by rw [bne_eq_false_iff_eq]; omega
  have HA : Hid (sameB x y = sameB (x.drop 0) (y.drop 0)) := rfl
  have HL := Lib.hid hl
  have hlt0 : y.length ≤ x.length := by omega
  have hlt1 : x.length ≤ y.length := by omega
  clear hl
  go_enter Tryd.func38, Tryd.ntmps38
  go_wp2_with fail
  go_loopw [5] (fun i wr => ∃ k : Nat, k ≤ x.length ∧ i = .int .i64 k ∧ Hid (sameB x y = sameB (x.drop k) (y.drop k)) ∧ ∃ j, wr = w.more j) (fun i _ => x.length - (intOf i).toNat)
  case atStart => exact ⟨0, by omega, rfl, HA, Below.junk (by repeat (first | (with_reducible exact Below.refl _ _) | (with_reducible refine Below.allocS ?_ _) | (with_reducible refine Below.moreS ?_ _) | (with_reducible refine Below.drew ?_) | (with_reducible refine below_drewN ?_ _)))⟩
  case round =>
    clear HA
    obtain ⟨k, hk, rfl, HA, jr, rfl⟩ := hrel
    by_cases hlt : k < x.length
    · obtain ⟨bx, ox, rfl, hbx, cx⟩ := hsx.atB hlt
      obtain ⟨by_, oy, rfl, hby, cy⟩ := hsy.atB (show k < y.length by omega)
      have HD : Hid (sameB x y = ((x[k] == y[k]'(by omega)) && sameB (x.drop (k + 1)) (y.drop (k + 1)))) := by
        show _ = _
        rw [HA.out, List.drop_eq_getElem_cons hlt, List.drop_eq_getElem_cons (show k < y.length by omega)]
        rfl
      generalize x[k] = u at cx HD
      generalize y[k]'(by omega) = v at cy HD
      have he : (u == v) = ((u.toNat : Int) == (v.toNat : Int)) := by
        rw [Bool.eq_iff_iff, beq_iff_eq, beq_iff_eq, ← UInt8.toNat_inj]
        omega
      have HE := Lib.hid he
      clear he
      have hbx' : bx < w.heap.size := by omega
      have hby' : by_ < w.heap.size := by omega
      have i1 : (k : Int) < x.length := by omega
      have i2 : (k : Int) < y.length := by omega
      have i3 : (0 : Int) ≤ k := by omega
      cases huv : ((u.toNat : Int) == (v.toNat : Int))
      all_goals
        have huv2 : ((u.toNat : Int) != (v.toNat : Int)) = !((u.toNat : Int) == (v.toNat : Int)) := rfl
        rw [huv] at huv2
        simp only [Bool.not_true, Bool.not_false] at huv2
        go_wp2_with fail
        go_quiet (fail)
        go_wp2_with fail
      · go_ret
        exact ⟨ret1d (by rw [HD.out, HE.out, huv]; rfl), Below.junk (by repeat (first | (with_reducible exact Below.refl _ _) | (with_reducible refine Below.allocS ?_ _) | (with_reducible refine Below.moreS ?_ _) | (with_reducible refine Below.drew ?_) | (with_reducible refine below_drewN ?_ _)))⟩
      · go_roundw
        case measure => simp [intOf]; omega
        case rel => exact ⟨k + 1, hlt, by go_num, HD.out.trans (by rw [HE.out, huv, Bool.true_and]), Below.junk (by repeat (first | (with_reducible exact Below.refl _ _) | (with_reducible refine Below.allocS ?_ _) | (with_reducible refine Below.moreS ?_ _) | (with_reducible refine Below.drew ?_) | (with_reducible refine below_drewN ?_ _)))⟩
    · go_wp2_with fail
      go_ret
      refine ⟨ret1d ?_, Below.junk (by repeat (first | (with_reducible exact Below.refl _ _) | (with_reducible refine Below.allocS ?_ _) | (with_reducible refine Below.moreS ?_ _) | (with_reducible refine Below.drew ?_) | (with_reducible refine below_drewN ?_ _)))⟩
      rw [HA.out, List.drop_of_length_le (by omega), List.drop_of_length_le (by omega)]
      rfl

set_option maxHeartbeats 4000000 in
set_option maxRecDepth 100000 in
theorem ref04_Hex (a : Option Addr) (cap : Nat) (b : List UInt8) (w0 w : World) (hm : b.length ≤ 1048576) (hb : Below w0.heap.size w0 w) (hs0 : SlB w0 w0.heap.size a b) :
    Calls Tryd.prog 37 #[.slice a b.length cap] w fun e w' => e = .returned (bstr (hexF b)) ∧ ∃ j, w' = w.more j := by
  have hs := hs0.below hb (Nat.le_refl _)
  have hz := hb.size
  clear hs0 hb
  go_enter Tryd.func37, Tryd.ntmps37
  go_wp2_with fail
  go_loopg [3, 4] b.length (fun g s i wr => ∃ (k : Nat) (acc : List UInt8), k + g = b.length ∧ i = .int .i64 k ∧ s = bstr acc ∧ acc.length ≤ 2 * k ∧ Hid (acc = (b.take k).flatMap pairB) ∧ ∃ j, wr = w.more j)
  case atStart => exact ⟨0, [], by omega, rfl, rfl, by simp, by show _ = _; simp, Below.junk (by repeat (first | (with_reducible exact Below.refl _ _) | (with_reducible refine Below.allocS ?_ _) | (with_reducible refine Below.moreS ?_ _) | (with_reducible refine Below.drew ?_) | (with_reducible refine below_drewN ?_ _)))⟩
  case round =>
    obtain ⟨k, acc, hkg, rfl, rfl, hlen, HA, jr, rfl⟩ := hrel
    by_cases hlt : k < b.length
    · have HK := Lib.hid hkg
      clear hkg
      obtain ⟨bx, ox, rfl, hbx, cx⟩ := hs.atB hlt
      have hbx' : bx < w.heap.size := by omega
      have HS : Hid (acc ++ pairB b[k] = (b.take (k + 1)).flatMap pairB) := by show _ = _; rw [HA.out, List.take_succ_eq_append_getElem hlt, List.flatMap_append]; simp
      have HP : Hid (∀ W, Calls Tryd.prog 82 #[.int .u8 (b[k].toNat : Int)] W fun e w' => e = .returned (bstr (pairB b[k])) ∧ ∃ j, w' = W.more j) := ref04_pair b[k]
      have hp2 : (pairB b[k]).length ≤ 2 := Nat.le_refl 2
      generalize pairB b[k] = P at HS HP hp2
      go_wp2_with (go_at_call 82; refine (HP.out _).mono ?_; rintro e w' ⟨rfl, j, rfl⟩)
      go_roundg (b.length - (k + 1))
      case measure => have := HK.out; omega
      case rel => exact ⟨k + 1, acc ++ P, by omega, by go_num, by simp, by simp; omega, HS, Below.junk (by repeat (first | (with_reducible exact Below.refl _ _) | (with_reducible refine Below.allocS ?_ _) | (with_reducible refine Below.moreS ?_ _) | (with_reducible refine Below.drew ?_) | (with_reducible refine below_drewN ?_ _)))⟩
    · go_wp2_with fail
      go_ret
      refine ⟨ret1d ?_, Below.junk (by repeat (first | (with_reducible exact Below.refl _ _) | (with_reducible refine Below.allocS ?_ _) | (with_reducible refine Below.moreS ?_ _) | (with_reducible refine Below.drew ?_) | (with_reducible refine below_drewN ?_ _)))⟩
      have : hexF b = acc := by rw [HA.out, List.take_of_length_le (by omega)]; rfl
      rw [this]; rfl
