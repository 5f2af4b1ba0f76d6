/-
  Parts of the proof, one behind the other: contracts of the program and plain laws; no condition of their own.
-/
import Derived.Test.YtfcgdfcekpbliaaGreatDoorMa
import Derived.Test.YtfcgdfcekpbliaaGreatDoorMd
import Derived.Test.YtfcgdfcekpbliaaGreatDoorMb
/-
  Lines of words: both roads.
-/
namespace Go.Proofs.YtfcgdfcekpbliaaGreatDoor
set_option linter.unusedSimpArgs false
set_option linter.unusedVariables false
set_option linter.unusedSectionVars false
open Go.ChangeShapes Go.WideShapes Go.ChangeAt Go.RowKit Go.Deep Go.Shelf

theorem join_le (l : List (List UInt8)) (h : ∀ x ∈ l, x.length ≤ 100000) : (Lib.join l [32]).length ≤ 100001 * l.length := by
  cases l with
  | nil => simp [Lib.join_nil]
  | cons x r =>
    rw [Lib.join_length]
    have : ∀ m : List (List UInt8), (∀ x ∈ m, x.length ≤ 100000) → Lib.lens m ≤ 100000 * m.length := by
      intro m
      induction m with
      | nil => intro _; simp [Lib.lens]
      | cons y t ih =>
        intro h
        have := ih (fun x hx => h x (by simp [hx]))
        have := h y (by simp)
        simp only [Lib.lens, List.map_cons, List.sum_cons, List.length_cons] at *
        omega
    have := this (x :: r) h
    simp only [List.length_cons, List.length_nil] at *
    omega
theorem strings_join (a : Option Addr) (cap : Nat) (l : List (List UInt8)) (w : World) (hm : l.length ≤ 100000) (hw : ∀ x ∈ l, x.length ≤ 100000) (hcap : l.length ≤ cap) (hs : SlX w w.heap.size a l) :
    Calls Tryz.prog 22 #[.slice a l.length cap, bstr [32]] w fun e w' => e = .returned (bstr (Lib.join l [32])) ∧ Below w.heap.size w w' := by
  by_cases h0 : l = []
  · subst h0
    exact (Tryz.strings_Join_none a cap ⟨#[32]⟩ w).mono fun e w' ⟨he, hw⟩ => ⟨by rw [he]; rfl, by rw [hw]; exact Below.refl _ _⟩
  · have hp : 0 < l.length := List.length_pos_iff.2 h0
    obtain ⟨b, off, rfl, hb, _, _⟩ := hs.atX hp
    have hj := join_le l hw
    have hx : (l.map (fun s => (⟨s.toArray⟩ : ByteArray))).map (·.data.toList) = l := by rw [List.map_map]; exact (List.map_congr_left (fun _ _ => rfl)).trans (List.map_id l)
    have := Tryz.strings_Join b off cap (l.map (fun s => (⟨s.toArray⟩ : ByteArray))) ⟨#[32]⟩ w (fun j x hjx => by
      rw [List.getElem?_map] at hjx
      obtain ⟨y, hy, rfl⟩ := Option.map_eq_some_iff.1 hjx
      obtain ⟨hlt, rfl⟩ := List.getElem?_eq_some_iff.1 hy
      obtain ⟨b', off', e, _, hc, _⟩ := hs.atX hlt
      injection e with e
      injection e with e1 e2
      subst e1 e2
      exact hc) hb (by simp; omega) (by simpa using hcap) (by rw [hx]; show (Lib.join l [32]).length ≤ _; omega)
    rw [hx, List.length_map] at this
    exact this

set_option maxHeartbeats 4000000 in
set_option maxRecDepth 100000 in
theorem words_Line (a : Option Addr) (cap : Nat) (l : List (List UInt8)) (w0 w : World) (hm : l.length ≤ 100000) (hw : ∀ x ∈ l, x.length ≤ 100000) (hcap : l.length ≤ cap) (hb : Below w0.heap.size w0 w) (hs0 : SlX w0 w0.heap.size a l) :
    Calls Tryz.prog 77 #[.slice a l.length cap] w fun e w' => e = .returned (.tuple #[bstr (lineF l).1, .bool (lineF l).2]) ∧ ∃ j, w' = w.more j := by
  cases hall : l.all okW with
  | false =>
    have HR : lineF l = ([], false) := by unfold lineF; rw [if_neg (by simp [hall])]
    rw [HR]
    exact (words_Line_bad a cap l w0 w (by omega) hb hs0 hall).mono fun e w' ⟨he, hww⟩ => ⟨he, by subst hww; exact ⟨_, more_self w⟩⟩
  | true =>
    have HR : Hid (lineF l = (Lib.join l [32], true)) := by show _ = _; unfold lineF; rw [if_pos hall]
    have hs := hs0.below hb (Nat.le_refl _)
    have hz := hb.size
    have HJ := Lib.hid (strings_join a cap l w hm hw hcap (hs.mono hz (fun _ _ _ h => h)))
    clear hs0 hb hcap
    have HA : Hid ((l.drop 0).all okW = true) := hall
    clear hall
    generalize Lib.join l [32] = jn at HR HJ
    go_enter Tryz.func77, Tryz.ntmps77
    go_wp2_with fail
    go_loop [8] (fun i => ∃ k : Nat, k ≤ l.length ∧ i = .int .i64 k ∧ Hid ((l.drop k).all okW = true)) (fun i => l.length - (intOf i).toNat)
    case atStart => exact ⟨0, by omega, rfl, HA⟩
    case round =>
      clear HA
      obtain ⟨k, hk, rfl, HA⟩ := hrel
      by_cases hlt : k < l.length
      · obtain ⟨b, off, rfl, hb, c0, hl0⟩ := hs.atX hlt
        have hd : (l.drop k).all okW = (okW l[k] && (l.drop (k + 1)).all okW) := by rw [List.drop_eq_getElem_cons hlt]; rfl
        rw [HA.out] at hd
        have hd2 := hd.symm
        rw [Bool.and_eq_true] at hd2
        obtain ⟨hd1, hd3⟩ := hd2
        have HD : Hid ((l.drop (k + 1)).all okW = true) := hd3
        have HI1 : Hid (∀ W, Calls Tryz.prog 94 #[bstr l[k], .int .u8 32] W fun e w' => e = .returned (.int .i64 (Lib.indexByte l[k] 32)) ∧ W = w') := fun W => index_in l[k] 32 W
        have HI2 : Hid (∀ W, Calls Tryz.prog 94 #[bstr l[k], .int .u8 10] W fun e w' => e = .returned (.int .i64 (Lib.indexByte l[k] 10)) ∧ W = w') := fun W => index_in l[k] 10 W
        unfold okW at hd1
        generalize Lib.indexByte l[k] 32 = i1 at HI1 hd1
        generalize Lib.indexByte l[k] 10 = i2 at HI2 hd1
        generalize l[k] = x at c0 hl0 HI1 HI2 hd1
        have h1 : ¬ 0 ≤ i1 := fun h => by simp [h] at hd1
        have h2 : ¬ 0 ≤ i2 := fun h => by simp [h] at hd1
        have he : x.isEmpty = false := by
          cases h : x.isEmpty with
          | false => rfl
          | true => rw [h] at hd1; cases hd1
        have hne : (!x.isEmpty) = true := by rw [he]; rfl
        have hxe : (x == []) = false := by
          cases x with
          | nil => cases he
          | cons _ _ => rfl
        clear hd hd1 hd3 HA HJ
        go_wp2_with (first
          | (go_at_call 94; (with_reducible refine (HI1.out _).mono ?_); rintro e w' ⟨rfl, rfl⟩)
          | (go_at_call 94; (with_reducible refine (HI2.out _).mono ?_); rintro e w' ⟨rfl, rfl⟩))
        go_round
        case rel => exact ⟨k + 1, hlt, by go_num, HD.out⟩
        case measure => simp [intOf]; omega
      · go_wp2_with fail
        refine HJ.out.mono ?_
        rintro e w1 ⟨rfl, hb1⟩
        go_wp2_with fail
        go_ret2
        exact ⟨by rw [HR.out]; rfl, hb1.junk⟩

theorem take_join (l : List (List UInt8)) (k : Nat) (hlt : k < l.length) : Lib.join (l.take (k + 1)) [32] = if k = 0 then l[k] else Lib.join (l.take k) [32] ++ [32] ++ l[k] := by
  cases l with
  | nil => simp at hlt
  | cons x r =>
    cases k with
    | zero => simp [Lib.join_one]
    | succ k =>
      rw [if_neg (by omega), List.take_succ_cons, List.take_succ_cons, Lib.join_cons, Lib.join_cons]
      have hk : k < r.length := by simpa using hlt
      rw [Lib.joinTail_take_succ [32] r k r[k] (List.getElem?_eq_getElem hk)]
      simp
theorem take_all (l : List (List UInt8)) (k : Nat) (hlt : k < l.length) : (l.take (k + 1)).all okW = ((l.take k).all okW && okW l[k]) := by
  rw [List.take_succ_eq_append_getElem hlt, List.all_append]
  simp
theorem line_bad (l : List (List UInt8)) (k : Nat) (hlt : k < l.length) (h : okW l[k] = false) : lineF l = ([], false) := by
  unfold lineF
  rw [if_neg]
  intro ha
  rw [List.all_eq_true] at ha
  have := ha _ (List.getElem_mem hlt)
  rw [h] at this
  cases this

set_option maxHeartbeats 8000000 in
set_option maxRecDepth 100000 in
theorem ref04_Line (a : Option Addr) (cap : Nat) (l : List (List UInt8)) (w0 w : World) (hm : l.length ≤ 100000) (hw : ∀ x ∈ l, x.length ≤ 100000) (hb : Below w0.heap.size w0 w) (hs0 : SlX w0 w0.heap.size a l) :
    Calls Tryz.prog 65 #[.slice a l.length cap] w fun e w' => e = .returned (.tuple #[bstr (lineF l).1, .bool (lineF l).2]) ∧ w = w' := by
  have hs := hs0.below hb (Nat.le_refl _)
  have hz := hb.size
  clear hs0 hb
  have HW := Lib.hid hw
  clear hw
  have HL0 : Hid (l.all okW = true → lineF l = (Lib.join l [32], true)) := fun h => by unfold lineF; rw [if_pos h]
  have HLB : Hid (∀ (k : Nat) (h : k < l.length), okW l[k] = false → lineF l = ([], false)) := fun k h hb => line_bad l k h hb
  generalize lineF l = R at HL0 HLB ⊢
  obtain ⟨r1, r2⟩ := R
  go_enter Tryz.func65, Tryz.ntmps65
  go_wp2_with fail
  go_loop [4, 5] (fun s i => ∃ (k : Nat) (acc : List UInt8), k ≤ l.length ∧ i = .int .i64 k ∧ s = bstr acc ∧ acc.length ≤ 100001 * k ∧ Hid (acc = Lib.join (l.take k) [32]) ∧ Hid ((l.take k).all okW = true)) (fun _ i => l.length - (intOf i).toNat)
  case atStart => exact ⟨0, [], by omega, rfl, rfl, by simp, by show _ = _; rfl, by show _ = _; simp⟩
  case round =>
    obtain ⟨k, acc, hk, rfl, rfl, hacc, HA, HO⟩ := hrel
    by_cases hlt : k < l.length
    · obtain ⟨b, off, rfl, hb, c0, hl0⟩ := hs.atX hlt
      have hx := HW.out _ (List.getElem_mem hlt)
      have HT : Hid (Lib.join (l.take (k + 1)) [32] = if k = 0 then l[k] else acc ++ [32] ++ l[k]) := by show _ = _; rw [take_join l k hlt, HA.out]
      have HALL : Hid (okW l[k] = true → (l.take (k + 1)).all okW = true) := fun h => by rw [take_all l k hlt, HO.out, h]; rfl
      have HB : Hid (okW l[k] = false → (r1, r2) = ([], false)) := HLB.out k hlt
      have HOK := Lib.hid (okW_R l[k])
      have HK0 := Lib.hid HA.out
      clear HLB HA HO
      generalize l[k] = x at c0 hl0 hx HT HALL HB HOK
      cases he : x.isEmpty with
      | true =>
        obtain rfl : x = [] := by cases x <;> simp_all
        have hr := HB.out rfl
        obtain ⟨rfl, rfl⟩ := Prod.mk.inj hr
        clear HT HALL HB HOK hr he
        go_wp2_with fail
        go_ret2
        exact ⟨rfl, rfl⟩
      | false =>
        have hne : x ≠ [] := by intro h; subst h; cases he
        have hxp : ¬ x.length = 0 := fun h => hne (List.eq_nil_of_length_eq_zero h)
        have hxp2 : ((x.length : Int) == 0) = false := by rw [beq_eq_false_iff_ne]; omega
        have HNE := Lib.hid he
        clear he hne
        go_wp2_with fail
        go_loop [6] (fun i => ∃ n : Nat, n ≤ x.length ∧ i = .int .i64 n ∧ Hid ((x.take n).any badB = false)) (fun i => x.length - (intOf i).toNat)
        case atStart => exact ⟨0, by omega, rfl, by show _ = _; simp⟩
        case round =>
          obtain ⟨n, hn, rfl, HN⟩ := hrel
          by_cases hln : n < x.length
          · have HS : Hid ((x.take (n + 1)).any badB = badB x[n]) := by show _ = _; rw [List.take_succ_eq_append_getElem hln, List.any_append, HN.out]; simp
            have HX : Hid (badB x[n] = true → okW x = false) := fun h => by
              rw [HOK.out, HNE.out]
              have : x.any badB = true := List.any_eq_true.2 ⟨_, List.getElem_mem hln, h⟩
              rw [this]; rfl
            have h32 : (x[n] == 32) = ((x[n].toNat : Int) == 32) := by
              rw [Bool.eq_iff_iff, beq_iff_eq, beq_iff_eq, ← UInt8.toNat_inj]
              show x[n].toNat = 32 ↔ _
              omega
            have h10 : (x[n] == 10) = ((x[n].toNat : Int) == 10) := by
              rw [Bool.eq_iff_iff, beq_iff_eq, beq_iff_eq, ← UInt8.toNat_inj]
              show x[n].toNat = 10 ↔ _
              omega
            have HBD : Hid (badB x[n] = (((x[n].toNat : Int) == 32) || ((x[n].toNat : Int) == 10))) := by show _ = _; unfold badB; rw [h32, h10]
            clear h32 h10
            cases t1 : ((x[n].toNat : Int) == 32) <;> cases t2 : ((x[n].toNat : Int) == 10)
            case false.false =>
              go_wp2_with fail
              go_round
              case rel => exact ⟨n + 1, hln, by go_num, by show _ = _; rw [HS.out, HBD.out, t1, t2]; rfl⟩
              case measure => simp [intOf]; omega
            all_goals
              have hr := HB.out (HX.out (by rw [HBD.out, t1, t2]; rfl))
              obtain ⟨rfl, rfl⟩ := Prod.mk.inj hr
              clear HT HALL HB HOK hr HBD
              go_wp2_with fail
              go_ret2
              exact ⟨rfl, rfl⟩
          · have hok : okW x = true := by
              rw [HOK.out, HNE.out]
              have := HN.out
              rw [List.take_of_length_le (by omega)] at this
              rw [this]; rfl
            have HAL : Hid ((l.take (k + 1)).all okW = true) := HALL.out hok
            clear HALL HB HOK hok HN
            by_cases k0 : k = 0
            · have HT0 : Hid (acc ++ x = Lib.join (l.take (k + 1)) [32]) := by show _ = _; rw [HT.out, if_pos k0, HK0.out, k0]; simp [Lib.join_nil]
              have k1 : ¬ (0 : Int) < k := by omega
              clear k0
              go_wp2_with fail
              go_round
              case rel => exact ⟨k + 1, acc ++ x, by omega, by go_num, by simp, by simp; omega, HT0, HAL⟩
              case measure => simp [intOf]; omega
            · have HT0 : Hid (acc ++ [32] ++ x = Lib.join (l.take (k + 1)) [32]) := by show _ = _; rw [HT.out, if_neg k0]
              have k1 : (0 : Int) < k := by omega
              go_wp2_with fail
              go_round
              case rel => exact ⟨k + 1, acc ++ [32] ++ x, by omega, by go_num, by simp, by simp; omega, HT0, HAL⟩
              case measure => simp [intOf]; omega
    · have hr : (r1, r2) = (acc, true) := by
        rw [HL0.out (by have := HO.out; rwa [List.take_of_length_le (by omega)] at this), HA.out, List.take_of_length_le (by omega)]
      obtain ⟨rfl, rfl⟩ := Prod.mk.inj hr
      clear hr
      go_wp2_with fail
      go_ret2
      exact ⟨rfl, rfl⟩
end Go.Proofs.YtfcgdfcekpbliaaGreatDoor
/-
  Lines of words: the document's parts.
-/
namespace Go.Proofs.YtfcgdfcekpbliaaGreatDoor
set_option linter.unusedSimpArgs false
set_option linter.unusedVariables false
set_option linter.unusedSectionVars false
open Go.ChangeShapes Go.WideShapes Go.ChangeAt Go.RowKit Go.Deep Go.Shelf

set_option maxHeartbeats 4000000 in
set_option maxRecDepth 100000 in
theorem ref04_parts (s : List UInt8) (c : UInt8) (hm : s.length ≤ 100000) (w : World) :
    Calls Tryz.prog 64 #[bstr s, .int .u8 (c.toNat : Int)] w fun e w' => ∃ v, e = .returned v ∧ OwnX w.heap.size w' v (cutF c s) ∧ Below w.heap.size w w' := by
  go_enter Tryz.func64, Tryz.ntmps64
  go_wp2_with fail
  go_loopg [5, 6, 7] s.length (fun g v f i wr => ∃ (k fr : Nat) (out : List (List UInt8)), k + g = s.length ∧ i = .int .i64 k ∧ f = .int .i64 fr ∧ fr ≤ k ∧ out.length ≤ k ∧ OwnX w.heap.size wr v out ∧ Below w.heap.size w wr ∧ Hid (cutF c s = out ++ preF ((s.drop fr).take (k - fr)) (cutF c (s.drop k))))
  case atStart =>
    refine ⟨0, 0, [], by omega, rfl, rfl, Nat.le_refl _, by simp, OwnX.nil _ _, Below.refl _ _, ?_⟩
    show _ = _
    obtain ⟨a, t, e⟩ := cut_ne c s
    simp [e, preF]
  case round =>
    obtain ⟨k, fr, out, hkg, rfl, rfl, hfk, hlen, HO, hb, HC⟩ := hrel
    have hzb := hb.size
    have HO' := Lib.hid HO
    have HB := Lib.hid hb
    have HK := Lib.hid hkg
    clear HO hb
    by_cases hlt : k < s.length
    · have hd : s.drop k = s[k] :: s.drop (k + 1) := List.drop_eq_getElem_cons hlt
      have hE : cutF c (s.drop k) = if s[k] = c then [] :: cutF c (s.drop (k + 1)) else preF [s[k]] (cutF c (s.drop (k + 1))) := by rw [hd, cutF]
      have hT : (s.drop fr).take (k + 1 - fr) = (s.drop fr).take (k - fr) ++ [s[k]] := by
        rw [show k + 1 - fr = (k - fr) + 1 by omega, List.take_succ_eq_append_getElem (by simp; omega)]
        simp [show fr + (k - fr) = k by omega]
      have hce : (s[k] = c) ↔ ((s[k].toNat : Int) == (c.toNat : Int)) = true := by
        rw [beq_iff_eq, ← UInt8.toNat_inj]
        omega
      have HE := Lib.hid hE
      have HT := Lib.hid hT
      clear hd hE hT
      cases hq : ((s[k].toNat : Int) == (c.toNat : Int)) with
      | true =>
        have HC2 : Hid (cutF c s = (out ++ [(s.drop fr).take (k - fr)]) ++ preF ((s.drop (k + 1)).take (k + 1 - (k + 1))) (cutF c (s.drop (k + 1)))) := by
          show _ = _
          rw [HC.out, HE.out, if_pos (hce.2 hq)]
          obtain ⟨a, t, e⟩ := cut_ne c (s.drop (k + 1))
          simp [e, preF]
        have i1 : (fr : Int) ≤ k := by omega
        have i2 : (k : Int) ≤ s.length := by omega
        have i3 : (k : Int) < s.length := by omega
        clear hce hkg
        go_wp2_with (at_builtin; refine app_text (.tmp 19) (.tmp 24) rfl rfl rfl (HO'.out.alloc _) rfl (Blk.new _ _ _) (by omega) (by rw [World.size_alloc]; omega) ?_; intro v' w1 hown hbw)
        have hb2 := HB.out.trans (((Below.refl w.heap.size wr).alloc HB.out.size _).trans hbw)
        clear hbw
        go_wp2_with fail
        go_roundg (s.length - (k + 1))
        case measure => have := HK.out; omega
        case rel => exact ⟨k + 1, k + 1, out ++ [(s.drop fr).take (k - fr)], by omega, by go_num, by go_num, Nat.le_refl _, by simp; omega, hown, hb2, HC2⟩
      | false =>
        have HC2 : Hid (cutF c s = out ++ preF ((s.drop fr).take (k + 1 - fr)) (cutF c (s.drop (k + 1)))) := by
          show _ = _
          rw [HC.out, HE.out, if_neg (fun h => by rw [hce.1 h] at hq; cases hq), pre_pre, HT.out]
        have i3 : (k : Int) < s.length := by omega
        clear hce hkg
        go_wp2_with fail
        go_roundg (s.length - (k + 1))
        case measure => have := HK.out; omega
        case rel => exact ⟨k + 1, fr, out, by omega, by go_num, rfl, by omega, by omega, HO'.out, HB.out, HC2⟩
    · have hk : k = s.length := by omega
      have HC2 : Hid (cutF c s = out ++ [(s.drop fr).take (s.length - fr)]) := by
        show _ = _
        rw [HC.out, hk, List.drop_of_length_le (Nat.le_refl _)]
        simp [cutF, preF]
      have i1 : (fr : Int) ≤ s.length := by omega
      have hlen' : out.length ≤ 100000 := by omega
      clear hk HC
      go_wp2_with (at_builtin; refine app_text (.tmp 28) (.tmp 32) rfl rfl rfl (HO'.out.alloc _) rfl (Blk.new _ _ _) (by omega) (by rw [World.size_alloc]; omega) ?_; intro v' w1 hown hbw)
      have hb2 := HB.out.trans (((Below.refl w.heap.size wr).alloc HB.out.size _).trans hbw)
      clear hbw
      go_wp2_with fail
      go_ret
      exact ⟨_, rfl, by rw [HC2.out]; exact hown, hb2⟩
end Go.Proofs.YtfcgdfcekpbliaaGreatDoor
/-
  Lines of words: split, and whole lines: both roads.
-/
namespace Go.Proofs.YtfcgdfcekpbliaaGreatDoor
set_option linter.unusedSimpArgs false
set_option linter.unusedVariables false
set_option linter.unusedSectionVars false
open Go.ChangeShapes Go.WideShapes Go.ChangeAt Go.RowKit Go.Deep Go.Shelf

theorem cut_last (c : UInt8) (s : List UInt8) : ∃ q z, cutF c s = q ++ [z] := by
  obtain ⟨a, t, e⟩ := cut_ne c s
  rw [e]
  exact ⟨(a :: t).dropLast, (a :: t).getLast (by simp), (List.dropLast_concat_getLast (by simp)).symm⟩
theorem lines_snoc {s : List UInt8} {q : List (List UInt8)} {z : List UInt8} (h : cutF 10 s = q ++ [z]) : linesF s = if z = [] then (q, true) else ([], false) := by
  unfold linesF
  rw [h]
  simp
theorem split_ok {s : List UInt8} (h : (cutF 32 s).all okW = true) : lineF (cutF 32 s) = (s, true) := by unfold lineF; rw [if_pos h, join_cut]
theorem split_no {s : List UInt8} (h : (cutF 32 s).all okW = false) : lineF (cutF 32 s) = ([], false) := by unfold lineF; rw [if_neg (by rw [h]; simp)]
set_option maxHeartbeats 4000000 in
set_option maxRecDepth 100000 in
theorem words_Split (l : List UInt8) (m : Int) (w : World) (hm : l.length ≤ 100000) (hlen : (cutF 32 l).length ≤ 100000) (hshort : ∀ x ∈ cutF 32 l, x.length ≤ 100000) (hM : w.cell? MaxA = some (.int .i64 m)) :
    Calls Tryz.prog 52 #[bstr l] w fun e w' => ∃ a cap, e = .returned (.tuple #[.slice a (splitF l).1.length cap, .bool (splitF l).2]) ∧ SlX w' w'.heap.size a (splitF l).1 ∧ Below w.heap.size w w' := by
  by_cases h0 : l = []
  · subst h0
    go_enter Tryz.func52, Tryz.ntmps52
    go_wp2_with fail
    go_ret2
    exact ⟨none, 0, rfl, .nil, Below.refl _ _⟩
  have hne : l.isEmpty = false := by cases l <;> simp_all
  have hne' : (!l.isEmpty) = true := by rw [hne]; rfl
  have H1 := Lib.hid (strings_cut l 32 m w (by omega) hM)
  have H2 : Hid (∀ a cap w1, (cutF 32 l).length ≤ cap → SlX w1 w1.heap.size a (cutF 32 l) → Calls Tryz.prog 77 #[.slice a (cutF 32 l).length cap] w1 fun e w' => e = .returned (.tuple #[bstr (lineF (cutF 32 l)).1, .bool (lineF (cutF 32 l)).2]) ∧ ∃ j, w' = w1.more j) := fun a cap w1 hc hs => words_Line a cap _ w1 w1 hlen hshort hc (Below.refl _ _) hs
  have HS : Hid (splitF l = if (lineF (cutF 32 l)).2 = true then (cutF 32 l, true) else ([], false)) := by
    show _ = _
    unfold splitF
    rw [if_neg h0]
    cases h : (cutF 32 l).all okW
    · rw [split_no h]
    · rw [split_ok h]
  clear hM h0 hshort hlen
  generalize cutF 32 l = p at H1 H2 HS
  generalize lineF p = R at H2 HS
  obtain ⟨r1, r2⟩ := R
  cases r2
  all_goals
    go_enter Tryz.func52, Tryz.ntmps52
    go_wp2_with fail
    refine H1.out.mono ?_
    rintro e w1 ⟨rfl, hs1, hb1⟩
    have HX := Lib.hid hs1
    have HB := Lib.hid hb1
    have HQ := Lib.hid (H2.out _ p.length w1 (Nat.le_refl _) hs1)
    clear hs1 hb1
    go_wp2_with fail
    refine HQ.out.mono ?_
    rintro e w2 ⟨rfl, j, rfl⟩
    go_wp2_with fail
    go_ret2
  · exact ⟨none, 0, by rw [HS.out]; rfl, by rw [HS.out]; exact .nil, HB.out.trans ((Below.moreS (Below.refl w1.heap.size w1) _).mono HB.out.size)⟩
  · exact ⟨_, p.length, by rw [HS.out]; rfl, by rw [HS.out]; exact (HX.out.below (Below.moreS (Below.refl w1.heap.size w1) j) (Nat.le_refl _)).mono (by simp) (fun _ _ _ h => h), HB.out.trans ((Below.moreS (Below.refl w1.heap.size w1) _).mono HB.out.size)⟩

set_option maxHeartbeats 4000000 in
set_option maxRecDepth 100000 in
theorem ref04_Split (l : List UInt8) (w : World) (hm : l.length ≤ 90000) :
    Calls Tryz.prog 38 #[bstr l] w fun e w' => ∃ a cap, e = .returned (.tuple #[.slice a (splitF l).1.length cap, .bool (splitF l).2]) ∧ SlX w' w'.heap.size a (splitF l).1 ∧ Below w.heap.size w w' := by
  by_cases h0 : l = []
  · subst h0
    go_enter Tryz.func38, Tryz.ntmps38
    go_wp2_with fail
    go_ret2
    exact ⟨none, 0, rfl, .nil, Below.refl _ _⟩
  have hne : l.isEmpty = false := by cases l <;> simp_all
  have hne' : (!l.isEmpty) = true := by rw [hne]; rfl
  have H1 := Lib.hid (ref04_parts l 32 (by omega) w)
  have hlen := cut_len 32 l
  have hshort : ∀ x ∈ cutF 32 l, x.length ≤ 100000 := fun x hx => by have := cut_short 32 l x hx; omega
  have HM : Hid (∀ x ∈ cutF 32 l, x.length ≤ maxLen) := fun x hx => by have := hshort x hx; unfold maxLen; omega
  have H2 : Hid (∀ a cap w1, SlX w1 w1.heap.size a (cutF 32 l) → Calls Tryz.prog 65 #[.slice a (cutF 32 l).length cap] w1 fun e w' => e = .returned (.tuple #[bstr (lineF (cutF 32 l)).1, .bool (lineF (cutF 32 l)).2]) ∧ w1 = w') := fun a cap w1 hs => ref04_Line a cap _ w1 w1 (by omega) hshort (Below.refl _ _) hs
  cases hall : (cutF 32 l).all okW
  · have HS : Hid (splitF l = ([], false)) := by
      show _ = _
      unfold splitF
      rw [if_neg h0, if_neg (by rw [hall]; simp)]
    rw [split_no hall] at H2
    clear h0 hshort hlen hall
    generalize cutF 32 l = p at H1 H2 HM
    go_enter Tryz.func38, Tryz.ntmps38
    go_wp2_with fail
    refine H1.out.mono ?_
    rintro e w1 ⟨v, rfl, ho, hb1⟩
    obtain ⟨a, cap, rfl, hs1⟩ := ho.read HM.out
    have HB := Lib.hid hb1
    have HQ := Lib.hid (H2.out a cap w1 hs1)
    clear hs1 hb1 ho
    go_wp2_with fail
    refine HQ.out.mono ?_
    rintro e w2 ⟨rfl, rfl⟩
    go_wp2_with fail
    go_ret2
    exact ⟨none, 0, by rw [HS.out]; rfl, by rw [HS.out]; exact .nil, HB.out⟩
  · have HS : Hid (splitF l = (cutF 32 l, true)) := by
      show _ = _
      unfold splitF
      rw [if_neg h0, if_pos hall]
    rw [split_ok hall] at H2
    clear h0 hshort hlen hall
    generalize cutF 32 l = p at H1 H2 HM HS
    have e1 : (l != l) = false := by simp
    go_enter Tryz.func38, Tryz.ntmps38
    go_wp2_with fail
    refine H1.out.mono ?_
    rintro e w1 ⟨v, rfl, ho, hb1⟩
    obtain ⟨a, cap, rfl, hs1⟩ := ho.read HM.out
    have HB := Lib.hid hb1
    have HX := Lib.hid hs1
    have HQ := Lib.hid (H2.out a cap w1 hs1)
    clear hs1 hb1 ho
    go_wp2_with fail
    refine HQ.out.mono ?_
    rintro e w2 ⟨rfl, rfl⟩
    go_wp2_with fail
    go_ret2
    exact ⟨a, cap, by rw [HS.out]; rfl, by rw [HS.out]; exact HX.out, HB.out⟩
end Go.Proofs.YtfcgdfcekpbliaaGreatDoor
/-
  Whole lines: both roads.
-/
namespace Go.Proofs.YtfcgdfcekpbliaaGreatDoor
set_option linter.unusedSimpArgs false
set_option linter.unusedVariables false
set_option linter.unusedSectionVars false
open Go.ChangeShapes Go.WideShapes Go.ChangeAt Go.RowKit Go.Deep Go.Shelf

theorem slX_front {w : World} {B : Nat} {a : Option Addr} {q : List (List UInt8)} {z : List UInt8} (h : SlX w B a (q ++ [z])) : SlX w B a q := by
  have := SlR.take h q.length
  rwa [List.take_left'  rfl] at this
theorem slX_last {w : World} {B : Nat} {a : Option Addr} {q : List (List UInt8)} {z : List UInt8} (h : SlX w B a (q ++ [z])) : ∃ b off, a = some ⟨b, off, none⟩ ∧ b < B ∧ w.cell? ⟨b, off + q.length, none⟩ = some (bstr z) := by
  obtain ⟨b, off, ha, hb, hc, _⟩ := SlR.atX h (k := q.length) (by simp)
  simp at hc
  exact ⟨b, off, ha, hb, hc⟩

set_option maxHeartbeats 4000000 in
set_option maxRecDepth 100000 in
theorem words_Lines (l : List UInt8) (m : Int) (w : World) (hm : l.length ≤ 90000) (hM : w.cell? MaxA = some (.int .i64 m)) :
    Calls Tryz.prog 28 #[bstr l] w fun e w' => ∃ a cap, e = .returned (.tuple #[.slice a (linesF l).1.length cap, .bool (linesF l).2]) ∧ SlX w' w'.heap.size a (linesF l).1 ∧ Below w.heap.size w w' := by
  by_cases h0 : l = []
  · subst h0
    go_enter Tryz.func28, Tryz.ntmps28
    go_wp2_with fail
    go_ret2
    exact ⟨none, 0, rfl, .nil, Below.refl _ _⟩
  have hne : l.isEmpty = false := by cases l <;> simp_all
  have hne' : (!l.isEmpty) = true := by rw [hne]; rfl
  have H1 := strings_cut l 10 m w (by omega) hM
  have hlen := cut_len 10 l
  obtain ⟨q, z, hq⟩ := cut_last 10 l
  have HS := Lib.hid (lines_snoc hq)
  rw [hq] at H1 hlen
  simp only [List.length_append, List.length_cons, List.length_nil, Nat.zero_add] at H1 hlen
  have H1 := Lib.hid H1
  clear hM h0 hq
  have hq2 : q.length ≤ 100000 := by omega
  clear hlen
  cases hz : z.isEmpty
  all_goals
    have hze : (z == []) = z.isEmpty := by cases z <;> rfl
    have hzn : (z != []) = !z.isEmpty := by cases z <;> rfl
    have hzn2 : (!z.isEmpty) = !z.isEmpty := rfl
    rw [hz] at hze hzn
    simp only [Bool.not_true, Bool.not_false] at hzn
    have HZ := Lib.hid hz
    go_enter Tryz.func28, Tryz.ntmps28
    go_wp2_with fail
    refine H1.out.mono ?_
    rintro e w1 ⟨rfl, hs1, hb1⟩
    obtain ⟨b, off, ha, hb, hc⟩ := slX_last hs1
    injection ha with ha
    injection ha with ha1 ha2
    subst ha1 ha2
    have HX := Lib.hid (slX_front hs1)
    have HB := Lib.hid hb1
    clear hs1 hb1
    rw [Nat.zero_add] at hc
    go_wp2_with fail
    go_ret2
  · exact ⟨none, 0, by rw [HS.out, if_neg (fun h => by subst h; cases HZ.out)]; rfl, by rw [HS.out, if_neg (fun h => by subst h; cases HZ.out)]; exact .nil, HB.out⟩
  · obtain rfl : z = [] := by cases z with
      | nil => rfl
      | cons _ _ => cases HZ.out
    exact ⟨_, _, by rw [HS.out, if_pos rfl]; rfl, by rw [HS.out, if_pos rfl]; exact HX.out, HB.out⟩

set_option maxHeartbeats 4000000 in
set_option maxRecDepth 100000 in
theorem ref04_Lines (l : List UInt8) (w : World) (hm : l.length ≤ 90000) :
    Calls Tryz.prog 37 #[bstr l] w fun e w' => ∃ a cap, e = .returned (.tuple #[.slice a (linesF l).1.length cap, .bool (linesF l).2]) ∧ SlX w' w'.heap.size a (linesF l).1 ∧ Below w.heap.size w w' := by
  have H1 := ref04_parts l 10 (by omega) w
  have hlen := cut_len 10 l
  have HM : Hid (∀ x ∈ cutF 10 l, x.length ≤ maxLen) := fun x hx => by have := cut_short 10 l x hx; unfold maxLen; omega
  obtain ⟨q, z, hq⟩ := cut_last 10 l
  have HS := Lib.hid (lines_snoc hq)
  rw [hq] at H1 hlen HM
  simp only [List.length_append, List.length_cons, List.length_nil, Nat.zero_add] at hlen
  have H1 := Lib.hid H1
  clear hq
  have hq2 : q.length ≤ 100000 := by omega
  clear hlen
  cases hz : z.isEmpty
  all_goals
    have hze : (z == []) = z.isEmpty := by cases z <;> rfl
    have hzn : (z != []) = !z.isEmpty := by cases z <;> rfl
    rw [hz] at hze hzn
    simp only [Bool.not_true, Bool.not_false] at hzn
    have HZ := Lib.hid hz
    go_enter Tryz.func37, Tryz.ntmps37
    go_wp2_with fail
    refine H1.out.mono ?_
    rintro e w1 ⟨v, rfl, ho, hb1⟩
    obtain ⟨a, cap, rfl, hs1⟩ := ho.read HM.out
    have hcap : (q ++ [z]).length ≤ cap := by
      rcases ho.2 with ⟨_, hn⟩ | ⟨g, cap', cur, hv, _, _, hnc, _⟩
      · simp at hn
      · injection hv with _ _ h3
        omega
    obtain ⟨b, off, rfl, hb, hc⟩ := slX_last hs1
    have HX := Lib.hid (slX_front hs1)
    have HB := Lib.hid hb1
    clear hs1 hb1 ho
    simp only [List.length_append, List.length_cons, List.length_nil, Nat.zero_add] at hcap
    simp only [List.length_append, List.length_cons, List.length_nil, Nat.zero_add]
    go_wp2_with fail
    go_ret2
  · exact ⟨none, 0, by rw [HS.out, if_neg (fun h => by subst h; cases HZ.out)]; rfl, by rw [HS.out, if_neg (fun h => by subst h; cases HZ.out)]; exact .nil, HB.out⟩
  · obtain rfl : z = [] := by cases z with
      | nil => rfl
      | cons _ _ => cases HZ.out
    exact ⟨_, _, by rw [HS.out, if_pos rfl]; rfl, by rw [HS.out, if_pos rfl]; exact HX.out, HB.out⟩
end Go.Proofs.YtfcgdfcekpbliaaGreatDoor
