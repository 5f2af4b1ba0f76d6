/-
  Lines of words: both roads.
-/
import Derived.Test.YthbflllflnnipaaGreatDoorMa
namespace Go.Proofs.YthbflllflnnipaaGreatDoor
set_option linter.unusedSimpArgs false
set_option linter.unusedVariables false
set_option linter.unusedSectionVars false
open Go.ChangeShapes Go.WideShapes Go.ChangeAt Go.RowKit Go.Deep Go.Shelf

theorem join_le (l : List (List UInt8)) (h : ∀ x ∈ l, x.length ≤ 100000) : (Lib.join l [32]).length ≤ 100001 * l.length := by
  cases l with
  | nil => simp [Lib.join_nil]
  | cons x r =>
    rw [Lib.join_length]
    have : ∀ m : List (List UInt8), (∀ x ∈ m, x.length ≤ 100000) → Lib.lens m ≤ 100000 * m.length := by
      intro m
      induction m with
      | nil => intro _; simp [Lib.lens]
      | cons y t ih =>
        intro h
        have := ih (fun x hx => h x (by simp [hx]))
        have := h y (by simp)
        simp only [Lib.lens, List.map_cons, List.sum_cons, List.length_cons] at *
        omega
    have := this (x :: r) h
    simp only [List.length_cons, List.length_nil] at *
    omega
theorem strings_join (a : Option Addr) (cap : Nat) (l : List (List UInt8)) (w : World) (hm : l.length ≤ 100000) (hw : ∀ x ∈ l, x.length ≤ 100000) (hcap : l.length ≤ cap) (hs : SlX w w.heap.size a l) :
    Calls Tryz.prog 67 #[.slice a l.length cap, bstr [32]] w fun e w' => e = .returned (bstr (Lib.join l [32])) ∧ Below w.heap.size w w' := by
  by_cases h0 : l = []
  · subst h0
    exact (Tryz.strings_Join_none a cap ⟨#[32]⟩ w).mono fun e w' ⟨he, hw⟩ => ⟨by rw [he]; rfl, by rw [hw]; exact Below.refl _ _⟩
  · have hp : 0 < l.length := List.length_pos_iff.2 h0
    obtain ⟨b, off, rfl, hb, _, _⟩ := hs.atX hp
    have hj := join_le l hw
    have hx : (l.map (fun s => (⟨s.toArray⟩ : ByteArray))).map (·.data.toList) = l := by rw [List.map_map]; exact (List.map_congr_left (fun _ _ => rfl)).trans (List.map_id l)
    have := Tryz.strings_Join b off cap (l.map (fun s => (⟨s.toArray⟩ : ByteArray))) ⟨#[32]⟩ w (fun j x hjx => by
      rw [List.getElem?_map] at hjx
      obtain ⟨y, hy, rfl⟩ := Option.map_eq_some_iff.1 hjx
      obtain ⟨hlt, rfl⟩ := List.getElem?_eq_some_iff.1 hy
      obtain ⟨b', off', e, _, hc, _⟩ := hs.atX hlt
      injection e with e
      injection e with e1 e2
      subst e1 e2
      exact hc) hb (by simp; omega) (by simpa using hcap) (by rw [hx]; show (Lib.join l [32]).length ≤ _; omega)
    rw [hx, List.length_map] at this
    exact this

set_option maxHeartbeats 4000000 in
set_option maxRecDepth 100000 in
theorem words_Line (a : Option Addr) (cap : Nat) (l : List (List UInt8)) (w0 w : World) (hm : l.length ≤ 100000) (hw : ∀ x ∈ l, x.length ≤ 100000) (hcap : l.length ≤ cap) (hb : Below w0.heap.size w0 w) (hs0 : SlX w0 w0.heap.size a l) :
    Calls Tryz.prog 62 #[.slice a l.length cap] w fun e w' => e = .returned (.tuple #[bstr (lineF l).1, .bool (lineF l).2]) ∧ ∃ j, w' = w.more j := by
  cases hall : l.all okW with
  | false =>
    have HR : lineF l = ([], false) := by unfold lineF; rw [if_neg (by simp [hall])]
    rw [HR]
    exact (words_Line_bad a cap l w0 w (by omega) hb hs0 hall).mono fun e w' ⟨he, hww⟩ => ⟨he, by subst hww; exact ⟨_, more_self w⟩⟩
  | true =>
    have HR : Hid (lineF l = (Lib.join l [32], true)) := by show _ = _; unfold lineF; rw [if_pos hall]
    have hs := hs0.below hb (Nat.le_refl _)
    have hz := hb.size
    have HJ := Lib.hid (strings_join a cap l w hm hw hcap (hs.mono hz (fun _ _ _ h => h)))
    clear hs0 hb hcap
    have HA : Hid ((l.drop 0).all okW = true) := hall
    clear hall
    generalize Lib.join l [32] = jn at HR HJ
    go_enter Tryz.func62, Tryz.ntmps62
    go_wp2_with fail
    go_loop [8] (fun i => ∃ k : Nat, k ≤ l.length ∧ i = .int .i64 k ∧ Hid ((l.drop k).all okW = true)) (fun i => l.length - (intOf i).toNat)
    case atStart => exact ⟨0, by omega, rfl, HA⟩
    case round =>
      clear HA
      obtain ⟨k, hk, rfl, HA⟩ := hrel
      by_cases hlt : k < l.length
      · obtain ⟨b, off, rfl, hb, c0, hl0⟩ := hs.atX hlt
        have hd : (l.drop k).all okW = (okW l[k] && (l.drop (k + 1)).all okW) := by rw [List.drop_eq_getElem_cons hlt]; rfl
        rw [HA.out] at hd
        have hd2 := hd.symm
        rw [Bool.and_eq_true] at hd2
        obtain ⟨hd1, hd3⟩ := hd2
        have HD : Hid ((l.drop (k + 1)).all okW = true) := hd3
        have HI1 : Hid (∀ W, Calls Tryz.prog 100 #[bstr l[k], .int .u8 32] W fun e w' => e = .returned (.int .i64 (Lib.indexByte l[k] 32)) ∧ W = w') := fun W => index_in l[k] 32 W
        have HI2 : Hid (∀ W, Calls Tryz.prog 100 #[bstr l[k], .int .u8 10] W fun e w' => e = .returned (.int .i64 (Lib.indexByte l[k] 10)) ∧ W = w') := fun W => index_in l[k] 10 W
        unfold okW at hd1
        generalize Lib.indexByte l[k] 32 = i1 at HI1 hd1
        generalize Lib.indexByte l[k] 10 = i2 at HI2 hd1
        generalize l[k] = x at c0 hl0 HI1 HI2 hd1
        have h1 : ¬ 0 ≤ i1 := fun h => by simp [h] at hd1
        have h2 : ¬ 0 ≤ i2 := fun h => by simp [h] at hd1
        have he : x.isEmpty = false := by
          cases h : x.isEmpty with
          | false => rfl
          | true => rw [h] at hd1; cases hd1
        have hne : (!x.isEmpty) = true := by rw [he]; rfl
        have hxe : (x == []) = false := by
          cases x with
          | nil => cases he
          | cons _ _ => rfl
        clear hd hd1 hd3 HA HJ
        go_wp2_with (first
          | (go_at_call 100; (with_reducible refine (HI1.out _).mono ?_); rintro e w' ⟨rfl, rfl⟩)
          | (go_at_call 100; (with_reducible refine (HI2.out _).mono ?_); rintro e w' ⟨rfl, rfl⟩))
        go_round
        case rel => exact ⟨k + 1, hlt, by go_num, HD.out⟩
        case measure => simp [intOf]; omega
      · go_wp2_with fail
        refine HJ.out.mono ?_
        rintro e w1 ⟨rfl, hb1⟩
        go_wp2_with fail
        go_ret2
        exact ⟨by rw [HR.out]; rfl, hb1.junk⟩

theorem take_join (l : List (List UInt8)) (k : Nat) (hlt : k < l.length) : Lib.join (l.take (k + 1)) [32] = if k = 0 then l[k] else Lib.join (l.take k) [32] ++ [32] ++ l[k] := by
  cases l with
  | nil => simp at hlt
  | cons x r =>
    cases k with
    | zero => simp [Lib.join_one]
    | succ k =>
      rw [if_neg (by omega), List.take_succ_cons, List.take_succ_cons, Lib.join_cons, Lib.join_cons]
      have hk : k < r.length := by simpa using hlt
      rw [Lib.joinTail_take_succ [32] r k r[k] (List.getElem?_eq_getElem hk)]
      simp
theorem take_all (l : List (List UInt8)) (k : Nat) (hlt : k < l.length) : (l.take (k + 1)).all okW = ((l.take k).all okW && okW l[k]) := by
  rw [List.take_succ_eq_append_getElem hlt, List.all_append]
  simp
theorem line_bad (l : List (List UInt8)) (k : Nat) (hlt : k < l.length) (h : okW l[k] = false) : lineF l = ([], false) := by
  unfold lineF
  rw [if_neg]
  intro ha
  rw [List.all_eq_true] at ha
  have := ha _ (List.getElem_mem hlt)
  rw [h] at this
  cases this

set_option maxHeartbeats 8000000 in
set_option maxRecDepth 100000 in
theorem ref04_Line (a : Option Addr) (cap : Nat) (l : List (List UInt8)) (w0 w : World) (hm : l.length ≤ 100000) (hw : ∀ x ∈ l, x.length ≤ 100000) (hb : Below w0.heap.size w0 w) (hs0 : SlX w0 w0.heap.size a l) :
    Calls Tryz.prog 87 #[.slice a l.length cap] w fun e w' => e = .returned (.tuple #[bstr (lineF l).1, .bool (lineF l).2]) ∧ w = w' := by
  have hs := hs0.below hb (Nat.le_refl _)
  have hz := hb.size
  clear hs0 hb
  have HW := Lib.hid hw
  clear hw
  have HL0 : Hid (l.all okW = true → lineF l = (Lib.join l [32], true)) := fun h => by unfold lineF; rw [if_pos h]
  have HLB : Hid (∀ (k : Nat) (h : k < l.length), okW l[k] = false → lineF l = ([], false)) := fun k h hb => line_bad l k h hb
  generalize lineF l = R at HL0 HLB ⊢
  obtain ⟨r1, r2⟩ := R
  go_enter Tryz.func87, Tryz.ntmps87
  go_wp2_with fail
  go_loop [4, 5] (fun s i => ∃ (k : Nat) (acc : List UInt8), k ≤ l.length ∧ i = .int .i64 k ∧ s = bstr acc ∧ acc.length ≤ 100001 * k ∧ Hid (acc = Lib.join (l.take k) [32]) ∧ Hid ((l.take k).all okW = true)) (fun _ i => l.length - (intOf i).toNat)
  case atStart => exact ⟨0, [], by omega, rfl, rfl, by simp, by show _ = _; rfl, by show _ = _; simp⟩
  case round =>
    obtain ⟨k, acc, hk, rfl, rfl, hacc, HA, HO⟩ := hrel
    by_cases hlt : k < l.length
    · obtain ⟨b, off, rfl, hb, c0, hl0⟩ := hs.atX hlt
      have hx := HW.out _ (List.getElem_mem hlt)
      have HT : Hid (Lib.join (l.take (k + 1)) [32] = if k = 0 then l[k] else acc ++ [32] ++ l[k]) := by show _ = _; rw [take_join l k hlt, HA.out]
      have HALL : Hid (okW l[k] = true → (l.take (k + 1)).all okW = true) := fun h => by rw [take_all l k hlt, HO.out, h]; rfl
      have HB : Hid (okW l[k] = false → (r1, r2) = ([], false)) := HLB.out k hlt
      have HOK := Lib.hid (okW_R l[k])
      have HK0 := Lib.hid HA.out
      clear HLB HA HO
      generalize l[k] = x at c0 hl0 hx HT HALL HB HOK
      cases he : x.isEmpty with
      | true =>
        obtain rfl : x = [] := by cases x <;> simp_all
        have hr := HB.out rfl
        obtain ⟨rfl, rfl⟩ := Prod.mk.inj hr
        clear HT HALL HB HOK hr he
        go_wp2_with fail
        go_ret2
        exact ⟨rfl, rfl⟩
      | false =>
        have hne : x ≠ [] := by intro h; subst h; cases he
        have hxp : ¬ x.length = 0 := fun h => hne (List.eq_nil_of_length_eq_zero h)
        have hxp2 : ((x.length : Int) == 0) = false := by rw [beq_eq_false_iff_ne]; omega
        have HNE := Lib.hid he
        clear he hne
        go_wp2_with fail
        go_loop [6] (fun i => ∃ n : Nat, n ≤ x.length ∧ i = .int .i64 n ∧ Hid ((x.take n).any badB = false)) (fun i => x.length - (intOf i).toNat)
        case atStart => exact ⟨0, by omega, rfl, by show _ = _; simp⟩
        case round =>
          obtain ⟨n, hn, rfl, HN⟩ := hrel
          by_cases hln : n < x.length
          · have HS : Hid ((x.take (n + 1)).any badB = badB x[n]) := by show _ = _; rw [List.take_succ_eq_append_getElem hln, List.any_append, HN.out]; simp
            have HX : Hid (badB x[n] = true → okW x = false) := fun h => by
              rw [HOK.out, HNE.out]
              have : x.any badB = true := List.any_eq_true.2 ⟨_, List.getElem_mem hln, h⟩
              rw [this]; rfl
            have h32 : (x[n] == 32) = ((x[n].toNat : Int) == 32) := by
              rw [Bool.eq_iff_iff, beq_iff_eq, beq_iff_eq, ← UInt8.toNat_inj]
              show x[n].toNat = 32 ↔ _
              omega
            have h10 : (x[n] == 10) = ((x[n].toNat : Int) == 10) := by
              rw [Bool.eq_iff_iff, beq_iff_eq, beq_iff_eq, ← UInt8.toNat_inj]
              show x[n].toNat = 10 ↔ _
              omega
            have HBD : Hid (badB x[n] = (((x[n].toNat : Int) == 32) || ((x[n].toNat : Int) == 10))) := by show _ = _; unfold badB; rw [h32, h10]
            clear h32 h10
            cases t1 : ((x[n].toNat : Int) == 32) <;> cases t2 : ((x[n].toNat : Int) == 10)
            case false.false =>
              go_wp2_with fail
              go_round
              case rel => exact ⟨n + 1, hln, by go_num, by show _ = _; rw [HS.out, HBD.out, t1, t2]; rfl⟩
              case measure => simp [intOf]; omega
            all_goals
              have hr := HB.out (HX.out (by rw [HBD.out, t1, t2]; rfl))
              obtain ⟨rfl, rfl⟩ := Prod.mk.inj hr
              clear HT HALL HB HOK hr HBD
              go_wp2_with fail
              go_ret2
              exact ⟨rfl, rfl⟩
          · have hok : okW x = true := by
              rw [HOK.out, HNE.out]
              have := HN.out
              rw [List.take_of_length_le (by omega)] at this
              rw [this]; rfl
            have HAL : Hid ((l.take (k + 1)).all okW = true) := HALL.out hok
            clear HALL HB HOK hok HN
            by_cases k0 : k = 0
            · have HT0 : Hid (acc ++ x = Lib.join (l.take (k + 1)) [32]) := by show _ = _; rw [HT.out, if_pos k0, HK0.out, k0]; simp [Lib.join_nil]
              have k1 : ¬ (0 : Int) < k := by omega
              clear k0
              go_wp2_with fail
              go_round
              case rel => exact ⟨k + 1, acc ++ x, by omega, by go_num, by simp, by simp; omega, HT0, HAL⟩
              case measure => simp [intOf]; omega
            · have HT0 : Hid (acc ++ [32] ++ x = Lib.join (l.take (k + 1)) [32]) := by show _ = _; rw [HT.out, if_neg k0]
              have k1 : (0 : Int) < k := by omega
              go_wp2_with fail
              go_round
              case rel => exact ⟨k + 1, acc ++ [32] ++ x, by omega, by go_num, by simp, by simp; omega, HT0, HAL⟩
              case measure => simp [intOf]; omega
    · have hr : (r1, r2) = (acc, true) := by
        rw [HL0.out (by have := HO.out; rwa [List.take_of_length_le (by omega)] at this), HA.out, List.take_of_length_le (by omega)]
      obtain ⟨rfl, rfl⟩ := Prod.mk.inj hr
      clear hr
      go_wp2_with fail
      go_ret2
      exact ⟨rfl, rfl⟩
