/-
  Parts of the proof, one behind the other: contracts of the program and plain laws; no condition of their own.
-/
import Derived.Test.YtfcgdfcekpbliaaGreatDoorMa
import Derived.Deep.LoopGhost
import Derived.BigGuardPart
import Derived.Test.YtfcgdfcekpbliaaGreatDoorMb
import Derived.StillTailTactics
/-
  Words: the document's digits, word, and back.
-/
namespace Go.Proofs.YtfcgdfcekpbliaaGreatDoor
set_option linter.unusedSimpArgs false
set_option linter.unusedVariables false
set_option linter.unusedSectionVars false
open Go.ChangeShapes Go.WideShapes Go.ChangeAt Go.RowKit Go.Deep Go.Shelf

theorem hex_cut {n : Nat} (h : n < 16) : (hexD.drop n).take 1 = [hexD.getD n 0] := by
  have : ∀ m : Fin 16, (hexD.drop m.val).take 1 = [hexD.getD m.val 0] := by decide
  exact this ⟨n, h⟩
set_option maxRecDepth 100000 in
theorem ref04_pair (c : UInt8) (w : World) : Calls Tryz.prog 81 #[.int .u8 (c.toNat : Int)] w fun e w' => e = .returned (bstr (pairB c)) ∧ ∃ j, w' = w.more j := by
  have hb := c.toNat_lt
  have h1 := Lib.hid (hex_cut (n := c.toNat / 16) (by omega))
  have h2 := Lib.hid (hex_cut (n := c.toNat % 16) (by omega))
  have HF : Hid (pairB c = [hexD.getD (c.toNat / 16) 0] ++ [hexD.getD (c.toNat % 16) 0]) := rfl
  generalize pairB c = P at HF ⊢
  generalize c.toNat = n at *
  have f1 : (n : Int) / 16 = ((n / 16 : Nat) : Int) := by omega
  have f2 : (n : Int) % 16 = ((n % 16 : Nat) : Int) := by omega
  have g1 : n / 16 < 16 := by omega
  have g2 : n % 16 < 16 := by omega
  generalize hq : n / 16 = q at *
  generalize hr : n % 16 = r at *
  clear hq hr
  have f3 : IntKind.i64.wrap ((q : Int) + 1) = (q : Int) + 1 := by rw [IntWalk.i64_in _ (by omega)]
  have f4 : IntKind.i64.wrap ((r : Int) + 1) = (r : Int) + 1 := by rw [IntWalk.i64_in _ (by omega)]
  have i1 : (q : Int) + 1 ≤ 16 := by omega
  have i2 : (r : Int) + 1 ≤ 16 := by omega
  have i3 : (q : Int) ≤ (q : Int) + 1 := by omega
  have i4 : (r : Int) ≤ (r : Int) + 1 := by omega
  have i5 : ((q : Int) + 1).toNat = q + 1 := by omega
  have i6 : ((r : Int) + 1).toNat = r + 1 := by omega
  have i7 : (0 : Int) ≤ (q : Int) + 1 := by omega
  have i8 : (0 : Int) ≤ (r : Int) + 1 := by omega
  have i9 : ¬ 9223372036854775807 < min 1 (16 - q) + min 1 (16 - r) := by omega
  go_enter Tryz.func81, Tryz.ntmps81
  go_wp2_with fail
  go_quiet (fail)
  go_wp2_with fail
  go_ret
  exact ⟨ret1d (by rw [HF.out, ← h1.out, ← h2.out]; rfl), (below_drewN (Below.refl _ _) _).junk⟩

def fndFrom : List UInt8 → UInt8 → Nat → Int
  | [], _, _ => -1
  | b :: l, c, k => if (b == c) = true then (k : Int) else fndFrom l c (k + 1)
theorem fnd_index : ∀ (l : List UInt8) (c : UInt8) (k : Nat), fndFrom l c k = if Lib.indexByte l c = -1 then -1 else Lib.indexByte l c + k
  | [], _, _ => rfl
  | b :: l, c, k => by
    have ih := fnd_index l c (k + 1)
    have hge := Lib.indexByte_ge l c
    unfold fndFrom Lib.indexByte
    cases h : (b == c)
    · simp only [Bool.false_eq_true, if_false]
      rw [ih]
      by_cases h1 : Lib.indexByte l c = -1
      · simp [h1]
      · have h1' : (Lib.indexByte l c == -1) = false := by simpa using h1
        rw [if_neg h1]
        simp only [h1', Bool.false_eq_true, if_false]
        rw [if_neg (by omega)]
        omega
    · simp
theorem hexI_fnd (c : UInt8) : hexI c = fndFrom hexD c 0 := by
  have := fnd_index hexD c 0
  have hge := Lib.indexByte_ge hexD c
  unfold hexI
  rw [this]
  split <;> omega
set_option maxRecDepth 100000 in
theorem ref04_value (c : UInt8) (w : World) : Calls Tryz.prog 97 #[.int .u8 (c.toNat : Int)] w fun e w' => e = .returned (.int .i64 (hexI c)) ∧ w = w' := by
  have HF : Hid (hexI c = fndFrom (hexD.drop 0) c 0) := hexI_fnd c
  generalize hexI c = R at HF ⊢
  go_enter Tryz.func97, Tryz.ntmps97
  go_wp2_with fail
  go_loop [3] (fun i => ∃ k : Nat, k ≤ 16 ∧ i = .int .i64 k ∧ Hid (R = fndFrom (hexD.drop k) c k)) (fun i => 16 - (intOf i).toNat)
  case atStart => exact ⟨0, by omega, rfl, HF⟩
  case round =>
    clear HF
    obtain ⟨k, hk, rfl, HF⟩ := hrel
    by_cases hlt : k < 16
    · have hd : hexD.drop k = hexD[k]'hlt :: hexD.drop (k + 1) := List.drop_eq_getElem_cons hlt
      have he : (hexD[k]'hlt == c) = (((hexD[k]'hlt).toNat : Int) == (c.toNat : Int)) := by
        rw [Bool.eq_iff_iff, beq_iff_eq, beq_iff_eq, ← UInt8.toNat_inj]
        omega
      have HF2 : Hid (R = if (((hexD[k]'hlt).toNat : Int) == (c.toNat : Int)) = true then (k : Int) else fndFrom (hexD.drop (k + 1)) c (k + 1)) := by
        show R = _
        rw [HF.out, hd, fndFrom, he]
      clear HF hd he
      cases hq : (((hexD[k]'hlt).toNat : Int) == (c.toNat : Int))
      · go_wp2_with fail
        go_round
        case rel => exact ⟨k + 1, hlt, by go_num, HF2.out.trans (by rw [hq]; rfl)⟩
        case measure => simp [intOf]; omega
      · go_wp2_with fail
        go_ret
        exact ⟨ret1d (by rw [HF2.out, if_pos hq]; rfl), rfl⟩
    · go_wp2_with fail
      go_ret
      exact ⟨ret1d (by rw [HF.out, List.drop_of_length_le (by show 16 ≤ k; omega)]; rfl), rfl⟩
end Go.Proofs.YtfcgdfcekpbliaaGreatDoor
/-
  Words: the document's word, and back.
-/
namespace Go.Proofs.YtfcgdfcekpbliaaGreatDoor
set_option linter.unusedSimpArgs false
set_option linter.unusedVariables false
set_option linter.unusedSectionVars false
open Go.ChangeShapes Go.WideShapes Go.ChangeAt Go.RowKit Go.Deep Go.Shelf

theorem qu_len1 (c : UInt8) : (quB c).length ≤ 3 := by unfold quB pairB; split <;> simp
theorem qu_len (l : List UInt8) : ∀ k, ((l.take k).flatMap quB).length ≤ 3 * k := by
  induction l with
  | nil => intro k; simp
  | cons c r ih =>
    intro k
    cases k with
    | zero => simp
    | succ k =>
      rw [List.take_succ_cons, List.flatMap_cons, List.length_append]
      have := ih k
      have := qu_len1 c
      omega
theorem plB_tests (c : UInt8) : plB c = !(decide ((c.toNat : Int) < 33) || decide (126 < (c.toNat : Int)) || (c.toNat : Int) == 37) := by
  have h37 : (c == 37) = ((c.toNat : Int) == 37) := by
    rw [Bool.eq_iff_iff, beq_iff_eq, beq_iff_eq, ← UInt8.toNat_inj]
    show c.toNat = 37 ↔ _
    omega
  unfold plB
  rw [h37]
  have e1 : decide (32 < c.toNat) = !decide ((c.toNat : Int) < 33) := by rw [Bool.eq_iff_iff]; simp; omega
  have e2 : decide (c.toNat < 127) = !decide (126 < (c.toNat : Int)) := by rw [Bool.eq_iff_iff]; simp; omega
  rw [e1, e2]
  cases decide ((c.toNat : Int) < 33) <;> cases decide (126 < (c.toNat : Int)) <;> cases ((c.toNat : Int) == 37) <;> rfl

set_option maxHeartbeats 4000000 in
set_option maxRecDepth 100000 in
theorem ref04_Quote (l : List UInt8) (hm : l.length ≤ 1048576) (w : World) :
    Calls Tryz.prog 60 #[bstr l] w fun e w' => e = .returned (bstr (quoteF l)) ∧ ∃ j, w' = w.more j := by
  by_cases h0 : l = []
  · subst h0
    go_enter Tryz.func60, Tryz.ntmps60
    go_wp2_with fail
    go_ret
    exact ⟨rfl, Below.junk bel⟩
  have hne : l.isEmpty = false := by cases l <;> simp_all
  have hne' : (!l.isEmpty) = true := by rw [hne]; rfl
  have HF : Hid (quoteF l = l.flatMap quB) := by show quoteF l = _; rw [quoteF, if_neg h0]
  clear h0
  go_enter Tryz.func60, Tryz.ntmps60
  go_wp2_with fail
  go_loopg [3, 4] l.length (fun g s i wr => ∃ (k : Nat) (acc : List UInt8), k + g = l.length ∧ i = .int .i64 k ∧ s = bstr acc ∧ acc.length ≤ 3 * k ∧ Hid (acc = (l.take k).flatMap quB) ∧ ∃ j, wr = w.more j)
  case atStart => exact ⟨0, [], by omega, rfl, rfl, by simp, by show _ = _; simp, Below.junk bel⟩
  case round =>
    obtain ⟨k, acc, hkg, rfl, rfl, hlen, HA, jr, rfl⟩ := hrel
    by_cases hlt : k < l.length
    · have HK := Lib.hid hkg
      clear hkg
      have HS : Hid ((l.take (k + 1)).flatMap quB = acc ++ quB l[k]) := by show _ = _; rw [HA.out, List.take_succ_eq_append_getElem hlt, List.flatMap_append]; simp
      have hpt := plB_tests l[k]
      have HPr : Hid (∀ W, Calls Tryz.prog 81 #[.int .u8 (l[k].toNat : Int)] W fun e w' => e = .returned (bstr (pairB l[k])) ∧ ∃ j, w' = W.more j) := ref04_pair l[k]
      have hpl : (pairB l[k]).length = 2 := by simp [pairB]
      have hpl2 := Nat.le_of_eq hpl
      clear hpl
      cases hp : plB l[k] with
      | true =>
        have HS2 : Hid ((l.take (k + 1)).flatMap quB = acc ++ [l[k]]) := by show _ = _; rw [HS.out, quB, if_pos hp]
        have hcut : (l.drop k).take 1 = [l[k]] := by rw [List.drop_eq_getElem_cons hlt]; rfl
        have HC := Lib.hid hcut
        rw [hp] at hpt
        simp only [Bool.true_eq, Bool.not_eq_true', Bool.or_eq_false_iff, decide_eq_false_iff_not] at hpt
        obtain ⟨⟨t1, t2⟩, t3⟩ := hpt
        clear HS HPr hpl2 hcut
        go_wp2_with fail
        go_roundg (l.length - (k + 1))
        case measure => have := HK.out; omega
        case rel => exact ⟨k + 1, acc ++ [l[k]], by omega, by go_num, by rw [HC.out], by simp; omega, HS2.out.symm, Below.junk bel⟩
      | false =>
        have HS2 : Hid ((l.take (k + 1)).flatMap quB = acc ++ [37] ++ pairB l[k]) := by show _ = _; rw [HS.out, quB, if_neg (by rw [hp]; simp)]; simp
        rw [hp] at hpt
        by_cases t1 : (l[k].toNat : Int) < 33 <;> by_cases t2 : 126 < (l[k].toNat : Int)
        all_goals
          have hpt2 : (decide ((l[k].toNat : Int) < 33) || decide (126 < (l[k].toNat : Int)) || (l[k].toNat : Int) == 37) = true := by revert hpt; cases (decide ((l[k].toNat : Int) < 33) || decide (126 < (l[k].toNat : Int)) || (l[k].toNat : Int) == 37) <;> simp
          have HPT := Lib.hid hpt2
          clear hpt hpt2 HS
        all_goals try (exfalso; omega)
        all_goals
          cases t3 : ((l[k].toNat : Int) == 37)
          all_goals
            first
              | (exfalso; have := HPT.out; simp [t1, t2, t3] at this; done)
              | (go_wp2_with (go_at_call 81; refine (HPr.out _).mono ?_; rintro e w' ⟨rfl, j, rfl⟩)
                 go_roundg (l.length - (k + 1))
                 case measure => have := HK.out; omega
                 case rel => exact ⟨k + 1, acc ++ [37] ++ pairB l[k], by omega, by go_num, by simp, by simp; omega, HS2.out.symm, Below.junk bel⟩)
    · go_wp2_with fail
      go_ret
      refine ⟨ret1d ?_, Below.junk bel⟩
      rw [HF.out]
      have : acc = l.flatMap quB := by rw [HA.out, List.take_of_length_le (by omega)]
      rw [← this]; rfl

theorem unqR_esc {c : UInt8} {r : List UInt8} (h : (c == 37) = true) : unqR (c :: r) = match r with
    | a :: b :: r' => if 0 ≤ hexI a ∧ 0 ≤ hexI b then (unqR r').map (byteOf a b :: ·) else none
    | _ => none := by
  match r with
  | [] => simp only [unqR, h]; rfl
  | [d] => simp only [unqR, h]; rfl
  | a :: b :: r' => simp only [unqR, h]; rfl
def unrE (w : List UInt8) : Option (List UInt8) → List UInt8 × Bool
  | some o => if quoteF o = w then (o, true) else ([], false)
  | none => ([], false)
def unrB (acc : List UInt8) (x : Option (List UInt8)) : Option (List UInt8) := x.map (acc ++ ·)
theorem unrB_nil (acc : List UInt8) : unrB acc (unqR []) = some acc := by simp [unrB, unqR]
theorem unrB_map (acc : List UInt8) (c : UInt8) (x : Option (List UInt8)) : unrB acc (x.map (c :: ·)) = unrB (acc ++ [c]) x := by cases x <;> simp [unrB]
theorem byte_sum {p q : Int} {b : UInt8} (p0 : 0 ≤ p) (p1 : p ≤ 15) (q0 : 0 ≤ q) (q1 : q ≤ 15) (h : b.toNat = 16 * p.toNat + q.toNat) : (16 * p + q) % 256 = (b.toNat : Int) := by omega
end Go.Proofs.YtfcgdfcekpbliaaGreatDoor
/-
  Words: lines of words; parts.
-/
namespace Go.Proofs.YtfcgdfcekpbliaaGreatDoor
set_option linter.unusedSimpArgs false
set_option linter.unusedVariables false
set_option linter.unusedSectionVars false
open Go.ChangeShapes Go.WideShapes Go.ChangeAt Go.RowKit Go.Deep Go.Shelf

theorem index_in (s : List UInt8) (c : UInt8) (w : World) : Calls Tryz.prog 94 #[bstr s, .int .u8 (c.toNat : Int)] w fun e w' => e = .returned (.int .i64 (Lib.indexByte s c)) ∧ w = w' :=
  (Tryz.strings_IndexByte ⟨s.toArray⟩ c.toNat w).mono fun e w' ⟨he, hw⟩ => ⟨by rw [he]; simp, hw.symm⟩

set_option maxHeartbeats 4000000 in
set_option maxRecDepth 100000 in
/-- A line of words one of which is none. -/
theorem words_Line_bad (a : Option Addr) (cap : Nat) (l : List (List UInt8)) (w0 w : World) (hm : l.length ≤ 1048576) (hb : Below w0.heap.size w0 w) (hs0 : SlX w0 w0.heap.size a l) (hbad : l.all okW = false) :
    Calls Tryz.prog 77 #[.slice a l.length cap] w fun e w' => e = .returned (.tuple #[bstr [], .bool false]) ∧ w = w' := by
  have hs := hs0.below hb (Nat.le_refl _)
  have hz := hb.size
  clear hs0 hb
  have HA : Hid ((l.drop 0).all okW = false) := hbad
  clear hbad
  go_enter Tryz.func77, Tryz.ntmps77
  go_wp2_with fail
  go_loop [8] (fun i => ∃ k : Nat, k ≤ l.length ∧ i = .int .i64 k ∧ Hid ((l.drop k).all okW = false)) (fun i => l.length - (intOf i).toNat)
  case atStart => exact ⟨0, by omega, rfl, HA⟩
  case round =>
    clear HA
    obtain ⟨k, hk, rfl, HA⟩ := hrel
    by_cases hlt : k < l.length
    · obtain ⟨b, off, rfl, hb, c0, hl0⟩ := hs.atX hlt
      have hd : (l.drop k).all okW = (okW l[k] && (l.drop (k + 1)).all okW) := by rw [List.drop_eq_getElem_cons hlt]; rfl
      have HI1 : Hid (∀ W, Calls Tryz.prog 94 #[bstr l[k], .int .u8 32] W fun e w' => e = .returned (.int .i64 (Lib.indexByte l[k] 32)) ∧ W = w') := fun W => index_in l[k] 32 W
      have HI2 : Hid (∀ W, Calls Tryz.prog 94 #[bstr l[k], .int .u8 10] W fun e w' => e = .returned (.int .i64 (Lib.indexByte l[k] 10)) ∧ W = w') := fun W => index_in l[k] 10 W
      have HD : Hid ((okW l[k] && (l.drop (k + 1)).all okW) = false) := hd.symm.trans HA.out
      have HO : Hid (okW l[k] = (!l[k].isEmpty && !decide (0 ≤ Lib.indexByte l[k] 32) && !decide (0 ≤ Lib.indexByte l[k] 10))) := rfl
      generalize okW l[k] = ok at HD HO
      generalize Lib.indexByte l[k] 32 = i1 at HI1 HO
      generalize Lib.indexByte l[k] 10 = i2 at HI2 HO
      generalize l[k] = x at c0 hl0 HI1 HI2 HO
      have HN : Hid (x.isEmpty = false → i1 < 0 → i2 < 0 → (l.drop (k + 1)).all okW = false) := fun h1 h2 h3 => by
        have h := HD.out
        rw [HO.out, h1] at h
        have e1 : decide (0 ≤ i1) = false := by simp; omega
        have e2 : decide (0 ≤ i2) = false := by simp; omega
        rw [e1, e2] at h
        simpa using h
      clear hd HA HD HO
      cases he : x.isEmpty <;> by_cases h1 : 0 ≤ i1 <;> by_cases h2 : 0 ≤ i2
      all_goals
        have hne : (!x.isEmpty) = !x.isEmpty := rfl
        have hxe : (x == []) = x.isEmpty := by cases x <;> rfl
        rw [he] at hxe
        go_wp2_with (first
          | (go_at_call 94; (with_reducible refine (HI1.out _).mono ?_); rintro e w' ⟨rfl, rfl⟩)
          | (go_at_call 94; (with_reducible refine (HI2.out _).mono ?_); rintro e w' ⟨rfl, rfl⟩))
      all_goals first
        | (exfalso; omega)
        | (go_ret2
           exact ⟨rfl, rfl⟩)
        | (go_round
           case rel => exact ⟨k + 1, hlt, by go_num, HN.out he (by omega) (by omega)⟩
           case measure => simp [intOf]; omega)
    · exfalso
      have := HA.out
      rw [List.drop_of_length_le (by omega)] at this
      simp at this

set_option maxHeartbeats 4000000 in
set_option maxRecDepth 100000 in
theorem words_Split_bad (l : List UInt8) (m : Int) (w : World) (hm : l.length ≤ 1000000) (h0 : l ≠ []) (hM : w.cell? ⟨1, 0, none⟩ = some (.int .i64 m)) (hbad : (Lib.split l [32]).all okW = false) :
    Calls Tryz.prog 52 #[bstr l] w fun e w' => e = .returned (.tuple #[.slice none 0 0, .bool false]) ∧ ∃ j, w' = w.more j := by
  have hne : l.isEmpty = false := by cases l <;> simp_all
  have hne' : (!l.isEmpty) = true := by rw [hne]; rfl
  have H1 := Lib.hid (strings_split l 32 m w (by omega) hM)
  have H2 := Lib.hid (words_Line_bad (some ⟨w.heap.size, 0, none⟩) (Lib.split l [32]).length (Lib.split l [32]) (w.alloc (.cells ((Lib.split l [32]).map bstr).toArray 9)) (w.alloc (.cells ((Lib.split l [32]).map bstr).toArray 9)) (by have := split_le l 32; omega) (Below.refl _ _) (by rw [World.size_alloc]; exact split_slX l 32 w (by omega)) hbad)
  clear hbad hM h0
  generalize Lib.split l [32] = p at H1 H2
  go_enter Tryz.func52, Tryz.ntmps52
  go_wp2_with fail
  refine H1.out.mono ?_
  rintro e w1 ⟨rfl, rfl⟩
  go_wp2_with fail
  refine H2.out.mono ?_
  rintro e w1 ⟨rfl, rfl⟩
  go_wp2_with fail
  go_ret2
  exact ⟨rfl, Below.junk bel⟩
end Go.Proofs.YtfcgdfcekpbliaaGreatDoor
/-
  Words: a text's word, the program's.
-/
namespace Go.Proofs.YtfcgdfcekpbliaaGreatDoor
set_option linter.unusedSimpArgs false
set_option linter.unusedVariables false
set_option linter.unusedSectionVars false
open Go.ChangeShapes Go.WideShapes Go.ChangeAt Go.RowKit Go.Deep Go.Shelf

set_option maxRecDepth 100000 in
theorem words_plain (c : UInt8) (w : World) :
    Calls Tryz.prog 71 #[.int .u8 (c.toNat : Int)] w fun e w' => e = .returned (.bool (plB c)) ∧ w = w' := by
  have h37 : (c == 37) = ((c.toNat : Int) == 37) := by
    rw [Bool.eq_iff_iff, beq_iff_eq, beq_iff_eq, ← UInt8.toNat_inj]
    show c.toNat = 37 ↔ _
    omega
  have HP : Hid (plB c = (decide (32 < c.toNat) && decide (c.toNat < 127) && !((c.toNat : Int) == 37))) := by show plB c = _; rw [plB, h37]
  generalize plB c = p at HP ⊢
  have hb := c.toNat_lt
  generalize c.toNat = n at HP hb ⊢
  by_cases t1 : 32 < n <;> by_cases t2 : n < 127 <;> cases t3 : ((n : Int) == 37)
  all_goals
    go_enter Tryz.func71, Tryz.ntmps71
    go_wp2_with fail
    all_goals first
      | (exfalso; omega)
      | (go_ret
         exact ⟨ret1d (by rw [HP.out, t3]; first | (simp [t1, t2]; done) | (simp [t1, t2]; simpa using t3)), rfl⟩)

theorem pairB_get (c : UInt8) : pairB c = [hexD[c.toNat / 16]'(by have := c.toNat_lt; show _ < 16; omega), hexD[c.toNat % 16]'(by show _ < 16; omega)] := by
  have := c.toNat_lt
  unfold pairB
  simp only [List.getD_eq_getElem?_getD, List.getElem?_eq_getElem (show c.toNat / 16 < hexD.length by show _ < 16; omega), List.getElem?_eq_getElem (show c.toNat % 16 < hexD.length by show _ < 16; omega), Option.getD_some]
theorem quB_len1 (c : UInt8) : (quB c).length ≤ 3 := by unfold quB pairB; split <;> simp
theorem quB_len (l : List UInt8) : ∀ k, ((l.take k).flatMap quB).length ≤ 3 * k := by
  induction l with
  | nil => intro k; simp
  | cons c r ih =>
    intro k
    cases k with
    | zero => simp
    | succ k =>
      rw [List.take_succ_cons, List.flatMap_cons, List.length_append]
      have := ih k
      have := quB_len1 c
      omega

set_option maxHeartbeats 2000000 in
set_option maxRecDepth 100000 in
theorem words_Quote (l : List UInt8) (hm : l.length ≤ 1048576) (w : World) :
    Calls Tryz.prog 46 #[bstr l] w fun e w' => e = .returned (bstr (quoteF l)) ∧ ∃ j, w' = w.more j := by
  by_cases h0 : l = []
  · subst h0
    go_enter Tryz.func46, Tryz.ntmps46
    go_wp2_with fail
    go_ret
    exact ⟨rfl, Below.junk bel⟩
  have hne : l.isEmpty = false := by cases l <;> simp_all
  have hne' : (!l.isEmpty) = true := by rw [hne]; rfl
  have HF : Hid (quoteF l = l.flatMap quB) := by show quoteF l = _; rw [quoteF, if_neg h0]
  clear h0
  go_enter Tryz.func46, Tryz.ntmps46
  go_wp2_with fail
  go_loopg [9] l.length (fun g i wr => ∃ k : Nat, k + g = l.length ∧ i = .int .i64 k ∧ Below w.heap.size w wr ∧ Lib.IsBuilder BT BytT w.heap.size w.heap.size (Lib.byteCells ((l.take k).flatMap quB)) wr)
  case atStart => exact ⟨0, by omega, rfl, (Below.refl _ _).alloc (Nat.le_refl _) _, Lib.fresh_isBuilder BT BytT w⟩
  case round =>
    obtain ⟨k, hkg, rfl, hb, HB⟩ := hrel
    by_cases hlt : k < l.length
    · have hc := l[k].toNat_lt
      have HK := Lib.hid hkg
      clear hkg
      have hlen : ((l.take k).flatMap quB).length ≤ 3 * k := quB_len l k
      have hst : (l.take (k + 1)).flatMap quB = (l.take k).flatMap quB ++ quB l[k] := by rw [List.take_succ_eq_append_getElem hlt, List.flatMap_append]; simp
      cases hp : plB l[k] with
      | true =>
        have HP := Lib.hid hp
        clear hp
        have HS : Hid ((l.take (k + 1)).flatMap quB = (l.take k).flatMap quB ++ [l[k]]) := by show _ = _; rw [hst, quB, if_pos HP.out]
        clear hst
        go_wp2_with (go_at_call 71; refine (words_plain l[k] _).mono ?_; rintro e w' ⟨rfl, rfl⟩; rw [HP.out])
        refine (writeB w.heap.size w.heap.size _ l[k] wr HB (by omega) hb.size).mono ?_
        rintro e w2 ⟨rfl, HB2, hb2⟩
        rw [← HS.out] at HB2
        go_wp2_with fail
        go_roundg (l.length - (k + 1))
        case measure => have := HK.out; omega
        case rel => exact ⟨k + 1, by omega, by go_num, hb.trans (hb2.mono (Nat.le_refl _)), HB2⟩
      | false =>
        have HP := Lib.hid hp
        clear hp
        have HS : Hid ((l.take (k + 1)).flatMap quB = (((l.take k).flatMap quB ++ [37]) ++ [hexD[l[k].toNat / 16]'(by show _ < 16; omega)]) ++ [hexD[l[k].toNat % 16]'(by show _ < 16; omega)]) := by show _ = _; rw [hst, quB, if_neg (by rw [HP.out]; simp), pairB_get]; simp
        clear hst
        go_wp2_with (go_at_call 71; refine (words_plain l[k] _).mono ?_; rintro e w' ⟨rfl, rfl⟩; rw [HP.out])
        refine (writeB w.heap.size w.heap.size _ 37 wr HB (by omega) hb.size).mono ?_
        rintro e w2 ⟨rfl, HB2, hb2⟩
        go_wp2_with fail
        refine (writeB w.heap.size w.heap.size _ _ w2 HB2 (by simp only [List.length_append, List.length_cons, List.length_nil]; omega) (by have := hb.size; have := hb2.size; omega)).mono ?_
        rintro e w3 ⟨rfl, HB3, hb3⟩
        go_wp2_with fail
        refine (writeB w.heap.size w.heap.size _ _ w3 HB3 (by simp only [List.length_append, List.length_cons, List.length_nil]; omega) (by have := hb.size; have := hb2.size; have := hb3.size; omega)).mono ?_
        rintro e w4 ⟨rfl, HB4, hb4⟩
        have HB5 : Lib.IsBuilder BT BytT w.heap.size w.heap.size (Lib.byteCells ((l.take (k + 1)).flatMap quB)) w4 := by rw [HS.out]; exact HB4
        go_wp2_with fail
        go_roundg (l.length - (k + 1))
        case measure => have := HK.out; omega
        case rel => exact ⟨k + 1, by omega, by go_num, ((hb.trans hb2).trans hb3).trans hb4, HB5⟩
    · go_wp2_with fail
      have hk : l.take k = l := List.take_of_length_le (by omega)
      rw [hk] at HB
      refine (Tryz.Builder_String_any w.heap.size w.heap.size _ wr HB hb.size).mono ?_
      rintro e w2 ⟨rfl, hb2⟩
      go_wp2_with fail
      go_ret
      exact ⟨by rw [HF.out]; rfl, (hb.trans hb2).junk⟩
end Go.Proofs.YtfcgdfcekpbliaaGreatDoor
/-
  Words: two digits; back from a word, the program's.
-/
namespace Go.Proofs.YtfcgdfcekpbliaaGreatDoor
set_option linter.unusedSimpArgs false
set_option linter.unusedVariables false
set_option linter.unusedSectionVars false
open Go.ChangeShapes Go.WideShapes Go.ChangeAt Go.RowKit Go.Deep Go.Shelf

theorem toUInt8_back (c : UInt8) : ((c.toNat : Int).toNat).toUInt8 = c := by simp
theorem hex_index (c : UInt8) (w : World) : Calls Tryz.prog 94 #[bstr hexD, .int .u8 (c.toNat : Int)] w fun e w' => e = .returned (.int .i64 (hexI c)) ∧ w = w' :=
  (Tryz.strings_IndexByte ⟨hexD.toArray⟩ c.toNat w).mono fun e w' ⟨he, hw⟩ => ⟨by rw [he, toUInt8_back]; rfl, hw.symm⟩
theorem or_hex {p q : Int} (p0 : 0 ≤ p) (p1 : p ≤ 15) (q0 : 0 ≤ q) (q1 : q ≤ 15) : bits .or .i64 (p * 16) q % 256 = 16 * p + q := by
  have h : ∀ a b : Fin 16, bits .or .i64 ((a.val : Int) * 16) (b.val : Int) % 256 = 16 * (a.val : Int) + (b.val : Int) := by decide +kernel
  obtain ⟨a, rfl⟩ : ∃ a : Nat, p = a := ⟨p.toNat, by omega⟩
  obtain ⟨b, rfl⟩ : ∃ b : Nat, q = b := ⟨q.toNat, by omega⟩
  exact h ⟨a, by omega⟩ ⟨b, by omega⟩
def twoF : List UInt8 → UInt8 × Bool
  | h :: l :: _ => if 0 ≤ hexI h ∧ 0 ≤ hexI l then (byteOf h l, true) else (0, false)
  | _ => (0, false)
set_option maxHeartbeats 2000000 in
set_option maxRecDepth 100000 in
theorem words_two (l : List UInt8) (hm : l.length ≤ 1048576) (w : World) :
    Calls Tryz.prog 96 #[bstr l] w fun e w' => e = .returned (.tuple #[.int .u8 ((twoF l).1.toNat : Int), .bool (twoF l).2]) ∧ ∃ j, w' = w.more j := by
  match l, hm with
  | [], _ =>
    go_enter Tryz.func96, Tryz.ntmps96
    go_wp2_with fail
    go_ret2
    exact ⟨rfl, Below.junk bel⟩
  | [c], _ =>
    go_enter Tryz.func96, Tryz.ntmps96
    go_wp2_with fail
    go_ret2
    exact ⟨rfl, Below.junk bel⟩
  | h :: x :: r, hm =>
    have b1 := hexI_bd h
    have b2 := hexI_bd x
    have HB : Hid (0 ≤ hexI h → 0 ≤ hexI x → (byteOf h x).toNat = 16 * (hexI h).toNat + (hexI x).toNat) := byteOf_nat
    have HI : Hid (∀ W, Calls Tryz.prog 94 #[bstr hexD, .int .u8 (h.toNat : Int)] W fun e w' => e = .returned (.int .i64 (hexI h)) ∧ W = w') := hex_index h
    have HX : Hid (∀ W, Calls Tryz.prog 94 #[bstr hexD, .int .u8 (x.toNat : Int)] W fun e w' => e = .returned (.int .i64 (hexI x)) ∧ W = w') := hex_index x
    have HF : Hid (twoF (h :: x :: r) = if 0 ≤ hexI h ∧ 0 ≤ hexI x then (byteOf h x, true) else (0, false)) := rfl
    generalize hexI h = p at *
    generalize hexI x = q at *
    generalize twoF (h :: x :: r) = T at *
    generalize byteOf h x = bb at *
    have hm' : r.length ≤ 1048574 := by simp at hm; omega
    have i1 : 0 < (r.length : Int) + 1 + 1 := by omega
    have i2 : 1 < (r.length : Int) + 1 + 1 := by omega
    have i3 : (0 : Int) < (r.length : Int) + 1 := by omega
    clear hm
    go_enter Tryz.func96, Tryz.ntmps96
    go_wp2_with fail
    refine wp_region_more (by kernel_rfl) (by kernel_rfl) ?_
    repeat (quiet_step (first | (go_at_call 94; exact more_of_same (HI.out _)) | (go_at_call 94; exact more_of_same (HX.out _))))
    refine wpQuiet_nil ?_
    intro w' hw'
    obtain ⟨j, rfl⟩ := hw'
    by_cases c1 : 0 ≤ p <;> by_cases c2 : 0 ≤ q
    all_goals go_wp2_with fail
    all_goals first
      | (exfalso; omega)
      | go_ret2
    · have e := or_hex c1 b1.2 c2 b2.2
      have e2 := HB.out c1 c2
      refine ⟨?_, Below.junk bel⟩
      rw [HF.out, if_pos ⟨c1, c2⟩]
      show Ending.returned (.tuple #[.int .u8 (bits .or .i64 (p * 16) q % 256), .bool true]) = _
      rw [e]
      have : ((bb.toNat : Nat) : Int) = 16 * p + q := by omega
      rw [← this]
    all_goals
      refine ⟨?_, Below.junk bel⟩
      rw [HF.out, if_neg (by omega)]
      rfl
end Go.Proofs.YtfcgdfcekpbliaaGreatDoor
/-
  Words: back from a word, the program's.
-/
namespace Go.Proofs.YtfcgdfcekpbliaaGreatDoor
set_option linter.unusedSimpArgs false
set_option linter.unusedVariables false
set_option linter.unusedSectionVars false
open Go.ChangeShapes Go.WideShapes Go.ChangeAt Go.RowKit Go.Deep Go.Shelf

theorem unqP_esc {c : UInt8} {r : List UInt8} (h : plB c = false) : unqP (c :: r) = if (c == 37) = true ∧ (twoF r).2 = true ∧ plB (twoF r).1 = false then (unqP (r.drop 2)).map ((twoF r).1 :: ·) else none := by
  match r with
  | [] => simp [unqP, h, twoF]
  | [d] => simp [unqP, h, twoF]
  | a :: b :: r =>
    by_cases hg : 0 ≤ hexI a ∧ 0 ≤ hexI b
    · have e : twoF (a :: b :: r) = (byteOf a b, true) := if_pos hg
      simp only [unqP, h, e]
      simp [hg]
    · have e : twoF (a :: b :: r) = (0, false) := if_neg hg
      have hn : ¬ ((c == 37) = true ∧ 0 ≤ hexI a ∧ 0 ≤ hexI b ∧ plB (byteOf a b) = false) := fun ⟨_, h1, h2, _⟩ => hg ⟨h1, h2⟩
      simp only [unqP, h, e, Bool.false_eq_true, if_false, false_and, and_false, if_neg hn]
theorem twoF_len {r : List UInt8} (h : (twoF r).2 = true) : 2 ≤ r.length := by
  match r, h with
  | [], h => simp [twoF] at h
  | [_], h => simp [twoF] at h
  | _ :: _ :: _, _ => simp
def unqE : Option (List UInt8) → List UInt8 × Bool
  | some o => (o, !o.isEmpty)
  | none => ([], false)
def unqB (acc : List UInt8) (x : Option (List UInt8)) : Option (List UInt8) := x.map (acc ++ ·)
theorem unqB_nil (acc : List UInt8) : unqB acc (unqP []) = some acc := by simp [unqB, unqP]
theorem unqB_map (acc : List UInt8) (c : UInt8) (x : Option (List UInt8)) : unqB acc (x.map (c :: ·)) = unqB (acc ++ [c]) x := by cases x <;> simp [unqB]

set_option maxHeartbeats 4000000 in
set_option maxRecDepth 100000 in
theorem words_Unquote (l : List UInt8) (hm : l.length ≤ 1048576) (w : World) :
    Calls Tryz.prog 79 #[bstr l] w fun e w' => e = .returned (.tuple #[bstr (unquoteF l).1, .bool (unquoteF l).2]) ∧ ∃ j, w' = w.more j := by
  by_cases h0 : l = [37]
  · subst h0
    go_enter Tryz.func79, Tryz.ntmps79
    go_wp2_with fail
    go_ret2
    exact ⟨rfl, Below.junk bel⟩
  have hne : (l == [37]) = false := by simpa using h0
  have HF : Hid (unquoteF l = unqE (unqP l)) := by show unquoteF l = _; rw [unquoteF, if_neg h0]; cases unqP l <;> rfl
  clear h0
  go_enter Tryz.func79, Tryz.ntmps79
  go_wp2_with fail
  go_loopg [4, 5] l.length (fun g v i wr => ∃ (k : Nat) (acc : List UInt8), k + g = l.length ∧ i = .int .i64 k ∧ acc.length ≤ k ∧ OwnB w.heap.size wr v acc ∧ Below w.heap.size w wr ∧ Hid (unqP l = unqB acc (unqP (l.drop k))))
  case atStart => exact ⟨0, [], by omega, rfl, by simp, OwnB.nil _ _, Below.refl _ _, by show _ = _; simp [unqB]⟩
  case round =>
    obtain ⟨k, acc, hkg, rfl, hak, HO, hb, HU⟩ := hrel
    by_cases hlt : k < l.length
    · have HK := Lib.hid hkg
      clear hkg
      have HO := Lib.hid HO
      have HB := Lib.hid hb
      have hd : l.drop k = l[k] :: l.drop (k + 1) := List.drop_eq_getElem_cons hlt
      have HT : ∀ W, Calls Tryz.prog 96 #[bstr ((l.drop (k + 1)).take (l.length - (k + 1)))] W fun e w' => e = .returned (.tuple #[.int .u8 ((twoF (l.drop (k + 1))).1.toNat : Int), .bool (twoF (l.drop (k + 1))).2]) ∧ ∃ j, w' = W.more j := by
        rw [List.take_of_length_le (by simp)]
        exact words_two _ (by simp; omega)
      cases hp : plB l[k] with
      | true =>
        have HP := Lib.hid hp
        have HPA : Hid (∀ W, Calls Tryz.prog 71 #[.int .u8 (l[k].toNat : Int)] W fun e w' => e = .returned (.bool true) ∧ W = w') := hp ▸ words_plain l[k]
        have HU2 : Hid (unqP l = unqB (acc ++ [l[k]]) (unqP (l.drop (k + 1)))) := by show _ = _; rw [HU.out, hd, unqP_plain hp, unqB_map]
        clear hp hd HT
        go_wp2_with (first
          | (go_at_call 71; refine (HPA.out _).mono ?_; rintro e w' ⟨rfl, rfl⟩)
          | (at_builtin; refine app_byte (.tmp 20) (.tmp 24) rfl rfl rfl (HO.out.alloc _) rfl (Blk.new _ _ _) (by omega) (by rw [World.size_alloc]; have := HB.out.size; omega) ?_; intro v' w1 hown hbw))
        have hb2 := HB.out.trans (((Below.refl w.heap.size wr).alloc HB.out.size _).trans hbw)
        clear hbw
        go_wp2_with fail
        go_roundg (l.length - (k + 1))
        case measure => have := HK.out; omega
        case rel => exact ⟨k + 1, acc ++ [l[k]], by omega, by go_num, by simp; omega, hown, hb2, HU2⟩
      | false =>
        have HP := Lib.hid hp
        have HPA : Hid (∀ W, Calls Tryz.prog 71 #[.int .u8 (l[k].toNat : Int)] W fun e w' => e = .returned (.bool false) ∧ W = w') := hp ▸ words_plain l[k]
        have hE : unqP l = unqB acc (if (l[k] == 37) = true ∧ (twoF (l.drop (k + 1))).2 = true ∧ plB (twoF (l.drop (k + 1))).1 = false then (unqP ((l.drop (k + 1)).drop 2)).map ((twoF (l.drop (k + 1))).1 :: ·) else none) := by rw [HU.out, hd, unqP_esc hp]
        have hL : (twoF (l.drop (k + 1))).2 = true → k + 3 ≤ l.length := fun h => by have := twoF_len h; simp at this; omega
        rw [List.drop_drop] at hE
        generalize twoF (l.drop (k + 1)) = T at HT hE hL
        obtain ⟨tb, ti⟩ := T
        simp only at HT hE hL
        have h37 : (l[k] == 37) = ((l[k].toNat : Int) == 37) := by
          rw [Bool.eq_iff_iff, beq_iff_eq, beq_iff_eq, ← UInt8.toNat_inj]
          show l[k].toNat = 37 ↔ _
          omega
        rw [h37] at hE
        have HT := Lib.hid HT
        have HPB : Hid (∀ W, Calls Tryz.prog 71 #[.int .u8 (tb.toNat : Int)] W fun e w' => e = .returned (.bool (plB tb)) ∧ W = w') := words_plain tb
        have HE := Lib.hid hE
        clear hp hd h37 hE
        have c37n : ((l[k].toNat : Int) != 37) = !((l[k].toNat : Int) == 37) := rfl
        cases c37 : ((l[k].toNat : Int) == 37) <;> cases ti <;> cases pb : plB tb <;> rw [c37] at c37n <;> simp only [Bool.not_true, Bool.not_false] at c37n
        case true.true.false =>
          have HU2 : Hid (unqP l = unqB (acc ++ [tb]) (unqP (l.drop (k + 3)))) := by show _ = _; rw [HE.out, if_pos ⟨c37, rfl, pb⟩, unqB_map]
          have hk3 := hL rfl
          rw [pb] at HPB
          clear hL HE pb
          go_wp2_with (first
            | (go_at_call 71; (with_reducible refine (HPB.out _).mono ?_); rintro e w' ⟨rfl, rfl⟩)
            | (go_at_call 71; refine (HPA.out _).mono ?_; rintro e w' ⟨rfl, rfl⟩)
            | (go_at_call 96; (with_reducible refine (HT.out _).mono ?_); rintro e w' ⟨rfl, j, rfl⟩)
            | (at_builtin; refine app_byte (.tmp 46) (.tmp 48) rfl rfl rfl ((HO.out.more _).alloc _) rfl (Blk.at_ _ _ _ (by simp)) (by omega) (by rw [World.size_alloc, World.size_more]; have := HB.out.size; omega) ?_; intro v' w1 hown hbw))
          have hb2 := HB.out.trans (((((Below.refl wr.heap.size wr).moreS j).alloc (by simp) _).mono HB.out.size).trans hbw)
          clear hbw
          go_wp2_with fail
          go_roundg (l.length - (k + 3))
          case measure => have := HK.out; omega
          case rel => exact ⟨k + 3, acc ++ [tb], by omega, by go_num, by simp; omega, hown, hb2, HU2⟩
        all_goals
          have HR : Hid (unquoteF l = ([], false)) := by show _ = _; rw [HF.out, HE.out, if_neg (by simp_all)]; rfl
          rw [pb] at HPB
          clear hL HE pb
          go_wp2_with (first
            | (go_at_call 71; (with_reducible refine (HPB.out _).mono ?_); rintro e w' ⟨rfl, rfl⟩)
            | (go_at_call 71; refine (HPA.out _).mono ?_; rintro e w' ⟨rfl, rfl⟩)
            | (go_at_call 96; (with_reducible refine (HT.out _).mono ?_); rintro e w' ⟨rfl, j, rfl⟩))
          go_ret2
          exact ⟨by rw [HR.out]; rfl, (HB.out.trans (((Below.refl wr.heap.size wr).moreS j).mono HB.out.size)).junk⟩
    · have hk : k = l.length := by omega
      have HR : Hid (unquoteF l = (acc, !acc.isEmpty)) := by show _ = _; rw [HF.out, HU.out, List.drop_of_length_le (by omega), unqB_nil]; rfl
      have ht := HO.text
      obtain ⟨a, cap, rfl⟩ := HO.len
      clear hk HU HF
      go_wp2_with fail
      go_ret2
      refine ⟨?_, hb.junk⟩
      rw [HR.out]
      have e : decide (0 < acc.length) = !acc.isEmpty := by cases acc <;> simp
      simp only [← e]
      rfl
end Go.Proofs.YtfcgdfcekpbliaaGreatDoor
/-
  Words: back from a word, the document's.
-/
namespace Go.Proofs.YtfcgdfcekpbliaaGreatDoor
set_option linter.unusedSimpArgs false
set_option linter.unusedVariables false
set_option linter.unusedSectionVars false
open Go.ChangeShapes Go.WideShapes Go.ChangeAt Go.RowKit Go.Deep Go.Shelf

set_option maxHeartbeats 8000000 in
set_option maxRecDepth 100000 in
theorem ref04_Unquote (l : List UInt8) (hm : l.length ≤ 1048576) (w : World) :
    Calls Tryz.prog 83 #[bstr l] w fun e w' => e = .returned (.tuple #[bstr (unquoteR l).1, .bool (unquoteR l).2]) ∧ ∃ j, w' = w.more j := by
  by_cases h0 : l = [37]
  · subst h0
    go_enter Tryz.func83, Tryz.ntmps83
    go_wp2_with fail
    go_ret2
    exact ⟨rfl, Below.junk bel⟩
  have hne : (l == [37]) = false := by simpa using h0
  have HF : Hid (unquoteR l = unrE l (unqR l)) := by show unquoteR l = _; rw [unquoteR, if_neg h0]; cases unqR l <;> rfl
  clear h0
  go_enter Tryz.func83, Tryz.ntmps83
  go_wp2_with fail
  go_loopg [4, 5] l.length (fun g v i wr => ∃ (k : Nat) (acc : List UInt8), k + g = l.length ∧ i = .int .i64 k ∧ acc.length ≤ k ∧ OwnB w.heap.size wr v acc ∧ Below w.heap.size w wr ∧ Hid (unqR l = unrB acc (unqR (l.drop k))))
  case atStart => exact ⟨0, [], by omega, rfl, by simp, World.ownsRow_lit (base := w.heap.size) (e := 5) (size := 1) w #[] 0 (Nat.le_refl _) (by decide) rfl, Below.allocS (Below.refl _ _) _, by show _ = _; simp [unrB]⟩
  case round =>
    obtain ⟨k, acc, hkg, rfl, hak, HO, hb, HU⟩ := hrel
    by_cases hlt : k < l.length
    · have HK := Lib.hid hkg
      have HO' := Lib.hid HO
      have HB := Lib.hid hb
      have hzb := hb.size
      have hd : l.drop k = l[k] :: l.drop (k + 1) := List.drop_eq_getElem_cons hlt
      have h37 : (l[k] == 37) = ((l[k].toNat : Int) == 37) := by
        rw [Bool.eq_iff_iff, beq_iff_eq, beq_iff_eq, ← UInt8.toNat_inj]
        show l[k].toNat = 37 ↔ _
        omega
      clear hkg HO hb
      cases c37 : ((l[k].toNat : Int) == 37) with
      | false =>
        have c37n : ((l[k].toNat : Int) != 37) = true := by rw [bne, c37]; rfl
        have HU2 : Hid (unqR l = unrB (acc ++ [l[k]]) (unqR (l.drop (k + 1)))) := by show _ = _; rw [HU.out, hd, unqR_plain (by rw [h37]; exact c37), unrB_map]
        clear hd h37
        go_wp2_with (at_builtin; refine app_byte (.tmp 20) (.tmp 24) rfl rfl rfl (HO'.out.alloc _) rfl (Blk.new _ _ _) (by omega) (by rw [World.size_alloc]; omega) ?_; intro v' w1 hown hbw)
        have hb2 := HB.out.trans (((Below.refl w.heap.size wr).alloc HB.out.size _).trans hbw)
        clear hbw
        go_wp2_with fail
        go_roundg (l.length - (k + 1))
        case measure => have := HK.out; omega
        case rel => exact ⟨k + 1, acc ++ [l[k]], by omega, by go_num, by simp; omega, hown, hb2, HU2⟩
      | true =>
        have c37n : ((l[k].toNat : Int) != 37) = false := by rw [bne, c37]; rfl
        by_cases h3 : k + 2 < l.length
        · have hd2 : l.drop (k + 1) = l[k + 1] :: l.drop (k + 2) := List.drop_eq_getElem_cons (by omega)
          have hd3 : l.drop (k + 2) = l[k + 2] :: l.drop (k + 3) := List.drop_eq_getElem_cons h3
          obtain ⟨x1, e1⟩ : ∃ x, l[k + 1] = x := ⟨_, rfl⟩
          obtain ⟨x2, e2⟩ : ∃ x, l[k + 2] = x := ⟨_, rfl⟩
          rw [e1] at hd2
          rw [e2] at hd3
          have hE : unqR l = unrB acc (if 0 ≤ hexI x1 ∧ 0 ≤ hexI x2 then (unqR (l.drop (k + 3))).map (byteOf x1 x2 :: ·) else none) := by rw [HU.out, hd, unqR_esc (by rw [h37]; exact c37), hd2, hd3]
          have HV1 : Hid (∀ W, Calls Tryz.prog 97 #[.int .u8 (x1.toNat : Int)] W fun e w' => e = .returned (.int .i64 (hexI x1)) ∧ W = w') := ref04_value x1
          have HV2 : Hid (∀ W, Calls Tryz.prog 97 #[.int .u8 (x2.toNat : Int)] W fun e w' => e = .returned (.int .i64 (hexI x2)) ∧ W = w') := ref04_value x2
          have b1 := hexI_bd x1
          have b2 := hexI_bd x2
          have hbn : 0 ≤ hexI x1 → 0 ≤ hexI x2 → (byteOf x1 x2).toNat = 16 * (hexI x1).toNat + (hexI x2).toNat := byteOf_nat
          generalize hexI x1 = p at *
          generalize hexI x2 = q at *
          generalize byteOf x1 x2 = bb at *
          have HE := Lib.hid hE
          have HBN := Lib.hid hbn
          clear hd h37 hd2 hd3 hE hbn
          by_cases pq : 0 ≤ p ∧ 0 ≤ q
          · obtain ⟨p0, q0⟩ := pq
            have HU2 : Hid (unqR l = unrB (acc ++ [bb]) (unqR (l.drop (k + 3)))) := by show _ = _; rw [HE.out, if_pos ⟨p0, q0⟩, unrB_map]
            have hbs : (16 * p + q) % 256 = (bb.toNat : Int) := by have := HBN.out p0 q0; omega
            go_wp2_with (first
              | (go_at_call 97; (with_reducible refine (HV1.out _).mono ?_); rintro e w' ⟨rfl, rfl⟩)
              | (go_at_call 97; (with_reducible refine (HV2.out _).mono ?_); rintro e w' ⟨rfl, rfl⟩))
            have s1 : IntKind.i64.wrap ((k : Int) + 1) = (k : Int) + 1 := IntWalk.i64_in _ (by omega)
            have s2 : IntKind.i64.wrap ((k : Int) + 2) = (k : Int) + 2 := IntWalk.i64_in _ (by omega)
            have s3 : IntKind.i64.wrap (16 * p) = 16 * p := IntWalk.i64_in _ (by omega)
            have s4 : IntKind.i64.wrap (16 * p + q) = 16 * p + q := IntWalk.i64_in _ (by omega)
            have s5 : ((k : Int) + 1).toNat = k + 1 := by omega
            have s6 : ((k : Int) + 2).toNat = k + 2 := by omega
            have s7 : (0 : Int) ≤ (k : Int) + 1 := by omega
            have s8 : (0 : Int) ≤ (k : Int) + 2 := by omega
            have s9 : (k : Int) + 1 < l.length := by omega
            have s10 : (k : Int) + 2 < l.length := by omega
            have s11 : IntKind.u8.wrap (16 * p + q) = (bb.toNat : Int) := by rw [IntWalk.u8_in _ (by omega)]; omega
            go_region_law (first
              | (refine step_byte (.tmp 47) (.tmp 61) rfl rfl rfl (HO'.out.alloc _).drew rfl (Blk.new _ _ _).drew (by omega) (by rw [World.size_drew, World.size_alloc]; omega) ?_; intro v' w1 hown hbw)
              | (go_simp; (first | (go_at_call 97; (with_reducible refine (HV1.out _).mono ?_); rintro e w' ⟨rfl, rfl⟩) | (go_at_call 97; (with_reducible refine (HV2.out _).mono ?_); rintro e w' ⟨rfl, rfl⟩))))
            all_goals
              have hb2 := HB.out.trans (((Below.refl w.heap.size wr).alloc HB.out.size _).drew.trans hbw)
              clear hbw
              go_wp2_with fail
              go_roundg (l.length - (k + 3))
              case measure => have := HK.out; omega
              case rel => exact ⟨k + 3, acc ++ [bb], by omega, by go_num, by simp; omega, hown, hb2, HU2⟩
          · have HR : Hid (unquoteR l = ([], false)) := by show _ = _; rw [HF.out, HE.out, if_neg pq]; rfl
            by_cases p0 : 0 ≤ p
            · have q0 : ¬ 0 ≤ q := fun h => pq ⟨p0, h⟩
              clear pq
              go_wp2_with (first
                | (go_at_call 97; (with_reducible refine (HV1.out _).mono ?_); rintro e w' ⟨rfl, rfl⟩)
                | (go_at_call 97; (with_reducible refine (HV2.out _).mono ?_); rintro e w' ⟨rfl, rfl⟩))
              go_ret2
              exact ⟨by rw [HR.out]; rfl, HB.out.junk⟩
            · clear pq
              go_wp2_with (first
                | (go_at_call 97; (with_reducible refine (HV1.out _).mono ?_); rintro e w' ⟨rfl, rfl⟩)
                | (go_at_call 97; (with_reducible refine (HV2.out _).mono ?_); rintro e w' ⟨rfl, rfl⟩))
              go_ret2
              exact ⟨by rw [HR.out]; rfl, HB.out.junk⟩
        · have hE : unqR l = none := by
            rw [HU.out, hd, unqR_esc (by rw [h37]; exact c37)]
            have : (l.drop (k + 1)).length ≤ 1 := by simp; omega
            match l.drop (k + 1), this with
            | [], _ => rfl
            | [_], _ => rfl
            | _ :: _ :: _, h => simp at h
          have HR : Hid (unquoteR l = ([], false)) := by show _ = _; rw [HF.out, hE]; rfl
          have h3' : (l.length : Int) ≤ (k : Int) + 2 := by omega
          clear hd h37 hE h3
          go_wp2_with fail
          go_ret2
          exact ⟨by rw [HR.out]; rfl, HB.out.junk⟩
    · have hU : unqR l = some acc := by rw [HU.out, List.drop_of_length_le (by omega), unrB_nil]
      have HR : Hid (unquoteR l = if quoteF acc = l then (acc, true) else ([], false)) := by show _ = _; rw [HF.out, hU]; rfl
      have HQ : Hid (∀ W, Calls Tryz.prog 60 #[bstr acc] W fun e w' => e = .returned (bstr (quoteF acc)) ∧ ∃ j, w' = W.more j) := ref04_Quote acc (by omega)
      have ht := HO.text
      have HB := Lib.hid hb
      clear hU HU HF hb
      generalize quoteF acc = Q at HR HQ
      cases hq : (Q == l)
      · have hqn : (Q != l) = true := by rw [bne, hq]; rfl
        have HRn : Hid (unquoteR l = ([], false)) := by show _ = _; rw [HR.out, if_neg (by simpa using hq)]
        clear HR
        go_wp2_with (go_at_call 60; refine (HQ.out _).mono ?_; rintro e w' ⟨rfl, j, rfl⟩)
        go_ret2
        exact ⟨by rw [HRn.out]; rfl, (HB.out.trans ((Below.moreS (Below.refl _ _) j).mono HB.out.size)).junk⟩
      · have hqn : (Q != l) = false := by rw [bne, hq]; rfl
        have HRn : Hid (unquoteR l = (acc, true)) := by show _ = _; rw [HR.out, if_pos (by simpa using hq)]
        clear HR
        go_wp2_with (go_at_call 60; refine (HQ.out _).mono ?_; rintro e w' ⟨rfl, j, rfl⟩)
        go_ret2
        exact ⟨by rw [HRn.out]; rfl, (HB.out.trans ((Below.moreS (Below.refl _ _) j).mono HB.out.size)).junk⟩
end Go.Proofs.YtfcgdfcekpbliaaGreatDoor
/-
  Words: whole lines; two lists; the chapter's examples.
-/
namespace Go.Proofs.YtfcgdfcekpbliaaGreatDoor
set_option linter.unusedSimpArgs false
set_option linter.unusedVariables false
set_option linter.unusedSectionVars false
open Go.ChangeShapes Go.WideShapes Go.ChangeAt Go.RowKit Go.Deep Go.Shelf

set_option maxHeartbeats 4000000 in
set_option maxRecDepth 100000 in
theorem words_Lines_good (l : List UInt8) (q : List (List UInt8)) (m : Int) (w : World) (hm : l.length ≤ 1000000) (h0 : l ≠ []) (hM : w.cell? ⟨1, 0, none⟩ = some (.int .i64 m)) (hq : Lib.split l [10] = q ++ [[]]) :
    Calls Tryz.prog 28 #[bstr l] w fun e w' => e = .returned (.tuple #[.slice (some ⟨w.heap.size, 0, none⟩) q.length (q.length + 1), .bool true]) ∧ w' = w.alloc (.cells ((q ++ [[]]).map bstr).toArray 9) := by
  have hne : l.isEmpty = false := by cases l <;> simp_all
  have hne' : (!l.isEmpty) = true := by rw [hne]; rfl
  have hle := split_le l 10
  have H1 : ∀ W, W = w → Calls Tryz.prog 47 #[bstr l, bstr [10]] W fun e w' => e = .returned (.slice (some ⟨w.heap.size, 0, none⟩) (q.length + 1) (q.length + 1)) ∧ w' = w.alloc (.cells ((q ++ [[]]).map bstr).toArray 9) := fun W hW => by
    subst hW
    have h := strings_split l 10 m W (by omega) hM
    rw [hq] at h
    simpa using h
  rw [hq] at hle
  simp only [List.length_append, List.length_cons, List.length_nil] at hle
  have H1 := Lib.hid H1
  have hc : (w.alloc (.cells ((q ++ [[]]).map bstr).toArray 9)).cell? ⟨w.heap.size, q.length, none⟩ = some (bstr []) := by
    rw [(Blk.new w _ _).cell q.length]
    simp
  generalize hY : w.alloc (.cells ((q ++ [[]]).map bstr).toArray 9) = Y at H1 hc ⊢
  clear hq hM h0 hY
  generalize hn : q.length = n at *
  have hn0 : n ≤ 1000000 := by omega
  clear hn
  go_enter Tryz.func28, Tryz.ntmps28
  go_wp2_with fail
  refine (H1.out _ rfl).mono ?_
  rintro e w1 ⟨rfl, rfl⟩
  go_wp2_with fail
  go_ret2
  exact ⟨rfl, rfl⟩

def sameX (a b : List (List UInt8)) : Bool := a == b
end Go.Proofs.YtfcgdfcekpbliaaGreatDoor
/-
  Words: the chapter's examples; the law WordsQuote.
-/
namespace Go.Proofs.YtfcgdfcekpbliaaGreatDoor
set_option linter.unusedSimpArgs false
set_option linter.unusedVariables false
set_option linter.unusedSectionVars false
open Go.ChangeShapes Go.WideShapes Go.ChangeAt Go.RowKit Go.Deep Go.Shelf
end Go.Proofs.YtfcgdfcekpbliaaGreatDoor
