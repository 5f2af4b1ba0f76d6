/-
  Parts of the proof, one behind the other: contracts of the program and plain laws; no condition of their own.
-/
import Derived.Test.YtbdmepidabnfkaaGreatDoorMa
import Derived.Test.YtbdmepidabnfkaaGreatDoorMb
import Derived.Deep.LoopGhost
import Derived.BigGuardPart
import Derived.StillTailTactics
/-
  Words: lines of words; parts.
-/
namespace Go.Proofs.YtbdmepidabnfkaaGreatDoor
set_option linter.unusedSimpArgs false
set_option linter.unusedVariables false
set_option linter.unusedSectionVars false
open Go.ChangeShapes Go.WideShapes Go.ChangeAt Go.RowKit Go.Deep Go.Shelf

theorem index_in (s : List UInt8) (c : UInt8) (w : World) : Calls Tryz.prog 100 #[bstr s, .int .u8 (c.toNat : Int)] w fun e w' => e = .returned (.int .i64 (Lib.indexByte s c)) ∧ w = w' :=
  (Tryz.strings_IndexByte ⟨s.toArray⟩ c.toNat w).mono fun e w' ⟨he, hw⟩ => ⟨by rw [he]; simp, hw.symm⟩

set_option maxHeartbeats 4000000 in
set_option maxRecDepth 100000 in
/-- A line of words one of which is none. -/
theorem words_Line_bad (a : Option Addr) (cap : Nat) (l : List (List UInt8)) (w0 w : World) (hm : l.length ≤ 1048576) (hb : Below w0.heap.size w0 w) (hs0 : SlX w0 w0.heap.size a l) (hbad : l.all okW = false) :
    Calls Tryz.prog 62 #[.slice a l.length cap] w fun e w' => e = .returned (.tuple #[bstr [], .bool false]) ∧ w = w' := by
  have hs := hs0.below hb (Nat.le_refl _)
  have hz := hb.size
  clear hs0 hb
  have HA : Hid ((l.drop 0).all okW = false) := hbad
  clear hbad
  go_enter Tryz.func62, Tryz.ntmps62
  go_wp2_with fail
  go_loop [8] (fun i => ∃ k : Nat, k ≤ l.length ∧ i = .int .i64 k ∧ Hid ((l.drop k).all okW = false)) (fun i => l.length - (intOf i).toNat)
  case atStart => exact ⟨0, by omega, rfl, HA⟩
  case round =>
    clear HA
    obtain ⟨k, hk, rfl, HA⟩ := hrel
    by_cases hlt : k < l.length
    · obtain ⟨b, off, rfl, hb, c0, hl0⟩ := hs.atX hlt
      have hd : (l.drop k).all okW = (okW l[k] && (l.drop (k + 1)).all okW) := by rw [List.drop_eq_getElem_cons hlt]; rfl
      have HI1 : Hid (∀ W, Calls Tryz.prog 100 #[bstr l[k], .int .u8 32] W fun e w' => e = .returned (.int .i64 (Lib.indexByte l[k] 32)) ∧ W = w') := fun W => index_in l[k] 32 W
      have HI2 : Hid (∀ W, Calls Tryz.prog 100 #[bstr l[k], .int .u8 10] W fun e w' => e = .returned (.int .i64 (Lib.indexByte l[k] 10)) ∧ W = w') := fun W => index_in l[k] 10 W
      have HD : Hid ((okW l[k] && (l.drop (k + 1)).all okW) = false) := hd.symm.trans HA.out
      have HO : Hid (okW l[k] = (!l[k].isEmpty && !decide (0 ≤ Lib.indexByte l[k] 32) && !decide (0 ≤ Lib.indexByte l[k] 10))) := rfl
      generalize okW l[k] = ok at HD HO
      generalize Lib.indexByte l[k] 32 = i1 at HI1 HO
      generalize Lib.indexByte l[k] 10 = i2 at HI2 HO
      generalize l[k] = x at c0 hl0 HI1 HI2 HO
      have HN : Hid (x.isEmpty = false → i1 < 0 → i2 < 0 → (l.drop (k + 1)).all okW = false) := fun h1 h2 h3 => by
        have h := HD.out
        rw [HO.out, h1] at h
        have e1 : decide (0 ≤ i1) = false := by simp; omega
        have e2 : decide (0 ≤ i2) = false := by simp; omega
        rw [e1, e2] at h
        simpa using h
      clear hd HA HD HO
      cases he : x.isEmpty <;> by_cases h1 : 0 ≤ i1 <;> by_cases h2 : 0 ≤ i2
      all_goals
        have hne : (!x.isEmpty) = !x.isEmpty := rfl
        have hxe : (x == []) = x.isEmpty := by cases x <;> rfl
        rw [he] at hxe
        go_wp2_with (first
          | (go_at_call 100; (with_reducible refine (HI1.out _).mono ?_); rintro e w' ⟨rfl, rfl⟩)
          | (go_at_call 100; (with_reducible refine (HI2.out _).mono ?_); rintro e w' ⟨rfl, rfl⟩))
      all_goals first
        | (exfalso; omega)
        | (go_ret2
           exact ⟨rfl, rfl⟩)
        | (go_round
           case rel => exact ⟨k + 1, hlt, by go_num, HN.out he (by omega) (by omega)⟩
           case measure => simp [intOf]; omega)
    · exfalso
      have := HA.out
      rw [List.drop_of_length_le (by omega)] at this
      simp at this

set_option maxHeartbeats 4000000 in
set_option maxRecDepth 100000 in
theorem words_Split_bad (l : List UInt8) (m : Int) (w : World) (hm : l.length ≤ 1000000) (h0 : l ≠ []) (hM : w.cell? ⟨2, 0, none⟩ = some (.int .i64 m)) (hbad : (Lib.split l [32]).all okW = false) :
    Calls Tryz.prog 80 #[bstr l] w fun e w' => e = .returned (.tuple #[.slice none 0 0, .bool false]) ∧ ∃ j, w' = w.more j := by
  have hne : l.isEmpty = false := by cases l <;> simp_all
  have hne' : (!l.isEmpty) = true := by rw [hne]; rfl
  have H1 := Lib.hid (strings_split l 32 m w (by omega) hM)
  have H2 := Lib.hid (words_Line_bad (some ⟨w.heap.size, 0, none⟩) (Lib.split l [32]).length (Lib.split l [32]) (w.alloc (.cells ((Lib.split l [32]).map bstr).toArray 9)) (w.alloc (.cells ((Lib.split l [32]).map bstr).toArray 9)) (by have := split_le l 32; omega) (Below.refl _ _) (by rw [World.size_alloc]; exact split_slX l 32 w (by omega)) hbad)
  clear hbad hM h0
  generalize Lib.split l [32] = p at H1 H2
  go_enter Tryz.func80, Tryz.ntmps80
  go_wp2_with fail
  refine H1.out.mono ?_
  rintro e w1 ⟨rfl, rfl⟩
  go_wp2_with fail
  refine H2.out.mono ?_
  rintro e w1 ⟨rfl, rfl⟩
  go_wp2_with fail
  go_ret2
  exact ⟨rfl, Below.junk (by repeat (first | (with_reducible exact Below.refl _ _) | (with_reducible refine Below.allocS ?_ _) | (with_reducible refine Below.moreS ?_ _) | (with_reducible refine Below.drew ?_) | (with_reducible refine below_drewN ?_ _)))⟩
end Go.Proofs.YtbdmepidabnfkaaGreatDoor
/-
  Words: a text's word, the program's.
-/
namespace Go.Proofs.YtbdmepidabnfkaaGreatDoor
set_option linter.unusedSimpArgs false
set_option linter.unusedVariables false
set_option linter.unusedSectionVars false
open Go.ChangeShapes Go.WideShapes Go.ChangeAt Go.RowKit Go.Deep Go.Shelf

theorem pairB_get (c : UInt8) : pairB c = [hexD[c.toNat / 16]'(by have := c.toNat_lt; show _ < 16; omega), hexD[c.toNat % 16]'(by show _ < 16; omega)] := by
  have := c.toNat_lt
  unfold pairB
  simp only [List.getD_eq_getElem?_getD, List.getElem?_eq_getElem (show c.toNat / 16 < hexD.length by show _ < 16; omega), List.getElem?_eq_getElem (show c.toNat % 16 < hexD.length by show _ < 16; omega), Option.getD_some]
theorem quB_len1 (c : UInt8) : (quB c).length ≤ 3 := by unfold quB pairB; split <;> simp
theorem quB_len (l : List UInt8) : ∀ k, ((l.take k).flatMap quB).length ≤ 3 * k := by
  induction l with
  | nil => intro k; simp
  | cons c r ih =>
    intro k
    cases k with
    | zero => simp
    | succ k =>
      rw [List.take_succ_cons, List.flatMap_cons, List.length_append]
      have := ih k
      have := quB_len1 c
      omega
end Go.Proofs.YtbdmepidabnfkaaGreatDoor
/-
  Words: two digits; back from a word, the program's.
-/
namespace Go.Proofs.YtbdmepidabnfkaaGreatDoor
set_option linter.unusedSimpArgs false
set_option linter.unusedVariables false
set_option linter.unusedSectionVars false
open Go.ChangeShapes Go.WideShapes Go.ChangeAt Go.RowKit Go.Deep Go.Shelf

theorem toUInt8_back (c : UInt8) : ((c.toNat : Int).toNat).toUInt8 = c := by simp
theorem hex_index (c : UInt8) (w : World) : Calls Tryz.prog 100 #[bstr hexD, .int .u8 (c.toNat : Int)] w fun e w' => e = .returned (.int .i64 (hexI c)) ∧ w = w' :=
  (Tryz.strings_IndexByte ⟨hexD.toArray⟩ c.toNat w).mono fun e w' ⟨he, hw⟩ => ⟨by rw [he, toUInt8_back]; rfl, hw.symm⟩
theorem or_hex {p q : Int} (p0 : 0 ≤ p) (p1 : p ≤ 15) (q0 : 0 ≤ q) (q1 : q ≤ 15) : bits .or .i64 (p * 16) q % 256 = 16 * p + q := by
  have h : ∀ a b : Fin 16, bits .or .i64 ((a.val : Int) * 16) (b.val : Int) % 256 = 16 * (a.val : Int) + (b.val : Int) := by decide +kernel
  obtain ⟨a, rfl⟩ : ∃ a : Nat, p = a := ⟨p.toNat, by omega⟩
  obtain ⟨b, rfl⟩ : ∃ b : Nat, q = b := ⟨q.toNat, by omega⟩
  exact h ⟨a, by omega⟩ ⟨b, by omega⟩
def twoF : List UInt8 → UInt8 × Bool
  | h :: l :: _ => if 0 ≤ hexI h ∧ 0 ≤ hexI l then (byteOf h l, true) else (0, false)
  | _ => (0, false)
end Go.Proofs.YtbdmepidabnfkaaGreatDoor
/-
  Words: back from a word, the program's.
-/
namespace Go.Proofs.YtbdmepidabnfkaaGreatDoor
set_option linter.unusedSimpArgs false
set_option linter.unusedVariables false
set_option linter.unusedSectionVars false
open Go.ChangeShapes Go.WideShapes Go.ChangeAt Go.RowKit Go.Deep Go.Shelf

theorem unqP_esc {c : UInt8} {r : List UInt8} (h : plB c = false) : unqP (c :: r) = if (c == 37) = true ∧ (twoF r).2 = true ∧ plB (twoF r).1 = false then (unqP (r.drop 2)).map ((twoF r).1 :: ·) else none := by
  match r with
  | [] => simp [unqP, h, twoF]
  | [d] => simp [unqP, h, twoF]
  | a :: b :: r =>
    by_cases hg : 0 ≤ hexI a ∧ 0 ≤ hexI b
    · have e : twoF (a :: b :: r) = (byteOf a b, true) := if_pos hg
      simp only [unqP, h, e]
      simp [hg]
    · have e : twoF (a :: b :: r) = (0, false) := if_neg hg
      have hn : ¬ ((c == 37) = true ∧ 0 ≤ hexI a ∧ 0 ≤ hexI b ∧ plB (byteOf a b) = false) := fun ⟨_, h1, h2, _⟩ => hg ⟨h1, h2⟩
      simp only [unqP, h, e, Bool.false_eq_true, if_false, false_and, and_false, if_neg hn]
theorem twoF_len {r : List UInt8} (h : (twoF r).2 = true) : 2 ≤ r.length := by
  match r, h with
  | [], h => simp [twoF] at h
  | [_], h => simp [twoF] at h
  | _ :: _ :: _, _ => simp
def unqE : Option (List UInt8) → List UInt8 × Bool
  | some o => (o, !o.isEmpty)
  | none => ([], false)
def unqB (acc : List UInt8) (x : Option (List UInt8)) : Option (List UInt8) := x.map (acc ++ ·)
theorem unqB_nil (acc : List UInt8) : unqB acc (unqP []) = some acc := by simp [unqB, unqP]
theorem unqB_map (acc : List UInt8) (c : UInt8) (x : Option (List UInt8)) : unqB acc (x.map (c :: ·)) = unqB (acc ++ [c]) x := by cases x <;> simp [unqB]
end Go.Proofs.YtbdmepidabnfkaaGreatDoor
/-
  Words: the document's digits, word, and back.
-/
namespace Go.Proofs.YtbdmepidabnfkaaGreatDoor
set_option linter.unusedSimpArgs false
set_option linter.unusedVariables false
set_option linter.unusedSectionVars false
open Go.ChangeShapes Go.WideShapes Go.ChangeAt Go.RowKit Go.Deep Go.Shelf

theorem hex_cut {n : Nat} (h : n < 16) : (hexD.drop n).take 1 = [hexD.getD n 0] := by
  have : ∀ m : Fin 16, (hexD.drop m.val).take 1 = [hexD.getD m.val 0] := by decide
  exact this ⟨n, h⟩
def fndFrom : List UInt8 → UInt8 → Nat → Int
  | [], _, _ => -1
  | b :: l, c, k => if (b == c) = true then (k : Int) else fndFrom l c (k + 1)
theorem fnd_index : ∀ (l : List UInt8) (c : UInt8) (k : Nat), fndFrom l c k = if Lib.indexByte l c = -1 then -1 else Lib.indexByte l c + k
  | [], _, _ => rfl
  | b :: l, c, k => by
    have ih := fnd_index l c (k + 1)
    have hge := Lib.indexByte_ge l c
    unfold fndFrom Lib.indexByte
    cases h : (b == c)
    · simp only [Bool.false_eq_true, if_false]
      rw [ih]
      by_cases h1 : Lib.indexByte l c = -1
      · simp [h1]
      · have h1' : (Lib.indexByte l c == -1) = false := by simpa using h1
        rw [if_neg h1]
        simp only [h1', Bool.false_eq_true, if_false]
        rw [if_neg (by omega)]
        omega
    · simp
theorem hexI_fnd (c : UInt8) : hexI c = fndFrom hexD c 0 := by
  have := fnd_index hexD c 0
  have hge := Lib.indexByte_ge hexD c
  unfold hexI
  rw [this]
  split <;> omega
end Go.Proofs.YtbdmepidabnfkaaGreatDoor
/-
  Words: the document's word, and back.
-/
namespace Go.Proofs.YtbdmepidabnfkaaGreatDoor
set_option linter.unusedSimpArgs false
set_option linter.unusedVariables false
set_option linter.unusedSectionVars false
open Go.ChangeShapes Go.WideShapes Go.ChangeAt Go.RowKit Go.Deep Go.Shelf

theorem qu_len1 (c : UInt8) : (quB c).length ≤ 3 := by unfold quB pairB; split <;> simp
theorem qu_len (l : List UInt8) : ∀ k, ((l.take k).flatMap quB).length ≤ 3 * k := by
  induction l with
  | nil => intro k; simp
  | cons c r ih =>
    intro k
    cases k with
    | zero => simp
    | succ k =>
      rw [List.take_succ_cons, List.flatMap_cons, List.length_append]
      have := ih k
      have := qu_len1 c
      omega
theorem plB_tests (c : UInt8) : plB c = !(decide ((c.toNat : Int) < 33) || decide (126 < (c.toNat : Int)) || (c.toNat : Int) == 37) := by
  have h37 : (c == 37) = ((c.toNat : Int) == 37) := by
    rw [Bool.eq_iff_iff, beq_iff_eq, beq_iff_eq, ← UInt8.toNat_inj]
    show c.toNat = 37 ↔ _
    omega
  unfold plB
  rw [h37]
  have e1 : decide (32 < c.toNat) = !decide ((c.toNat : Int) < 33) := by rw [Bool.eq_iff_iff]; simp; omega
  have e2 : decide (c.toNat < 127) = !decide (126 < (c.toNat : Int)) := by rw [Bool.eq_iff_iff]; simp; omega
  rw [e1, e2]
  cases decide ((c.toNat : Int) < 33) <;> cases decide (126 < (c.toNat : Int)) <;> cases ((c.toNat : Int) == 37) <;> rfl

theorem unqR_esc {c : UInt8} {r : List UInt8} (h : (c == 37) = true) : unqR (c :: r) = match r with
    | a :: b :: r' => if 0 ≤ hexI a ∧ 0 ≤ hexI b then (unqR r').map (byteOf a b :: ·) else none
    | _ => none := by
  match r with
  | [] => simp only [unqR, h]; rfl
  | [d] => simp only [unqR, h]; rfl
  | a :: b :: r' => simp only [unqR, h]; rfl
def unrE (w : List UInt8) : Option (List UInt8) → List UInt8 × Bool
  | some o => if quoteF o = w then (o, true) else ([], false)
  | none => ([], false)
def unrB (acc : List UInt8) (x : Option (List UInt8)) : Option (List UInt8) := x.map (acc ++ ·)
theorem unrB_nil (acc : List UInt8) : unrB acc (unqR []) = some acc := by simp [unrB, unqR]
theorem unrB_map (acc : List UInt8) (c : UInt8) (x : Option (List UInt8)) : unrB acc (x.map (c :: ·)) = unrB (acc ++ [c]) x := by cases x <;> simp [unrB]
theorem byte_sum {p q : Int} {b : UInt8} (p0 : 0 ≤ p) (p1 : p ≤ 15) (q0 : 0 ≤ q) (q1 : q ≤ 15) (h : b.toNat = 16 * p.toNat + q.toNat) : (16 * p + q) % 256 = (b.toNat : Int) := by omega
end Go.Proofs.YtbdmepidabnfkaaGreatDoor
/-
  Words: back from a word, the document's.
-/
namespace Go.Proofs.YtbdmepidabnfkaaGreatDoor
set_option linter.unusedSimpArgs false
set_option linter.unusedVariables false
set_option linter.unusedSectionVars false
open Go.ChangeShapes Go.WideShapes Go.ChangeAt Go.RowKit Go.Deep Go.Shelf
end Go.Proofs.YtbdmepidabnfkaaGreatDoor
/-
  Words: whole lines; two lists; the chapter's examples.
-/
namespace Go.Proofs.YtbdmepidabnfkaaGreatDoor
set_option linter.unusedSimpArgs false
set_option linter.unusedVariables false
set_option linter.unusedSectionVars false
open Go.ChangeShapes Go.WideShapes Go.ChangeAt Go.RowKit Go.Deep Go.Shelf

set_option maxHeartbeats 4000000 in
set_option maxRecDepth 100000 in
theorem words_Lines_good (l : List UInt8) (q : List (List UInt8)) (m : Int) (w : World) (hm : l.length ≤ 1000000) (h0 : l ≠ []) (hM : w.cell? ⟨2, 0, none⟩ = some (.int .i64 m)) (hq : Lib.split l [10] = q ++ [[]]) :
    Calls Tryz.prog 38 #[bstr l] w fun e w' => e = .returned (.tuple #[.slice (some ⟨w.heap.size, 0, none⟩) q.length (q.length + 1), .bool true]) ∧ w' = w.alloc (.cells ((q ++ [[]]).map bstr).toArray 9) := by
  have hne : l.isEmpty = false := by cases l <;> simp_all
  have hne' : (!l.isEmpty) = true := by rw [hne]; rfl
  have hle := split_le l 10
  have H1 : ∀ W, W = w → Calls Tryz.prog 79 #[bstr l, bstr [10]] W fun e w' => e = .returned (.slice (some ⟨w.heap.size, 0, none⟩) (q.length + 1) (q.length + 1)) ∧ w' = w.alloc (.cells ((q ++ [[]]).map bstr).toArray 9) := fun W hW => by
    subst hW
    have h := strings_split l 10 m W (by omega) hM
    rw [hq] at h
    simpa using h
  rw [hq] at hle
  simp only [List.length_append, List.length_cons, List.length_nil] at hle
  have H1 := Lib.hid H1
  have hc : (w.alloc (.cells ((q ++ [[]]).map bstr).toArray 9)).cell? ⟨w.heap.size, q.length, none⟩ = some (bstr []) := by
    rw [(Blk.new w _ _).cell q.length]
    simp
  generalize hY : w.alloc (.cells ((q ++ [[]]).map bstr).toArray 9) = Y at H1 hc ⊢
  clear hq hM h0 hY
  generalize hn : q.length = n at *
  have hn0 : n ≤ 1000000 := by omega
  clear hn
  go_enter Tryz.func38, Tryz.ntmps38
  go_wp2_with fail
  refine (H1.out _ rfl).mono ?_
  rintro e w1 ⟨rfl, rfl⟩
  go_wp2_with fail
  go_ret2
  exact ⟨rfl, rfl⟩

def sameX (a b : List (List UInt8)) : Bool := a == b
end Go.Proofs.YtbdmepidabnfkaaGreatDoor
/-
  Words: the chapter's examples; the law WordsQuote.
-/
namespace Go.Proofs.YtbdmepidabnfkaaGreatDoor
set_option linter.unusedSimpArgs false
set_option linter.unusedVariables false
set_option linter.unusedSectionVars false
open Go.ChangeShapes Go.WideShapes Go.ChangeAt Go.RowKit Go.Deep Go.Shelf
end Go.Proofs.YtbdmepidabnfkaaGreatDoor
