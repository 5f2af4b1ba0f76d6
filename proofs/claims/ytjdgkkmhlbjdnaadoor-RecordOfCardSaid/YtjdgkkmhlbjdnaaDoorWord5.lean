/-
  Words: the document's word, and back.
-/
import Derived.Test.YtjdgkkmhlbjdnaaDoorWord4
namespace Go.Proofs.YtjdgkkmhlbjdnaaDoor
set_option linter.unusedSimpArgs false
set_option linter.unusedVariables false
set_option linter.unusedSectionVars false
open Go.ChangeShapes Go.WideShapes Go.ChangeAt Go.RowKit Go.Deep Go.Shelf

theorem qu_len1 (c : UInt8) : (quB c).length ≤ 3 := by unfold quB pairB; split <;> simp
theorem qu_len (l : List UInt8) : ∀ k, ((l.take k).flatMap quB).length ≤ 3 * k := by
  induction l with
  | nil => intro k; simp
  | cons c r ih =>
    intro k
    cases k with
    | zero => simp
    | succ k =>
      rw [List.take_succ_cons, List.flatMap_cons, List.length_append]
      have := ih k
      have := qu_len1 c
      omega
theorem plB_tests (c : UInt8) : plB c = !(decide ((c.toNat : Int) < 33) || decide (126 < (c.toNat : Int)) || (c.toNat : Int) == 37) := by
  have h37 : (c == 37) = ((c.toNat : Int) == 37) := by
    rw [Bool.eq_iff_iff, beq_iff_eq, beq_iff_eq, ← UInt8.toNat_inj]
    show c.toNat = 37 ↔ _
    omega
  unfold plB
  rw [h37]
  have e1 : decide (32 < c.toNat) = !decide ((c.toNat : Int) < 33) := by rw [Bool.eq_iff_iff]; simp; omega
  have e2 : decide (c.toNat < 127) = !decide (126 < (c.toNat : Int)) := by rw [Bool.eq_iff_iff]; simp; omega
  rw [e1, e2]
  cases decide ((c.toNat : Int) < 33) <;> cases decide (126 < (c.toNat : Int)) <;> cases ((c.toNat : Int) == 37) <;> rfl

set_option maxHeartbeats 4000000 in
set_option maxRecDepth 100000 in
theorem ref04_Quote (l : List UInt8) (hm : l.length ≤ 1048576) (w : World) :
    Calls Tryd.prog 33 #[bstr l] w fun e w' => e = .returned (bstr (quoteF l)) ∧ ∃ j, w' = w.more j := by
  by_cases h0 : l = []
  · subst h0
    go_enter Tryd.func33, Tryd.ntmps33
    go_wp2_with fail
    go_ret
    exact ⟨rfl, Below.junk (by repeat (first | (with_reducible exact Below.refl _ _) | (with_reducible refine Below.allocS ?_ _) | (with_reducible refine Below.moreS ?_ _) | (with_reducible refine Below.drew ?_) | (with_reducible refine below_drewN ?_ _)))⟩
  have hne : l.isEmpty = false := by cases l <;> simp_all
  have hne' : (!l.isEmpty) = true := by rw [hne]; rfl
  have HF : Hid (quoteF l = l.flatMap quB) := by show quoteF l = _; rw [quoteF, if_neg h0]
  clear h0
  go_enter Tryd.func33, Tryd.ntmps33
  go_wp2_with fail
  go_loopg [3, 4] l.length (fun g s i wr => ∃ (k : Nat) (acc : List UInt8), k + g = l.length ∧ i = .int .i64 k ∧ s = bstr acc ∧ acc.length ≤ 3 * k ∧ Hid (acc = (l.take k).flatMap quB) ∧ ∃ j, wr = w.more j)
  case atStart => exact ⟨0, [], by omega, rfl, rfl, by simp, by show _ = _; simp, Below.junk (by repeat (first | (with_reducible exact Below.refl _ _) | (with_reducible refine Below.allocS ?_ _) | (with_reducible refine Below.moreS ?_ _) | (with_reducible refine Below.drew ?_) | (with_reducible refine below_drewN ?_ _)))⟩
  case round =>
    obtain ⟨k, acc, hkg, rfl, rfl, hlen, HA, jr, rfl⟩ := hrel
    by_cases hlt : k < l.length
    · have HK := Lib.hid hkg
      clear hkg
      have HS : Hid ((l.take (k + 1)).flatMap quB = acc ++ quB l[k]) := by show _ = _; rw [HA.out, List.take_succ_eq_append_getElem hlt, List.flatMap_append]; simp
      have hpt := plB_tests l[k]
      have HPr : Hid (∀ W, Calls Tryd.prog 82 #[.int .u8 (l[k].toNat : Int)] W fun e w' => e = .returned (bstr (pairB l[k])) ∧ ∃ j, w' = W.more j) := ref04_pair l[k]
      have hpl : (pairB l[k]).length = 2 := by simp [pairB]
      have hpl2 := Nat.le_of_eq hpl
      clear hpl
      cases hp : plB l[k] with
      | true =>
        have HS2 : Hid ((l.take (k + 1)).flatMap quB = acc ++ [l[k]]) := by show _ = _; rw [HS.out, quB, if_pos hp]
        have hcut : (l.drop k).take 1 = [l[k]] := by rw [List.drop_eq_getElem_cons hlt]; rfl
        have HC := Lib.hid hcut
        rw [hp] at hpt
        simp only [Bool.true_eq, Bool.not_eq_true', Bool.or_eq_false_iff, decide_eq_false_iff_not] at hpt
        obtain ⟨⟨t1, t2⟩, t3⟩ := hpt
        clear HS HPr hpl2 hcut
        go_wp2_with fail
        go_roundg (l.length - (k + 1))
        case measure => have := HK.out; omega
        case rel => exact ⟨k + 1, acc ++ [l[k]], by omega, by go_num, by rw [HC.out], by simp; omega, HS2.out.symm, Below.junk (by repeat (first | (with_reducible exact Below.refl _ _) | (with_reducible refine Below.allocS ?_ _) | (with_reducible refine Below.moreS ?_ _) | (with_reducible refine Below.drew ?_) | (with_reducible refine below_drewN ?_ _)))⟩
      | false =>
        have HS2 : Hid ((l.take (k + 1)).flatMap quB = acc ++ [37] ++ pairB l[k]) := by show _ = _; rw [HS.out, quB, if_neg (by rw [hp]; simp)]; simp
        rw [hp] at hpt
        by_cases t1 : (l[k].toNat : Int) < 33 <;> by_cases t2 : 126 < (l[k].toNat : Int)
        all_goals
          have hpt2 : (decide ((l[k].toNat : Int) < 33) || decide (126 < (l[k].toNat : Int)) || (l[k].toNat : Int) == 37) = true := by revert hpt; cases (decide ((l[k].toNat : Int) < 33) || decide (126 < (l[k].toNat : Int)) || (l[k].toNat : Int) == 37) <;> simp
          have HPT := Lib.hid hpt2
          clear hpt hpt2 HS
        all_goals try (exfalso; omega)
        all_goals
          cases t3 : ((l[k].toNat : Int) == 37)
          all_goals
            first
              | (exfalso; have := HPT.out; simp [t1, t2, t3] at this; done)
              | (go_wp2_with (go_at_call 82; refine (HPr.out _).mono ?_; rintro e w' ⟨rfl, j, rfl⟩)
                 go_roundg (l.length - (k + 1))
                 case measure => have := HK.out; omega
                 case rel => exact ⟨k + 1, acc ++ [37] ++ pairB l[k], by omega, by go_num, by simp, by simp; omega, HS2.out.symm, Below.junk (by repeat (first | (with_reducible exact Below.refl _ _) | (with_reducible refine Below.allocS ?_ _) | (with_reducible refine Below.moreS ?_ _) | (with_reducible refine Below.drew ?_) | (with_reducible refine below_drewN ?_ _)))⟩)
    · go_wp2_with fail
      go_ret
      refine ⟨ret1d ?_, Below.junk (by repeat (first | (with_reducible exact Below.refl _ _) | (with_reducible refine Below.allocS ?_ _) | (with_reducible refine Below.moreS ?_ _) | (with_reducible refine Below.drew ?_) | (with_reducible refine below_drewN ?_ _)))⟩
      rw [HF.out]
      have : acc = l.flatMap quB := by rw [HA.out, List.take_of_length_le (by omega)]
      rw [← this]; rfl

theorem unqR_esc {c : UInt8} {r : List UInt8} (h : (c == 37) = true) : unqR (c :: r) = match r with
    | a :: b :: r' => if 0 ≤ hexI a ∧ 0 ≤ hexI b then (unqR r').map (byteOf a b :: ·) else none
    | _ => none := by
  match r with
  | [] => simp only [unqR, h]; rfl
  | [d] => simp only [unqR, h]; rfl
  | a :: b :: r' => simp only [unqR, h]; rfl
def unrE (w : List UInt8) : Option (List UInt8) → List UInt8 × Bool
  | some o => if quoteF o = w then (o, true) else ([], false)
  | none => ([], false)
def unrB (acc : List UInt8) (x : Option (List UInt8)) : Option (List UInt8) := x.map (acc ++ ·)
theorem unrB_nil (acc : List UInt8) : unrB acc (unqR []) = some acc := by simp [unrB, unqR]
theorem unrB_map (acc : List UInt8) (c : UInt8) (x : Option (List UInt8)) : unrB acc (x.map (c :: ·)) = unrB (acc ++ [c]) x := by cases x <;> simp [unrB]
theorem byte_sum {p q : Int} {b : UInt8} (p0 : 0 ≤ p) (p1 : p ≤ 15) (q0 : 0 ≤ q) (q1 : q ≤ 15) (h : b.toNat = 16 * p.toNat + q.toNat) : (16 * p + q) % 256 = (b.toNat : Int) := by omega
