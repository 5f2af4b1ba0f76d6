/-
  Words: a text's word, the program's.
-/
import Derived.Test.YtjdgkkmhlbjdnaaDoorBld
import Derived.Test.YtjdgkkmhlbjdnaaDoorWordP
import Derived.Test.YtjdgkkmhlbjdnaaDoorMore
import Derived.Deep.LoopGhost
import Derived.BigGuardPart
namespace Go.Proofs.YtjdgkkmhlbjdnaaDoor
set_option linter.unusedSimpArgs false
set_option linter.unusedVariables false
set_option linter.unusedSectionVars false
open Go.ChangeShapes Go.WideShapes Go.ChangeAt Go.RowKit Go.Deep Go.Shelf

set_option maxRecDepth 100000 in
theorem words_plain (c : UInt8) (w : World) :
    Calls Tryd.prog 77 #[.int .u8 (c.toNat : Int)] w fun e w' => e = .returned (.bool (plB c)) ∧ w = w' := by
  have h37 : (c == 37) = ((c.toNat : Int) == 37) := by
    rw [Bool.eq_iff_iff, beq_iff_eq, beq_iff_eq, ← UInt8.toNat_inj]
    show c.toNat = 37 ↔ _
    omega
  have HP : Hid (plB c = (decide (32 < c.toNat) && decide (c.toNat < 127) && !((c.toNat : Int) == 37))) := by show plB c = _; rw [plB, h37]
  generalize plB c = p at HP ⊢
  have hb := c.toNat_lt
  generalize c.toNat = n at HP hb ⊢
  by_cases t1 : 32 < n <;> by_cases t2 : n < 127 <;> cases t3 : ((n : Int) == 37)
  all_goals
    go_enter Tryd.func77, Tryd.ntmps77
    go_wp2_with fail
    all_goals first
      | (exfalso; omega)
      | (go_ret
         exact ⟨ret1d (by rw [HP.out, t3]; first | (simp [t1, t2]; done) | (simp [t1, t2]; simpa using t3)), rfl⟩)

theorem pairB_get (c : UInt8) : pairB c = [hexD[c.toNat / 16]'(by have := c.toNat_lt; show _ < 16; omega), hexD[c.toNat % 16]'(by show _ < 16; omega)] := by
  have := c.toNat_lt
  unfold pairB
  simp only [List.getD_eq_getElem?_getD, List.getElem?_eq_getElem (show c.toNat / 16 < hexD.length by show _ < 16; omega), List.getElem?_eq_getElem (show c.toNat % 16 < hexD.length by show _ < 16; omega), Option.getD_some]
theorem quB_len1 (c : UInt8) : (quB c).length ≤ 3 := by unfold quB pairB; split <;> simp
theorem quB_len (l : List UInt8) : ∀ k, ((l.take k).flatMap quB).length ≤ 3 * k := by
  induction l with
  | nil => intro k; simp
  | cons c r ih =>
    intro k
    cases k with
    | zero => simp
    | succ k =>
      rw [List.take_succ_cons, List.flatMap_cons, List.length_append]
      have := ih k
      have := quB_len1 c
      omega

set_option maxHeartbeats 2000000 in
set_option maxRecDepth 100000 in
theorem words_Quote (l : List UInt8) (hm : l.length ≤ 1048576) (w : World) :
    Calls Tryd.prog 30 #[bstr l] w fun e w' => e = .returned (bstr (quoteF l)) ∧ ∃ j, w' = w.more j := by
  by_cases h0 : l = []
  · subst h0
    go_enter Tryd.func30, Tryd.ntmps30
    go_wp2_with fail
    go_ret
    exact ⟨rfl, Below.junk (by repeat (first | (with_reducible exact Below.refl _ _) | (with_reducible refine Below.allocS ?_ _) | (with_reducible refine Below.moreS ?_ _) | (with_reducible refine Below.drew ?_) | (with_reducible refine below_drewN ?_ _)))⟩
  have hne : l.isEmpty = false := by cases l <;> simp_all
  have hne' : (!l.isEmpty) = true := by rw [hne]; rfl
  have HF : Hid (quoteF l = l.flatMap quB) := by show quoteF l = _; rw [quoteF, if_neg h0]
  clear h0
  go_enter Tryd.func30, Tryd.ntmps30
  go_wp2_with fail
  go_loopg [9] l.length (fun g i wr => ∃ k : Nat, k + g = l.length ∧ i = .int .i64 k ∧ Below w.heap.size w wr ∧ Lib.IsBuilder BT BytT w.heap.size w.heap.size (Lib.byteCells ((l.take k).flatMap quB)) wr)
  case atStart => exact ⟨0, by omega, rfl, (Below.refl _ _).alloc (Nat.le_refl _) _, Lib.fresh_isBuilder BT BytT w⟩
  case round =>
    obtain ⟨k, hkg, rfl, hb, HB⟩ := hrel
    by_cases hlt : k < l.length
    · have hc := l[k].toNat_lt
      have HK := Lib.hid hkg
      clear hkg
      have hlen : ((l.take k).flatMap quB).length ≤ 3 * k := quB_len l k
      have hst : (l.take (k + 1)).flatMap quB = (l.take k).flatMap quB ++ quB l[k] := by rw [List.take_succ_eq_append_getElem hlt, List.flatMap_append]; simp
      cases hp : plB l[k] with
      | true =>
        have HP := Lib.hid hp
        clear hp
        have HS : Hid ((l.take (k + 1)).flatMap quB = (l.take k).flatMap quB ++ [l[k]]) := by show _ = _; rw [hst, quB, if_pos HP.out]
        clear hst
        go_wp2_with (go_at_call 77; refine (words_plain l[k] _).mono ?_; rintro e w' ⟨rfl, rfl⟩; rw [HP.out])
        refine (writeB w.heap.size w.heap.size _ l[k] wr HB (by omega) hb.size).mono ?_
        rintro e w2 ⟨rfl, HB2, hb2⟩
        rw [← HS.out] at HB2
        go_wp2_with fail
        go_roundg (l.length - (k + 1))
        case measure => have := HK.out; omega
        case rel => exact ⟨k + 1, by omega, by go_num, hb.trans (hb2.mono (Nat.le_refl _)), HB2⟩
      | false =>
        have HP := Lib.hid hp
        clear hp
        have HS : Hid ((l.take (k + 1)).flatMap quB = (((l.take k).flatMap quB ++ [37]) ++ [hexD[l[k].toNat / 16]'(by show _ < 16; omega)]) ++ [hexD[l[k].toNat % 16]'(by show _ < 16; omega)]) := by show _ = _; rw [hst, quB, if_neg (by rw [HP.out]; simp), pairB_get]; simp
        clear hst
        go_wp2_with (go_at_call 77; refine (words_plain l[k] _).mono ?_; rintro e w' ⟨rfl, rfl⟩; rw [HP.out])
        refine (writeB w.heap.size w.heap.size _ 37 wr HB (by omega) hb.size).mono ?_
        rintro e w2 ⟨rfl, HB2, hb2⟩
        go_wp2_with fail
        refine (writeB w.heap.size w.heap.size _ _ w2 HB2 (by simp only [List.length_append, List.length_cons, List.length_nil]; omega) (by have := hb.size; have := hb2.size; omega)).mono ?_
        rintro e w3 ⟨rfl, HB3, hb3⟩
        go_wp2_with fail
        refine (writeB w.heap.size w.heap.size _ _ w3 HB3 (by simp only [List.length_append, List.length_cons, List.length_nil]; omega) (by have := hb.size; have := hb2.size; have := hb3.size; omega)).mono ?_
        rintro e w4 ⟨rfl, HB4, hb4⟩
        have HB5 : Lib.IsBuilder BT BytT w.heap.size w.heap.size (Lib.byteCells ((l.take (k + 1)).flatMap quB)) w4 := by rw [HS.out]; exact HB4
        go_wp2_with fail
        go_roundg (l.length - (k + 1))
        case measure => have := HK.out; omega
        case rel => exact ⟨k + 1, by omega, by go_num, ((hb.trans hb2).trans hb3).trans hb4, HB5⟩
    · go_wp2_with fail
      have hk : l.take k = l := List.take_of_length_le (by omega)
      rw [hk] at HB
      refine (Tryd.Builder_String_any w.heap.size w.heap.size _ wr HB hb.size).mono ?_
      rintro e w2 ⟨rfl, hb2⟩
      go_wp2_with fail
      go_ret
      exact ⟨by rw [HF.out]; rfl, (hb.trans hb2).junk⟩
