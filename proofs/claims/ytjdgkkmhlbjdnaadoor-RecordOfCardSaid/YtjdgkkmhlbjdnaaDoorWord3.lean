/-
  Words: back from a word, the program's.
-/
import Derived.Test.YtjdgkkmhlbjdnaaDoorWord2
import Derived.Test.YtjdgkkmhlbjdnaaDoorByt
namespace Go.Proofs.YtjdgkkmhlbjdnaaDoor
set_option linter.unusedSimpArgs false
set_option linter.unusedVariables false
set_option linter.unusedSectionVars false
open Go.ChangeShapes Go.WideShapes Go.ChangeAt Go.RowKit Go.Deep Go.Shelf

theorem unqP_esc {c : UInt8} {r : List UInt8} (h : plB c = false) : unqP (c :: r) = if (c == 37) = true ∧ (twoF r).2 = true ∧ plB (twoF r).1 = false then (unqP (r.drop 2)).map ((twoF r).1 :: ·) else none := by
  match r with
  | [] => simp [unqP, h, twoF]
  | [d] => simp [unqP, h, twoF]
  | a :: b :: r =>
    by_cases hg : 0 ≤ hexI a ∧ 0 ≤ hexI b
    · have e : twoF (a :: b :: r) = (byteOf a b, true) := if_pos hg
      simp only [unqP, h, e]
      simp [hg]
    · have e : twoF (a :: b :: r) = (0, false) := if_neg hg
      have hn : ¬ ((c == 37) = true ∧ 0 ≤ hexI a ∧ 0 ≤ hexI b ∧ plB (byteOf a b) = false) := fun ⟨_, h1, h2, _⟩ => hg ⟨h1, h2⟩
      simp only [unqP, h, e, Bool.false_eq_true, if_false, false_and, and_false, if_neg hn]
theorem twoF_len {r : List UInt8} (h : (twoF r).2 = true) : 2 ≤ r.length := by
  match r, h with
  | [], h => simp [twoF] at h
  | [_], h => simp [twoF] at h
  | _ :: _ :: _, _ => simp
def unqE : Option (List UInt8) → List UInt8 × Bool
  | some o => (o, !o.isEmpty)
  | none => ([], false)
def unqB (acc : List UInt8) (x : Option (List UInt8)) : Option (List UInt8) := x.map (acc ++ ·)
theorem unqB_nil (acc : List UInt8) : unqB acc (unqP []) = some acc := by simp [unqB, unqP]
theorem unqB_map (acc : List UInt8) (c : UInt8) (x : Option (List UInt8)) : unqB acc (x.map (c :: ·)) = unqB (acc ++ [c]) x := by cases x <;> simp [unqB]

set_option maxHeartbeats 4000000 in
set_option maxRecDepth 100000 in
theorem words_Unquote (l : List UInt8) (hm : l.length ≤ 1048576) (w : World) :
    Calls Tryd.prog 31 #[bstr l] w fun e w' => e = .returned (.tuple #[bstr (unquoteF l).1, .bool (unquoteF l).2]) ∧ ∃ j, w' = w.more j := by
  by_cases h0 : l = [37]
  · subst h0
    go_enter Tryd.func31, Tryd.ntmps31
    go_wp2_with fail
    go_ret2
    exact ⟨rfl, Below.junk (by repeat (first | (with_reducible exact Below.refl _ _) | (with_reducible refine Below.allocS ?_ _) | (with_reducible refine Below.moreS ?_ _) | (with_reducible refine Below.drew ?_) | (with_reducible refine below_drewN ?_ _)))⟩
  have hne : (l == [37]) = false := by simpa using h0
  have HF : Hid (unquoteF l = unqE (unqP l)) := by show unquoteF l = _; rw [unquoteF, if_neg h0]; cases unqP l <;> rfl
  clear h0
  go_enter Tryd.func31, Tryd.ntmps31
  go_wp2_with fail
  go_loopg [4, 5] l.length (fun g v i wr => ∃ (k : Nat) (acc : List UInt8), k + g = l.length ∧ i = .int .i64 k ∧ acc.length ≤ k ∧ OwnB w.heap.size wr v acc ∧ Below w.heap.size w wr ∧ Hid (unqP l = unqB acc (unqP (l.drop k))))
  case atStart => exact ⟨0, [], by omega, rfl, by simp, OwnB.nil _ _, Below.refl _ _, by show _ = _; simp [unqB]⟩
  case round =>
    obtain ⟨k, acc, hkg, rfl, hak, HO, hb, HU⟩ := hrel
    by_cases hlt : k < l.length
    · have HK := Lib.hid hkg
      clear hkg
      have HO := Lib.hid HO
      have HB := Lib.hid hb
      have hd : l.drop k = l[k] :: l.drop (k + 1) := List.drop_eq_getElem_cons hlt
      have HT : ∀ W, Calls Tryd.prog 80 #[bstr ((l.drop (k + 1)).take (l.length - (k + 1)))] W fun e w' => e = .returned (.tuple #[.int .u8 ((twoF (l.drop (k + 1))).1.toNat : Int), .bool (twoF (l.drop (k + 1))).2]) ∧ ∃ j, w' = W.more j := by
        rw [List.take_of_length_le (by simp)]
        exact words_two _ (by simp; omega)
      cases hp : plB l[k] with
      | true =>
        have HP := Lib.hid hp
        have HPA : Hid (∀ W, Calls Tryd.prog 77 #[.int .u8 (l[k].toNat : Int)] W fun e w' => e = .returned (.bool true) ∧ W = w') := hp ▸ words_plain l[k]
        have HU2 : Hid (unqP l = unqB (acc ++ [l[k]]) (unqP (l.drop (k + 1)))) := by show _ = _; rw [HU.out, hd, unqP_plain hp, unqB_map]
        clear hp hd HT
        go_wp2_with (first
          | (go_at_call 77; refine (HPA.out _).mono ?_; rintro e w' ⟨rfl, rfl⟩)
          | (at_builtin; refine app_byte (.tmp 20) (.tmp 24) rfl rfl rfl (HO.out.alloc _) rfl (Blk.new _ _ _) (by omega) (by rw [World.size_alloc]; have := HB.out.size; omega) ?_; intro v' w1 hown hbw))
        have hb2 := HB.out.trans (((Below.refl w.heap.size wr).alloc HB.out.size _).trans hbw)
        clear hbw
        go_wp2_with fail
        go_roundg (l.length - (k + 1))
        case measure => have := HK.out; omega
        case rel => exact ⟨k + 1, acc ++ [l[k]], by omega, by go_num, by simp; omega, hown, hb2, HU2⟩
      | false =>
        have HP := Lib.hid hp
        have HPA : Hid (∀ W, Calls Tryd.prog 77 #[.int .u8 (l[k].toNat : Int)] W fun e w' => e = .returned (.bool false) ∧ W = w') := hp ▸ words_plain l[k]
        have hE : unqP l = unqB acc (if (l[k] == 37) = true ∧ (twoF (l.drop (k + 1))).2 = true ∧ plB (twoF (l.drop (k + 1))).1 = false then (unqP ((l.drop (k + 1)).drop 2)).map ((twoF (l.drop (k + 1))).1 :: ·) else none) := by rw [HU.out, hd, unqP_esc hp]
        have hL : (twoF (l.drop (k + 1))).2 = true → k + 3 ≤ l.length := fun h => by have := twoF_len h; simp at this; omega
        rw [List.drop_drop] at hE
        generalize twoF (l.drop (k + 1)) = T at HT hE hL
        obtain ⟨tb, ti⟩ := T
        simp only at HT hE hL
        have h37 : (l[k] == 37) = ((l[k].toNat : Int) == 37) := by
          rw [Bool.eq_iff_iff, beq_iff_eq, beq_iff_eq, ← UInt8.toNat_inj]
          show l[k].toNat = 37 ↔ _
          omega
        rw [h37] at hE
        have HT := Lib.hid HT
        have HPB : Hid (∀ W, Calls Tryd.prog 77 #[.int .u8 (tb.toNat : Int)] W fun e w' => e = .returned (.bool (plB tb)) ∧ W = w') := words_plain tb
        have HE := Lib.hid hE
        clear hp hd h37 hE
        have c37n : ((l[k].toNat : Int) != 37) = !((l[k].toNat : Int) == 37) := rfl
        cases c37 : ((l[k].toNat : Int) == 37) <;> cases ti <;> cases pb : plB tb <;> rw [c37] at c37n <;> simp only [Bool.not_true, Bool.not_false] at c37n
        case true.true.false =>
          have HU2 : Hid (unqP l = unqB (acc ++ [tb]) (unqP (l.drop (k + 3)))) := by show _ = _; rw [HE.out, if_pos ⟨c37, rfl, pb⟩, unqB_map]
          have hk3 := hL rfl
          rw [pb] at HPB
          clear hL HE pb
          go_wp2_with (first
            | (go_at_call 77; (with_reducible refine (HPB.out _).mono ?_); rintro e w' ⟨rfl, rfl⟩)
            | (go_at_call 77; refine (HPA.out _).mono ?_; rintro e w' ⟨rfl, rfl⟩)
            | (go_at_call 80; (with_reducible refine (HT.out _).mono ?_); rintro e w' ⟨rfl, j, rfl⟩)
            | (at_builtin; refine app_byte (.tmp 46) (.tmp 48) rfl rfl rfl ((HO.out.more _).alloc _) rfl (Blk.at_ _ _ _ (by simp)) (by omega) (by rw [World.size_alloc, World.size_more]; have := HB.out.size; omega) ?_; intro v' w1 hown hbw))
          have hb2 := HB.out.trans (((((Below.refl wr.heap.size wr).moreS j).alloc (by simp) _).mono HB.out.size).trans hbw)
          clear hbw
          go_wp2_with fail
          go_roundg (l.length - (k + 3))
          case measure => have := HK.out; omega
          case rel => exact ⟨k + 3, acc ++ [tb], by omega, by go_num, by simp; omega, hown, hb2, HU2⟩
        all_goals
          have HR : Hid (unquoteF l = ([], false)) := by show _ = _; rw [HF.out, HE.out, if_neg (by simp_all)]; rfl
          rw [pb] at HPB
          clear hL HE pb
          go_wp2_with (first
            | (go_at_call 77; (with_reducible refine (HPB.out _).mono ?_); rintro e w' ⟨rfl, rfl⟩)
            | (go_at_call 77; refine (HPA.out _).mono ?_; rintro e w' ⟨rfl, rfl⟩)
            | (go_at_call 80; (with_reducible refine (HT.out _).mono ?_); rintro e w' ⟨rfl, j, rfl⟩))
          go_ret2
          exact ⟨by rw [HR.out]; rfl, (HB.out.trans (((Below.refl wr.heap.size wr).moreS j).mono HB.out.size)).junk⟩
    · have hk : k = l.length := by omega
      have HR : Hid (unquoteF l = (acc, !acc.isEmpty)) := by show _ = _; rw [HF.out, HU.out, List.drop_of_length_le (by omega), unqB_nil]; rfl
      have ht := HO.text
      obtain ⟨a, cap, rfl⟩ := HO.len
      clear hk HU HF
      go_wp2_with fail
      go_ret2
      refine ⟨?_, hb.junk⟩
      rw [HR.out]
      have e : decide (0 < acc.length) = !acc.isEmpty := by cases acc <;> simp
      simp only [← e]
      rfl
