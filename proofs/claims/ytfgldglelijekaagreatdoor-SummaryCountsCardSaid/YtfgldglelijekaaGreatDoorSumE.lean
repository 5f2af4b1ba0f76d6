/-
  Summaries: the document's sections: again and again the least that is not there yet.
-/
import Derived.Test.YtfgldglelijekaaGreatDoorSumD
namespace Go.Proofs.YtfgldglelijekaaGreatDoor
set_option linter.unusedSimpArgs false
set_option linter.unusedVariables false
set_option linter.unusedSectionVars false
open Go.ChangeShapes Go.WideShapes Go.ChangeAt Go.RowKit Go.Deep Go.Shelf

theorem minS_stepX (p : List UInt8 → Bool) (L : List (List UInt8)) (i : Nat) (h : i < L.length) : minS ltX p (L.take (i + 1)) none = stepM ltX p (minS ltX p (L.take i) none) L[i] := by
  unfold minS
  rw [List.take_succ_eq_append_getElem h, List.foldl_append]
  rfl
theorem minS_p (p : List UInt8 → Bool) (L : List (List UInt8)) (y : List UInt8) (h : minS ltX p L none = some y) : p y = true := by
  have := least_minS ordX p L [] none rfl
  rw [h, List.nil_append] at this
  exact (List.mem_filter.1 this.1).2
theorem getD_take (S : List (List UInt8)) (k : Nat) : S.take (k + 1) = S.take k ++ (match S[k]? with | some y => [y] | none => []) := by
  rw [List.take_add_one]
  cases S[k]? <;> rfl
def newX (out : List (List UInt8)) (x : List UInt8) : Bool := (!x.isEmpty) && !amongX out x

set_option maxHeartbeats 8000000 in
set_option maxRecDepth 100000 in
theorem ref44_sections (a : Option Addr) (l : List Int) (cap : Nat) (hl : l.length ≤ 1000) (w : World) (hS : SlI w w.heap.size a l) :
    Calls Tryz.prog 15 #[.slice a l.length cap] w fun e w' => ∃ v, e = .returned v ∧ OwnX w.heap.size w' v (secS l) ∧ Below w.heap.size w w' := by
  have HS := Lib.hid hS
  have HNX : Hid (∀ n, minS ltX (newX ((secS l).take n)) (l.map secR) none = (secS l)[n]?) := fun n => secS_next l n
  have hlen := secS_len l
  have HSH := Lib.hid (secS_short l)
  generalize secS l = S at HNX hlen HSH ⊢
  have HLEN := Lib.hid hlen
  clear hS hlen
  go_enter Tryz.func15, Tryz.ntmps15
  go_wp2_with fail
  go_loopg [3, 4] l.length (fun g v i wr => ∃ k : Nat, k + g = l.length ∧ i = .int .i64 k ∧ OwnX w.heap.size wr v (S.take k) ∧ Below w.heap.size w wr)
  case atStart => exact ⟨0, by omega, rfl, by rw [List.take_zero]; exact OwnX.nil _ _, Below.refl _ _⟩
  case round =>
    obtain ⟨k, hkg, rfl, ho, hb⟩ := hrel
    have HK := Lib.hid hkg
    have HO := Lib.hid ho
    have HB := Lib.hid hb
    by_cases hlt : k < l.length
    · have hsh : ∀ x ∈ S.take k, x.length ≤ maxLen := fun x hx => by have := HSH.out x (List.mem_of_mem_take hx); unfold maxLen; omega
      obtain ⟨ao, co, hvo, hso⟩ := ho.read hsh
      subst hvo
      have hol : (S.take k).length ≤ 1000 := by simp; omega
      have HN2 := Lib.hid (HNX.out k)
      have HT := Lib.hid (getD_take S k)
      obtain ⟨w1, hw1⟩ : ∃ w1, w1 = wr := ⟨_, rfl⟩
      have HSO : Hid (SlX w1 w1.heap.size ao (S.take k)) := by rw [hw1]; exact hso
      have HOB : Hid (OwnX w.heap.size w1 (.slice ao (S.take k).length co) (S.take k)) := by rw [hw1]; exact ho
      have HB1 : Hid (Below w.heap.size w w1) := by show Below _ _ _; rw [hw1]; exact hb
      rw [← hw1]
      clear hw1 hso hsh ho hb HB HO hkg
      generalize S.take k = out at HSO HOB hol HN2 HT
      go_wp2_with fail
      go_loopg [5, 6] l.length (fun g s i wr => ∃ (q : Nat) (b : Option (List UInt8)), q + g = l.length ∧ i = .int .i64 q ∧ s = bstr (b.getD []) ∧ (∃ j, wr = w1.more j) ∧ Hid (b = minS ltX (newX out) ((l.map secR).take q) none))
      case atStart => exact ⟨0, none, by omega, rfl, rfl, Below.junk (by repeat (first | (with_reducible exact Below.refl _ _) | (with_reducible refine Below.allocS ?_ _) | (with_reducible refine Below.moreS ?_ _) | (with_reducible refine Below.drew ?_) | (with_reducible refine below_drewN ?_ _))), rfl⟩
      case round =>
        obtain ⟨q, b, hqg, rfl, rfl, ⟨j, rfl⟩, HBB⟩ := hrel
        have HQ := Lib.hid hqg
        by_cases hq : q < l.length
        · obtain ⟨bb, off, ha, hbb, c00⟩ := SlR.atI HS.out hq
          subst ha
          have hz1 := HB1.out.size
          have c0 : w1.cell? ⟨bb, off + q, none⟩ = some (.int .i64 l[q]) := (HB1.out.cell (p := ⟨bb, off + q, none⟩) hbb).trans c00
          have hbx : bb < w1.heap.size := Nat.lt_of_lt_of_le hbb hz1
          have HSC : Hid (∀ W, Calls Tryz.prog 28 #[.int .i64 l[q]] W fun e w' => e = .returned (bstr (secR l[q])) ∧ ∃ j, w' = W.more j) := ref38_Section l[q]
          have HST : Hid (minS ltX (newX out) ((l.map secR).take (q + 1)) none = stepM ltX (newX out) b (secR l[q])) := by
            show _ = _
            rw [minS_stepX (newX out) (l.map secR) q (by simpa using hq), ← HBB.out, List.getElem_map]
          have HBN : Hid (∀ y, b = some y → (y == ([] : List UInt8)) = false) := fun y hy => by
            have := minS_p (newX out) ((l.map secR).take q) y (by rw [← HBB.out, hy])
            unfold newX at this
            cases y with
            | nil => simp at this
            | cons => rfl
          clear HBB c00 hqg
          generalize l[q] = n at c0 HSC HST
          generalize secR n = s at HSC HST
          have HAM : Hid (∀ W, Below w1.heap.size w1 W → Calls Tryz.prog 29 #[.slice ao out.length co, bstr s] W fun en w' => en = .returned (.bool (amongX out s)) ∧ ∃ j, w' = W.more j) := fun W hW => ref44_among ao out co s (by omega) W ((HSO.out.below hW (Nat.le_refl _)).mono hW.size (fun _ _ _ h => h))
          cases he : s.isEmpty
          · have hne : (s == ([] : List UInt8)) = false := by cases s <;> simp_all
            cases hm : amongX out s
            · have hp : newX out s = true := by unfold newX; rw [he, hm]; rfl
              rw [hm] at HAM
              cases b with
              | none =>
                have HS2 : Hid (some s = minS ltX (newX out) ((l.map secR).take (q + 1)) none) := by show _ = _; rw [HST.out]; unfold stepM; rw [if_pos hp]
                clear HST HBN hp hm
                simp only [Option.getD_none]
                go_wp2_with (first
                  | (go_at_call 28; (with_reducible refine (HSC.out _).mono ?_); rintro e w' ⟨rfl, j, rfl⟩)
                  | (go_at_call 29; (with_reducible refine (HAM.out _ (by repeat (first | (with_reducible exact Below.refl _ _) | (with_reducible refine Below.allocS ?_ _) | (with_reducible refine Below.moreS ?_ _) | (with_reducible refine Below.drew ?_) | (with_reducible refine below_drewN ?_ _)))).mono ?_); rintro e w' ⟨rfl, j, rfl⟩))
                go_roundg (l.length - (q + 1))
                case measure => have := HQ.out; omega
                case rel => exact ⟨q + 1, some s, by have := HQ.out; omega, by go_num, rfl, Below.junk (by repeat (first | (with_reducible exact Below.refl _ _) | (with_reducible refine Below.allocS ?_ _) | (with_reducible refine Below.moreS ?_ _) | (with_reducible refine Below.drew ?_) | (with_reducible refine below_drewN ?_ _))), HS2⟩
              | some y =>
                have hy := HBN.out y rfl
                have hye : y.isEmpty = false := by cases y <;> simp_all
                simp only [Option.getD_some]
                cases hlt2 : ltX s y
                · have hbl : Op.bytesLess s y = false := by rw [bytesLess_eq]; exact hlt2
                  have HS2 : Hid (some y = minS ltX (newX out) ((l.map secR).take (q + 1)) none) := by show _ = _; rw [HST.out]; unfold stepM; rw [if_pos hp]; simp only [hlt2, Bool.false_eq_true, if_false]
                  clear HST HBN hp hm hlt2
                  go_wp2_with (first
                    | (go_at_call 28; (with_reducible refine (HSC.out _).mono ?_); rintro e w' ⟨rfl, j, rfl⟩)
                    | (go_at_call 29; (with_reducible refine (HAM.out _ (by repeat (first | (with_reducible exact Below.refl _ _) | (with_reducible refine Below.allocS ?_ _) | (with_reducible refine Below.moreS ?_ _) | (with_reducible refine Below.drew ?_) | (with_reducible refine below_drewN ?_ _)))).mono ?_); rintro e w' ⟨rfl, j, rfl⟩))
                  go_roundg (l.length - (q + 1))
                  case measure => have := HQ.out; omega
                  case rel => exact ⟨q + 1, some y, by have := HQ.out; omega, by go_num, rfl, Below.junk (by repeat (first | (with_reducible exact Below.refl _ _) | (with_reducible refine Below.allocS ?_ _) | (with_reducible refine Below.moreS ?_ _) | (with_reducible refine Below.drew ?_) | (with_reducible refine below_drewN ?_ _))), HS2⟩
                · have hbl : Op.bytesLess s y = true := by rw [bytesLess_eq]; exact hlt2
                  have HS2 : Hid (some s = minS ltX (newX out) ((l.map secR).take (q + 1)) none) := by show _ = _; rw [HST.out]; unfold stepM; rw [if_pos hp]; simp only [hlt2, if_true]
                  clear HST HBN hp hm hlt2
                  go_wp2_with (first
                    | (go_at_call 28; (with_reducible refine (HSC.out _).mono ?_); rintro e w' ⟨rfl, j, rfl⟩)
                    | (go_at_call 29; (with_reducible refine (HAM.out _ (by repeat (first | (with_reducible exact Below.refl _ _) | (with_reducible refine Below.allocS ?_ _) | (with_reducible refine Below.moreS ?_ _) | (with_reducible refine Below.drew ?_) | (with_reducible refine below_drewN ?_ _)))).mono ?_); rintro e w' ⟨rfl, j, rfl⟩))
                  go_roundg (l.length - (q + 1))
                  case measure => have := HQ.out; omega
                  case rel => exact ⟨q + 1, some s, by have := HQ.out; omega, by go_num, rfl, Below.junk (by repeat (first | (with_reducible exact Below.refl _ _) | (with_reducible refine Below.allocS ?_ _) | (with_reducible refine Below.moreS ?_ _) | (with_reducible refine Below.drew ?_) | (with_reducible refine below_drewN ?_ _))), HS2⟩
            · have hp : newX out s = false := by unfold newX; rw [he, hm]; rfl
              rw [hm] at HAM
              have HS2 : Hid (b = minS ltX (newX out) ((l.map secR).take (q + 1)) none) := by show _ = _; rw [HST.out]; unfold stepM; rw [if_neg (by rw [hp]; simp)]
              clear HST HBN hp hm
              go_wp2_with (first
                | (go_at_call 28; (with_reducible refine (HSC.out _).mono ?_); rintro e w' ⟨rfl, j, rfl⟩)
                | (go_at_call 29; (with_reducible refine (HAM.out _ (by repeat (first | (with_reducible exact Below.refl _ _) | (with_reducible refine Below.allocS ?_ _) | (with_reducible refine Below.moreS ?_ _) | (with_reducible refine Below.drew ?_) | (with_reducible refine below_drewN ?_ _)))).mono ?_); rintro e w' ⟨rfl, j, rfl⟩))
              go_roundg (l.length - (q + 1))
              case measure => have := HQ.out; omega
              case rel => exact ⟨q + 1, b, by have := HQ.out; omega, by go_num, rfl, Below.junk (by repeat (first | (with_reducible exact Below.refl _ _) | (with_reducible refine Below.allocS ?_ _) | (with_reducible refine Below.moreS ?_ _) | (with_reducible refine Below.drew ?_) | (with_reducible refine below_drewN ?_ _))), HS2⟩
          · have hp : newX out s = false := by unfold newX; rw [he]; rfl
            have hs0 : s = [] := by cases s <;> simp_all
            have HS2 : Hid (b = minS ltX (newX out) ((l.map secR).take (q + 1)) none) := by show _ = _; rw [HST.out]; unfold stepM; rw [if_neg (by rw [hp]; simp)]
            clear HST HBN hp HAM he
            subst hs0
            go_wp2_with (go_at_call 28; (with_reducible refine (HSC.out _).mono ?_); rintro e w' ⟨rfl, j, rfl⟩)
            go_roundg (l.length - (q + 1))
            case measure => have := HQ.out; omega
            case rel => exact ⟨q + 1, b, by have := HQ.out; omega, by go_num, rfl, Below.junk (by repeat (first | (with_reducible exact Below.refl _ _) | (with_reducible refine Below.allocS ?_ _) | (with_reducible refine Below.moreS ?_ _) | (with_reducible refine Below.drew ?_) | (with_reducible refine below_drewN ?_ _))), HS2⟩
        · have hbS : b = S[k]? := by
            have e := HBB.out
            rw [List.take_of_length_le (by simp; omega), HN2.out] at e
            exact e
          have hTk := HT.out
          rw [← hbS] at hTk
          have HTK := Lib.hid hTk
          have hz1 := HB1.out.size
          have HBN : Hid (∀ y, b = some y → y ≠ []) := fun y hy => by
            have := minS_p (newX out) (l.map secR) y (by rw [HN2.out, ← hbS, hy])
            unfold newX at this
            intro e; subst e; simp at this
          clear HBB HN2 HT hqg hbS hTk
          cases b with
          | none =>
            clear HBN
            simp only [Option.getD_none]
            go_wp2_with fail
            go_roundg (l.length - (k + 1))
            case measure => have := HK.out; omega
            case rel => exact ⟨k + 1, by have := HK.out; omega, by go_num, by rw [HTK.out, List.append_nil]; exact HOB.out.below (C := w1.heap.size) (by repeat (first | (with_reducible exact Below.refl _ _) | (with_reducible refine Below.allocS ?_ _) | (with_reducible refine Below.moreS ?_ _) | (with_reducible refine Below.drew ?_) | (with_reducible refine below_drewN ?_ _))) (Nat.le_refl _), HB1.out.trans (Below.mono (B := w1.heap.size) (by repeat (first | (with_reducible exact Below.refl _ _) | (with_reducible refine Below.allocS ?_ _) | (with_reducible refine Below.moreS ?_ _) | (with_reducible refine Below.drew ?_) | (with_reducible refine below_drewN ?_ _))) hz1)⟩
          | some y =>
            have hy := HBN.out y rfl
            have hye : y.isEmpty = false := by cases y <;> simp_all
            have hyb : (y == ([] : List UInt8)) = false := by cases y <;> simp_all
            clear HBN hy
            simp only [Option.getD_some]
            go_wp2_with (at_builtin; refine app_text (.tmp 45) (.tmp 47) rfl rfl rfl (HOB.out.below (C := w1.heap.size) (by repeat (first | (with_reducible exact Below.refl _ _) | (with_reducible refine Below.allocS ?_ _) | (with_reducible refine Below.moreS ?_ _) | (with_reducible refine Below.drew ?_) | (with_reducible refine below_drewN ?_ _))) (Nat.le_refl _)) rfl (Blk.at_ _ _ _ (by simp)) (by omega) (by simp only [World.size_alloc, World.size_more]; omega) ?_; intro v' w2 hown hbw)
            have HB4 : Hid (Below w.heap.size w w2) := by
              refine HB1.out.trans (Below.trans ?_ hbw)
              exact Below.mono (B := w1.heap.size) (by repeat (first | (with_reducible exact Below.refl _ _) | (with_reducible refine Below.allocS ?_ _) | (with_reducible refine Below.moreS ?_ _) | (with_reducible refine Below.drew ?_) | (with_reducible refine below_drewN ?_ _))) hz1
            have HO4 := Lib.hid hown
            clear hown hbw
            go_wp2_with fail
            go_roundg (l.length - (k + 1))
            case measure => have := HK.out; omega
            case rel => exact ⟨k + 1, by have := HK.out; omega, by go_num, by rw [HTK.out]; exact HO4.out, HB4.out⟩
    · have hk : S.take k = S := List.take_of_length_le (by have := HLEN.out; omega)
      have ho2 := HO.out
      rw [hk] at ho2
      have HO2 := Lib.hid ho2
      clear hk ho2 ho hb hkg HO
      go_wp2_with fail
      go_ret
      exact ⟨_, rfl, HO2.out, HB.out⟩
end Go.Proofs.YtfgldglelijekaaGreatDoor
