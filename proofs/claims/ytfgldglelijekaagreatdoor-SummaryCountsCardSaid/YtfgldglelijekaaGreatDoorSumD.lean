/-
  Summaries: the document's small functions; its sections.
-/
import Derived.Test.YtfgldglelijekaaGreatDoorSum4
import Derived.BigGuardPart
namespace Go.Proofs.YtfgldglelijekaaGreatDoor
set_option linter.unusedSimpArgs false
set_option linter.unusedVariables false
set_option linter.unusedSectionVars false
open Go.ChangeShapes Go.WideShapes Go.ChangeAt Go.RowKit Go.Deep Go.Shelf

set_option maxHeartbeats 4000000 in
set_option maxRecDepth 100000 in
theorem ref44_bytes (a b c d e f : Int) (w : World) : Calls Tryz.prog 14 #[.agg #[.int .i64 a, .int .i64 b, .int .i64 c, .int .i64 d, .int .i64 e, .int .i64 f]] w fun en w' => en = .returned (.int .i64 (szR ⟨a, b, c, d, e, f⟩)) ∧ ∃ j, w' = w.more j := by
  have HZ : Hid (szR ⟨a, b, c, d, e, f⟩ = (if inB e 16777215 = true then e else 0) + (if b = -1 then 0 else 9)) := rfl
  generalize szR ⟨a, b, c, d, e, f⟩ = Z at HZ ⊢
  have h3 : (0 ≤ e ∧ e ≤ 16777215) ∨ (0 ≤ e ∧ ¬ e ≤ 16777215) ∨ ¬ 0 ≤ e := by omega
  rcases h3 with ⟨h1, h2⟩ | ⟨h1, h2⟩ | h1
  all_goals
    by_cases h4 : b = -1
    · have hZ : Z = _ := HZ.out
      rw [if_pos h4] at hZ
      first | rw [if_pos (inB_iff.2 ⟨h1, h2⟩)] at hZ | rw [if_neg (fun h => by have := inB_iff.1 h; omega)] at hZ
      have hw2 : 0 ≤ e → e ≤ 16777215 → IntKind.i64.wrap (0 + e) = e := fun _ _ => by rw [Int.zero_add]; exact IntWalk.i64_in _ (by omega)
      have hw3 : 0 ≤ e → e ≤ 16777215 → IntKind.i64.wrap e = e := fun _ _ => IntWalk.i64_in _ (by omega)
      subst h4 hZ
      clear HZ
      go_enter Tryz.func14, Tryz.ntmps14
      go_wp2_with fail
      go_ret
      exact ⟨by simp <;> omega, Below.junk (by repeat (first | (with_reducible exact Below.refl _ _) | (with_reducible refine Below.allocS ?_ _) | (with_reducible refine Below.moreS ?_ _) | (with_reducible refine Below.drew ?_) | (with_reducible refine below_drewN ?_ _)))⟩
    · have hZ : Z = _ := HZ.out
      rw [if_neg h4] at hZ
      first | rw [if_pos (inB_iff.2 ⟨h1, h2⟩)] at hZ | rw [if_neg (fun h => by have := inB_iff.1 h; omega)] at hZ
      have h5 : (b == -1) = false := by rw [beq_eq_false_iff_ne]; exact h4
      have hw2 : 0 ≤ e → e ≤ 16777215 → IntKind.i64.wrap (9 + e) = 9 + e := fun _ _ => IntWalk.i64_in _ (by omega)
      subst hZ
      clear HZ
      go_enter Tryz.func14, Tryz.ntmps14
      go_wp2_with fail
      go_ret
      exact ⟨by simp <;> omega, Below.junk (by repeat (first | (with_reducible exact Below.refl _ _) | (with_reducible refine Below.allocS ?_ _) | (with_reducible refine Below.moreS ?_ _) | (with_reducible refine Below.drew ?_) | (with_reducible refine below_drewN ?_ _)))⟩
set_option maxRecDepth 100000 in
theorem ref44_counts (a b c d e f s : Int) (w : World) : Calls Tryz.prog 13 #[.agg #[.int .i64 a, .int .i64 b, .int .i64 c, .int .i64 d, .int .i64 e, .int .i64 f], .int .i64 s] w fun en w' => en = .returned (.bool (a == s)) ∧ ∃ j, w' = w.more j := by
  go_enter Tryz.func13, Tryz.ntmps13
  go_wp2_with fail
  go_ret
  exact ⟨rfl, Below.junk (by repeat (first | (with_reducible exact Below.refl _ _) | (with_reducible refine Below.allocS ?_ _) | (with_reducible refine Below.moreS ?_ _) | (with_reducible refine Below.drew ?_) | (with_reducible refine below_drewN ?_ _)))⟩

set_option maxHeartbeats 4000000 in
set_option maxRecDepth 100000 in
theorem ref44_among (a : Option Addr) (l : List (List UInt8)) (cap : Nat) (s : List UInt8) (hl : l.length ≤ 100000) (w : World) (hS : SlX w w.heap.size a l) : Calls Tryz.prog 29 #[.slice a l.length cap, bstr s] w fun en w' => en = .returned (.bool (amongX l s)) ∧ ∃ j, w' = w.more j := by
  have HS := Lib.hid hS
  have HY : Hid (∀ k (h : k < l.length), l[k] = s → amongX l s = true) := fun k h e => (amongX_iff l s).2 (by rw [← e]; exact List.getElem_mem h)
  have HN : Hid ((∀ k (h : k < l.length), l[k] ≠ s) → amongX l s = false) := fun h => by
    cases hq : amongX l s with
    | false => rfl
    | true =>
      obtain ⟨k, hk, e⟩ := List.getElem_of_mem ((amongX_iff l s).1 hq)
      exact absurd e (h k hk)
  generalize amongX l s = R at HY HN ⊢
  clear hS
  go_enter Tryz.func29, Tryz.ntmps29
  go_wp2_with fail
  go_loopg [5] l.length (fun g i wr => ∃ k : Nat, k + g = l.length ∧ i = .int .i64 k ∧ wr = w ∧ Hid (∀ q (h : q < l.length), q < k → l[q] ≠ s))
  case atStart => exact ⟨0, by omega, rfl, rfl, fun q _ h => absurd h (by omega)⟩
  case round =>
    obtain ⟨k, hkg, rfl, rfl, HQ⟩ := hrel
    have HK := Lib.hid hkg
    by_cases hlt : k < l.length
    · obtain ⟨b, off, ha, hbb, d0, _⟩ := HS.out.atX hlt
      subst ha
      have HT := Lib.hid (HY.out k hlt)
      have HF : Hid (l[k] ≠ s → ∀ q (h : q < l.length), q < k + 1 → l[q] ≠ s) := fun h q hq hqk => by
        by_cases e : q = k
        · subst e; exact h
        · exact HQ.out q hq (by omega)
      generalize l[k] = x at d0 HT HF
      clear hkg
      cases e1 : (x == s)
      · have HF2 := Lib.hid (HF.out (by simpa using e1))
        clear HT HF HQ HY HN
        go_wp2_with fail
        go_roundg (l.length - (k + 1))
        case measure => have := HK.out; omega
        case rel => exact ⟨k + 1, by have := HK.out; omega, by go_num, rfl, HF2⟩
      · have hR := HT.out (by simpa using e1)
        subst hR
        clear HT HF HQ HY HN
        go_wp2_with fail
        go_ret
        exact ⟨rfl, Below.junk (by repeat (first | (with_reducible exact Below.refl _ _) | (with_reducible refine Below.allocS ?_ _) | (with_reducible refine Below.moreS ?_ _) | (with_reducible refine Below.drew ?_) | (with_reducible refine below_drewN ?_ _)))⟩
    · have hR := HN.out (fun q h => HQ.out q h (by omega))
      subst hR
      clear HY HN HQ
      go_wp2_with fail
      go_ret
      exact ⟨rfl, Below.junk (by repeat (first | (with_reducible exact Below.refl _ _) | (with_reducible refine Below.allocS ?_ _) | (with_reducible refine Below.moreS ?_ _) | (with_reducible refine Below.drew ?_) | (with_reducible refine below_drewN ?_ _)))⟩
end Go.Proofs.YtfgldglelijekaaGreatDoor
