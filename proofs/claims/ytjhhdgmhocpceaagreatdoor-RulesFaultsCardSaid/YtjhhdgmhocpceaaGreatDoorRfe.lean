/-
  The statement RulesFaults.
-/
import Derived.Test.YtjhhdgmhocpceaaGreatDoorRfd
import Derived.Test.YtjhhdgmhocpceaaGreatDoorMk
import Derived.Test.YtjhhdgmhocpceaaGreatDoorMd
import Derived.BigGuardPart
namespace Go.Proofs.YtjhhdgmhocpceaaGreatDoor
set_option linter.unusedSimpArgs false
set_option linter.unusedVariables false
set_option linter.unusedSectionVars false
open Go.ChangeShapes Go.WideShapes Go.ChangeAt Go.RowKit Go.Deep Go.Shelf

theorem of_two {s c : Int} (h : flR ⟨s, c⟩ = true) : ofF [⟨s, c⟩] = [⟨s, c⟩] := ofF_of (by simp [Strict]) (by simpa using h)
def fixAll : List (List Fl) := [[], [⟨2, 6⟩], [⟨1, 6⟩], [⟨2, 3⟩], [⟨1, 5⟩], [⟨1, 5⟩, ⟨2, 5⟩], [⟨2, 1⟩, ⟨2, 5⟩], [⟨2, 1⟩], [⟨1, 1⟩], [⟨1, 3⟩], [⟨1, 3⟩, ⟨2, 3⟩], [⟨1, 1⟩, ⟨1, 7⟩], [⟨2, 9⟩]]
theorem ite_mem {α : Type} {c : Prop} [Decidable c] {x y : α} {S : List α} (h1 : x ∈ S) (h2 : y ∈ S) : (if c then x else y) ∈ S := by split <;> assumption
theorem fixL_cases (rule ty st : Int) : fixL rule ty st ∈ fixAll := by
  have h1 : ∀ b : Prop, ∀ _ : Decidable b, (if b then (2 : Int) else 1) = 2 ∨ (if b then (2 : Int) else 1) = 1 := fun b _ => by by_cases h : b <;> simp [h]
  have hA := h1 (wholeF ty st = true) inferInstance
  have hB := h1 (st = 0) inferInstance
  unfold fixL
  generalize (if wholeF ty st = true then (2 : Int) else 1) = A at hA ⊢
  generalize (if st = 0 then (2 : Int) else 1) = B at hB ⊢
  rcases hA with rfl | rfl <;> rcases hB with rfl | rfl
  all_goals
    exact ite_mem (by decide) (ite_mem (by decide) (ite_mem (by decide) (ite_mem (by decide) (ite_mem (by decide) (ite_mem (by decide) (ite_mem (by decide) (ite_mem (by decide) (ite_mem (by decide) (ite_mem (by decide) (ite_mem (by decide) (ite_mem (by decide) (by decide))))))))))))
theorem fixAll_of : fixAll.all (fun l => decide (ofF l = l)) = true := by decide +kernel
theorem fixL_of (rule ty st : Int) : ofF (fixL rule ty st) = fixL rule ty st := of_decide_eq_true (List.all_eq_true.1 fixAll_of _ (fixL_cases rule ty st))
theorem faultsL_of (rule fr ty fl st : Int) (l : List UInt8) : ofF (faultsL rule fr ty fl st l) = faultsL rule fr ty fl st l := by
  unfold faultsL
  repeat' split
  · exact ofF_idem _
  · exact ofF_idem _
  · exact fixL_of _ _ _
theorem faultsL_len (rule fr ty fl st : Int) (l : List UInt8) :
    ((rule < 1 ∨ 35 < rule) ∧ (faultsL rule fr ty fl st l).length = 0) ∨ ((rule = 5 ∨ rule = 6) ∧ ((faultsL rule fr ty fl st l).length = 0 ∨ (faultsL rule fr ty fl st l).length = 1)) ∨
    ((rule = 14 ∨ rule = 16 ∨ rule = 20 ∨ rule = 24) ∧ (faultsL rule fr ty fl st l).length = 2) ∨
    (¬ rule < 1 ∧ ¬ rule > 35 ∧ ¬ rule = 5 ∧ ¬ rule = 6 ∧ ¬ rule = 14 ∧ ¬ rule = 16 ∧ ¬ rule = 20 ∧ ¬ rule = 24 ∧ (faultsL rule fr ty fl st l).length = 1) := by
  by_cases h5 : rule = 5
  · have : (faultsL rule fr ty fl st l).length ≤ 1 := by unfold faultsL; rw [if_pos h5]; exact ofF_len _
    exact .inr (.inl ⟨.inl h5, by omega⟩)
  by_cases h6 : rule = 6
  · have : (faultsL rule fr ty fl st l).length ≤ 1 := by unfold faultsL; rw [if_neg h5, if_pos h6]; exact ofF_len _
    exact .inr (.inl ⟨.inr h6, by omega⟩)
  have e : faultsL rule fr ty fl st l = fixL rule ty st := by unfold faultsL; rw [if_neg h5, if_neg h6]
  rw [e]
  by_cases ho : rule < 1 ∨ 35 < rule
  · refine .inl ⟨ho, ?_⟩
    unfold fixL
    repeat' rw [if_neg (by omega)]
    rfl
  refine .inr (.inr ?_)
  have hc : rule = 1 ∨ rule = 2 ∨ rule = 3 ∨ rule = 4 ∨ rule = 7 ∨ rule = 8 ∨ rule = 9 ∨ rule = 10 ∨ rule = 11 ∨ rule = 12 ∨ rule = 13 ∨ rule = 14 ∨ rule = 15 ∨ rule = 16 ∨ rule = 17 ∨ rule = 18 ∨ rule = 19 ∨ rule = 20 ∨ rule = 21 ∨ rule = 22 ∨ rule = 23 ∨ rule = 24 ∨ rule = 25 ∨ rule = 26 ∨ rule = 27 ∨ rule = 28 ∨ rule = 29 ∨ rule = 30 ∨ rule = 31 ∨ rule = 32 ∨ rule = 33 ∨ rule = 34 ∨ rule = 35 := by omega
  rcases hc with rfl | rfl | rfl | rfl | rfl | rfl | rfl | rfl | rfl | rfl | rfl | rfl | rfl | rfl | rfl | rfl | rfl | rfl | rfl | rfl | rfl | rfl | rfl | rfl | rfl | rfl | rfl | rfl | rfl | rfl | rfl | rfl | rfl
  · exact .inr ⟨by decide, by decide, by decide, by decide, by decide, by decide, by decide, by decide, rfl⟩
  · exact .inr ⟨by decide, by decide, by decide, by decide, by decide, by decide, by decide, by decide, rfl⟩
  · exact .inr ⟨by decide, by decide, by decide, by decide, by decide, by decide, by decide, by decide, rfl⟩
  · exact .inr ⟨by decide, by decide, by decide, by decide, by decide, by decide, by decide, by decide, rfl⟩
  · exact .inr ⟨by decide, by decide, by decide, by decide, by decide, by decide, by decide, by decide, rfl⟩
  · exact .inr ⟨by decide, by decide, by decide, by decide, by decide, by decide, by decide, by decide, rfl⟩
  · exact .inr ⟨by decide, by decide, by decide, by decide, by decide, by decide, by decide, by decide, rfl⟩
  · exact .inr ⟨by decide, by decide, by decide, by decide, by decide, by decide, by decide, by decide, rfl⟩
  · exact .inr ⟨by decide, by decide, by decide, by decide, by decide, by decide, by decide, by decide, rfl⟩
  · exact .inr ⟨by decide, by decide, by decide, by decide, by decide, by decide, by decide, by decide, rfl⟩
  · exact .inr ⟨by decide, by decide, by decide, by decide, by decide, by decide, by decide, by decide, rfl⟩
  · exact .inl ⟨by decide, rfl⟩
  · exact .inr ⟨by decide, by decide, by decide, by decide, by decide, by decide, by decide, by decide, rfl⟩
  · exact .inl ⟨by decide, rfl⟩
  · exact .inr ⟨by decide, by decide, by decide, by decide, by decide, by decide, by decide, by decide, rfl⟩
  · exact .inr ⟨by decide, by decide, by decide, by decide, by decide, by decide, by decide, by decide, rfl⟩
  · exact .inr ⟨by decide, by decide, by decide, by decide, by decide, by decide, by decide, by decide, rfl⟩
  · exact .inl ⟨by decide, rfl⟩
  · exact .inr ⟨by decide, by decide, by decide, by decide, by decide, by decide, by decide, by decide, rfl⟩
  · exact .inr ⟨by decide, by decide, by decide, by decide, by decide, by decide, by decide, by decide, rfl⟩
  · exact .inr ⟨by decide, by decide, by decide, by decide, by decide, by decide, by decide, by decide, rfl⟩
  · exact .inl ⟨by decide, rfl⟩
  · exact .inr ⟨by decide, by decide, by decide, by decide, by decide, by decide, by decide, by decide, rfl⟩
  · exact .inr ⟨by decide, by decide, by decide, by decide, by decide, by decide, by decide, by decide, rfl⟩
  · exact .inr ⟨by decide, by decide, by decide, by decide, by decide, by decide, by decide, by decide, rfl⟩
  · exact .inr ⟨by decide, by decide, by decide, by decide, by decide, by decide, by decide, by decide, rfl⟩
  · exact .inr ⟨by decide, by decide, by decide, by decide, by decide, by decide, by decide, by decide, rfl⟩
  · exact .inr ⟨by decide, by decide, by decide, by decide, by decide, by decide, by decide, by decide, rfl⟩
  · exact .inr ⟨by decide, by decide, by decide, by decide, by decide, by decide, by decide, by decide, rfl⟩
  · exact .inr ⟨by decide, by decide, by decide, by decide, by decide, by decide, by decide, by decide, rfl⟩
  · exact .inr ⟨by decide, by decide, by decide, by decide, by decide, by decide, by decide, by decide, rfl⟩
  · exact .inr ⟨by decide, by decide, by decide, by decide, by decide, by decide, by decide, by decide, rfl⟩
  · exact .inr ⟨by decide, by decide, by decide, by decide, by decide, by decide, by decide, by decide, rfl⟩
set_option maxHeartbeats 8000000 in
set_option maxRecDepth 100000 in
theorem rulesFaults_law (rule fr ty fl st : Int) (rs : Bool) (a : Option Addr) (c : Nat) (l : List UInt8) (m : Int) (w : World) (_h0 : -9223372036854775808 ≤ rule) (_h1 : rule ≤ 9223372036854775807) (hlc : l.length ≤ c) (hl63 : l.length ≤ maxLen) (h : SlB w w.heap.size a l) (hM : w.cell? MaxA = some (.int .i64 m)) :
    Calls Tryz.prog 3 #[.int .i64 rule, rawV fr ty fl st rs a l.length c] w fun e w' => e = .returned (.bool true) ∧ ∃ j, w' = w.more j := by
  have HAL : Hid (∀ W, Below w.heap.size w W → Calls Tryz.prog 4 #[] W fun e w' => e = .returned (.bool true) ∧ ∃ j, w' = W.more j) := fun W hW => law38_alive m W (max_keep hM hW)
  unfold maxLen at hl63
  by_cases g : 2000 < l.length
  · have g1 : (2000 : Int) < l.length := by omega
    clear hM h g
    go_enter Tryz.func3, Tryz.ntmps3
    go_wp2_with (go_at_call 4; (with_reducible refine (HAL.out _ bel).mono ?_); rintro e w' ⟨rfl, j, rfl⟩)
    go_ret
    exact ⟨rfl, Below.junk bel⟩
  have g1 : ¬ (2000 : Int) < l.length := by omega
  have hl : l.length ≤ 1048576 := by omega
  obtain ⟨L, hL⟩ : ∃ L, L = faultsL rule fr ty fl st l := ⟨_, rfl⟩
  have hlen := faultsL_len rule fr ty fl st l
  have hof := faultsL_of rule fr ty fl st l
  have hF : ∀ W, Below w.heap.size w W → Calls Tryz.prog 5 #[.int .i64 rule, rawV fr ty fl st rs a l.length c] W (TwoP (faultsL rule fr ty fl st l) W) := fun W hW => rules_Faults rule fr ty fl st rs a c l W m (max_keep hM hW) hl (h.grow hW)
  have hG : ∀ W, Below w.heap.size w W → Calls Tryz.prog 7 #[.int .i64 rule, rawV fr ty fl st rs a l.length c] W (TwoP (faultsL rule fr ty fl st l) W) := fun W hW => ref38_Faults rule fr ty fl st rs a c l W hl hlc (h.grow hW)
  rw [← hL] at hlen hof hF hG
  clear hL
  obtain ⟨n, hn⟩ : ∃ n, n = L.length := ⟨_, rfl⟩
  unfold TwoP at hF hG
  have hn2 : L.length ≤ 2 := by omega
  have HS : Hid (∀ W a b ca cb, SlFl W W.heap.size a L → SlFl W W.heap.size b L → Calls Tryz.prog 6 #[.slice a n ca, .slice b n cb] W fun e w' => e = .returned (.bool true) ∧ ∃ j, w' = W.more j) := fun W a b ca cb h1 h2 => by
    have := ref09_Same a b L L ca cb (by omega) (by omega) W h1 h2
    rwa [decide_eq_true rfl, ← hn] at this
  have HO : Hid (∀ W a ca, SlFl W W.heap.size a L → Calls Tryz.prog 8 #[.slice a n ca] W fun e w' => ∃ a' c', e = .returned (.slice a' n c') ∧ SlFl w' w'.heap.size a' L ∧ Below W.heap.size W w') := fun W a ca h1 => by
    have := ref09_Of a L ca (by omega) W h1
    rw [hof, ← hn] at this
    exact this.mono fun e w' ⟨a', c', he, _, hs, hb⟩ => ⟨a', c', he, hs, hb⟩
  rw [← hn] at hlen hF hG
  have HF := Lib.hid hF
  have HG := Lib.hid hG
  clear hF hG hof hn hn2 hM h g hl hl63 hlc
  have hc : (rule < 1 ∧ n = 0) ∨ (¬ rule < 1 ∧ 35 < rule ∧ n = 0) ∨ (rule = 5 ∧ n = 0) ∨ (rule = 5 ∧ n = 1) ∨ (rule = 6 ∧ n = 0) ∨ (rule = 6 ∧ n = 1) ∨ (rule = 14 ∧ n = 2) ∨ (rule = 16 ∧ n = 2) ∨ (rule = 20 ∧ n = 2) ∨ (rule = 24 ∧ n = 2) ∨
    (¬ rule < 1 ∧ ¬ 35 < rule ∧ ¬ rule = 5 ∧ ¬ rule = 6 ∧ ¬ rule = 14 ∧ ¬ rule = 16 ∧ ¬ rule = 20 ∧ ¬ rule = 24 ∧ n = 1) := by omega
  clear hlen
  rcases hc with ⟨h1, rfl⟩ | ⟨h1, h2, rfl⟩ | ⟨rfl, rfl⟩ | ⟨rfl, rfl⟩ | ⟨rfl, rfl⟩ | ⟨rfl, rfl⟩ | ⟨rfl, rfl⟩ | ⟨rfl, rfl⟩ | ⟨rfl, rfl⟩ | ⟨rfl, rfl⟩ | ⟨h1, h2, h3, h4, h5, h6, h7, h8, rfl⟩
  all_goals
    try (have b3 : (rule == 5) = false := by simpa using h3)
    try (have b4 : (rule == 6) = false := by simpa using h4)
    try (have b5 : (rule == 14) = false := by simpa using h5)
    try (have b6 : (rule == 16) = false := by simpa using h6)
    try (have b7 : (rule == 20) = false := by simpa using h7)
    try (have b8 : (rule == 24) = false := by simpa using h8)
    go_enter Tryz.func3, Tryz.ntmps3
    go_wp2_with fail
    refine (HF.out _ bel).mono ?_
    rintro e w1 ⟨a1, c1, rfl, hs1, hb1⟩
    obtain ⟨j1, rfl⟩ := hb1.junk
    have HS1 := Lib.hid hs1
    clear hs1 hb1
    go_wp2_with fail
    refine (HG.out _ bel).mono ?_
    rintro e w1 ⟨a2, c2, rfl, hs2, hb2⟩
    obtain ⟨j2, rfl⟩ := hb2.junk
    simp only [World.more_more, Array.append_assoc] at hs2
    have HS2 := Lib.hid hs2
    clear hs2 hb2
    go_wp2_with fail
    refine (HS.out _ a1 a2 c1 c2 (SlFl.keep HS1.out belm) HS2.out).mono ?_
    rintro e w' ⟨rfl, j3, rfl⟩
    go_wp2_with fail
    refine (HO.out _ a1 c1 (SlFl.keep HS1.out belm)).mono ?_
    rintro e w1 ⟨a4, c4, rfl, hs4, hb4⟩
    obtain ⟨j4, rfl⟩ := hb4.junk
    simp only [World.more_more, Array.append_assoc] at hs4
    have HS4 := Lib.hid hs4
    clear hs4 hb4
    go_wp2_with fail
    refine Calls.mono (HS.out _ a1 a4 c1 c4 ?_ ?_) ?_
    · exact SlFl.keep HS1.out belm
    · exact HS4.out
    rintro e w' ⟨rfl, j5, rfl⟩
    go_wp2_with (go_at_call 4; (with_reducible refine (HAL.out _ bel).mono ?_); rintro e w' ⟨rfl, j, rfl⟩)
    go_ret
    exact ⟨rfl, Below.junk bel⟩
end Go.Proofs.YtjhhdgmhocpceaaGreatDoor
