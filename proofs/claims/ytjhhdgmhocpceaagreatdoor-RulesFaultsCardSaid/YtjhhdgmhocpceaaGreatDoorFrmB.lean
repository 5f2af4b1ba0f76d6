/-
  Which settings may be: the document's list.
-/
import Derived.Test.YtjhhdgmhocpceaaGreatDoorMg
namespace Go.Proofs.YtjhhdgmhocpceaaGreatDoor
set_option linter.unusedSimpArgs false
set_option linter.unusedVariables false
set_option linter.unusedSectionVars false
open Go.ChangeShapes Go.WideShapes Go.ChangeAt Go.RowKit Go.Deep Go.Shelf

set_option maxHeartbeats 2000000 in
set_option maxRecDepth 100000 in
theorem ref13_Check (a : Option Addr) (c : Nat) (f : Int) (l : List (Int × Int)) (hl : l.length ≤ 1048576) (w : World) (h : SlG w w.heap.size a l) :
    Calls Tryz.prog 36 #[.slice a l.length c, .int .i64 f] w (ChkP f l w) := by
  obtain ⟨R, hR⟩ : ∃ R, R = chkS f l := ⟨_, rfl⟩
  have HS := Lib.hid h
  unfold ChkP
  rw [← hR]
  have HR := Lib.hid hR
  clear hR h
  go_enter Tryz.func36, Tryz.ntmps36
  go_wp2_with fail
  go_loopg [6] (l.length + 1) (fun q i wr => ∃ k, k + q = l.length + 1 ∧ k ≤ l.length ∧ i = .int .i64 (k : Int) ∧ R = chkS f (l.drop k) ∧ ∃ j, wr = (w.alloc (.cells #[.int .i64 0, .int .i64 0] FuT)).more j)
  case atStart => exact ⟨0, by omega, by omega, rfl, by rw [List.drop_zero]; exact HR.out, ⟨#[], w.drawn⟩, more_self _⟩
  case round =>
    obtain ⟨k, hkq, hkn, rfl, hRk, j, rfl⟩ := hrel
    by_cases hlt : k < l.length
    · have hlt2 : (k : Int) < (l.length : Int) := by omega
      obtain ⟨b, o, cs, rfl, hbb, rfl, hcell⟩ := HS.out k hlt
      have c0 : w.cell? ⟨b, o + k * 2, none⟩ = some (.int .i64 l[k].1) := hcell 0 _ rfl
      have c1 : w.cell? ⟨b, o + k * 2 + 1, none⟩ = some (.int .i64 l[k].2) := hcell 1 _ rfl
      rw [chkS_step hlt] at hRk
      have HC : Hid (∀ W, Calls Tryz.prog 61 #[.agg #[.int .i64 l[k].1, .int .i64 l[k].2], .int .i64 f] W fun e w' => e = .returned (.agg #[.int .i64 (scopeOf (codeF l[k] f)), .int .i64 (codeF l[k] f)]) ∧ ∃ j, w' = W.more j) := fun W => ref13_wrong l[k].1 l[k].2 f W
      generalize codeF l[k] f = D at HC hRk
      obtain ⟨⟨i, v⟩, hiv⟩ : ∃ p, p = l[k] := ⟨_, rfl⟩
      rw [← hiv] at HC c0 c1
      have HRK := Lib.hid hRk
      have HKQ := Lib.hid hkq
      clear hcell hiv hRk hkq
      by_cases hd : D = 0
      · subst hd
        rw [show scopeOf 0 = 0 from rfl] at HC
        have HLT := Lib.hid hlt
        have HRK2 : Hid (R = chkS f (l.drop (k + 1))) := by show _ = _; rw [HRK.out, if_pos rfl]
        go_wp2_with (go_at_call 61; (with_reducible refine (HC.out _).mono ?_); rintro e w' ⟨rfl, j, rfl⟩)
        go_roundg (l.length - k)
        case measure => have := HKQ.out; have := HLT.out; omega
        case rel => exact ⟨k + 1, by have := HLT.out; omega, by have := HLT.out; omega, by go_num, HRK2.out, Below.junk bel⟩
      · have hRD : R = D := by rw [HRK.out, if_neg hd]
        subst hRD
        rw [show scopeOf R = 2 from if_neg hd] at HC
        go_wp2_with (go_at_call 61; (with_reducible refine (HC.out _).mono ?_); rintro e w' ⟨rfl, j, rfl⟩)
        refine bodyPost_ret (res_cell_tmp rfl st_Fu rfl (t := FuT) (cs := #[.int .i64 2, .int .i64 R]) (g := w.heap.size) blk rfl rfl) rfl ⟨?_, Below.junk bel⟩
        rw [decide_eq_false hd, show scopeOf R = 2 from if_neg hd]
        rfl
    · obtain rfl : k = l.length := by omega
      rw [List.drop_length] at hRk
      have hR0 : R = 0 := hRk
      subst hR0
      have hlt2 : ¬ (l.length : Int) < (l.length : Int) := by omega
      clear hRk
      go_wp2_with fail
      refine bodyPost_ret (res_cell_tmp rfl st_Fu rfl (t := FuT) (cs := #[.int .i64 0, .int .i64 0]) (g := w.heap.size) blk rfl rfl) rfl ⟨?_, Below.junk bel⟩
      rfl
end Go.Proofs.YtjhhdgmhocpceaaGreatDoor
