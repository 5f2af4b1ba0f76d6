/-
  Reports: the chapter's example; the statement ReportSame. (Printed by mk_repa.py.)
-/
import Derived.Test.YtbdmepidabnfkaaGreatDoorRep8
import Derived.Test.YtbdmepidabnfkaaGreatDoorRep9
import Derived.Test.YtbdmepidabnfkaaGreatDoorMb
namespace Go.Proofs.YtbdmepidabnfkaaGreatDoor
set_option linter.unusedSimpArgs false
set_option linter.unusedVariables false
set_option linter.unusedSectionVars false
open Go.ChangeShapes Go.WideShapes Go.ChangeAt Go.RowKit Go.Deep Go.Shelf

def aliveT : List UInt8 := [115, 116, 105, 99, 107, 108, 101, 114, 32, 49, 10, 99, 111, 110, 102, 105, 103, 32, 48, 32, 49, 32, 48, 32, 49, 32, 48, 32, 52, 48, 57, 54, 10, 102, 114, 97, 109, 101, 115, 32, 48, 10, 118, 101, 114, 100, 105, 99, 116, 32, 97, 108, 108, 111, 119, 101, 100, 32, 48, 10, 102, 97, 117, 108, 116, 115, 32, 45, 10, 114, 117, 108, 101, 115, 32, 45, 10, 108, 101, 102, 116, 32, 48, 32, 53, 10]
theorem itoa_0' : Lib.itoa 0 = [48] := by
  rw [show (0 : Int) = ((0 : Nat) : Int) from rfl, itoa_pos, dec_lo (by omega)]
  decide
theorem itoa_5' : Lib.itoa 5 = [53] := by
  rw [show (5 : Int) = ((5 : Nat) : Int) from rfl, itoa_pos, dec_lo (by omega)]
  decide
theorem itoa_4096 : Lib.itoa 4096 = [52, 48, 57, 54] := by
  rw [show (4096 : Int) = ((4096 : Nat) : Int) from rfl, itoa_pos, dec_hi (by omega), dec_hi (n := 4096 / 10) (by omega), dec_hi (n := 4096 / 10 / 10) (by omega), dec_lo (n := 4096 / 10 / 10 / 10) (by omega)]
  decide
def aliveR : Rpt := ⟨0, 1, 0, 1, 0, 4096, [], 1, 0, [], [], 0, 5⟩
theorem alive_text : textD aliveR = aliveT := by
  unfold textD linesD w1D w2D w3D w4D w5D w6D w7D aliveR
  simp only [List.length_nil, Int.natCast_zero, itoa_0', itoa_one, itoa_5', itoa_4096]
  decide +kernel
theorem alive_right : rightD aliveR = true := by decide
set_option maxHeartbeats 4000000 in
set_option maxRecDepth 100000 in
theorem law43_alive (m : Int) (w : World) (hE : EnvR w) (hM : w.cell? MaxA = some (.int .i64 m)) : Calls Tryz.prog 7 #[] w fun e w' => e = .returned (.bool true) ∧ ∃ j, w' = w.more j := by
  have HT : Hid (∀ W, Below w.heap.size w W → Calls Tryz.prog 10 #[.agg #[.int .i64 0, .int .i64 1, .int .i64 0, .int .i64 1, .int .i64 0, .int .i64 4096, .slice none 0 0, .int .i64 1, .int .i64 0, .slice none 0 0, .slice none 0 0, .int .i64 0, .int .i64 5]] W fun e w' => e = .returned (.tuple #[bstr aliveT, .int .i64 0]) ∧ ∃ j, w' = W.more j) := fun W hW => by
    have := report_Text_yes 0 1 0 1 0 4096 none [] 0 1 0 none [] 0 none [] 0 0 5 (by simp) (by simp) (by simp) (by simp) (by unfold goodI; omega) (by unfold goodI; omega) (by unfold goodI; omega) m W (hE.below hW) (max_keep hM hW) .nil .nil .nil alive_right
    rw [show textD ⟨0, 1, 0, 1, 0, 4096, [], 1, 0, [], [], 0, 5⟩ = aliveT from alive_text] at this
    exact this
  clear hE hM
  obtain ⟨L, hL⟩ : ∃ L, L = aliveT := ⟨_, rfl⟩
  rw [← hL] at HT
  go_enter Tryz.func7, Tryz.ntmps7
  go_wp2_with (go_at_call 10; (with_reducible refine (HT.out _ (by repeat (first | (with_reducible exact Below.refl _ _) | (with_reducible refine Below.allocS ?_ _) | (with_reducible refine Below.moreS ?_ _) | (with_reducible refine Below.drew ?_) | (with_reducible refine below_drewN ?_ _)))).mono ?_); rintro e w' ⟨rfl, j, rfl⟩)
  go_ret
  exact ⟨rfl, _, rfl⟩
/-- A report that is handed in: its parts. -/
structure RpOk (W : World) (a : Option Addr) (l : List Rec) (c : Nat) (fa : Option Addr) (fs : List Fl) (ua : Option Addr) (us : List Int) : Prop where
  recs : SlRc W W.heap.size a l
  flts : SlFl W W.heap.size fa fs
  ruls : SlI W W.heap.size ua us
  cap : l.length ≤ c
theorem RpOk.keep {W W' : World} {a : Option Addr} {l : List Rec} {c : Nat} {fa : Option Addr} {fs : List Fl} {ua : Option Addr} {us : List Int} (h : RpOk W a l c fa fs ua us) (hb : Below W.heap.size W W') : RpOk W' a l c fa fs ua us :=
  ⟨SlRc.keep h.recs hb, SlFl.keep h.flts hb, (h.ruls.below hb (Nat.le_refl _)).mono hb.size (fun _ _ _ h => h), h.cap⟩
end Go.Proofs.YtbdmepidabnfkaaGreatDoor
