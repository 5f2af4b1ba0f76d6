/-
  Faults: the chapter's example.
-/
import Derived.Test.YtamklaehaadiaaaGreatDoorFlt12
namespace Go.Proofs.YtamklaehaadiaaaGreatDoor
set_option linter.unusedSimpArgs false
set_option linter.unusedVariables false
set_option linter.unusedSectionVars false
open Go.ChangeShapes Go.WideShapes Go.ChangeAt Go.RowKit Go.Deep Go.Shelf

def aliveL : List Fl := [⟨2, 1⟩, ⟨1, 5⟩]
def aliveS : List Fl := [⟨1, 5⟩, ⟨2, 1⟩]
theorem alive_of : ofF aliveL = aliveS := by decide
theorem alive_same : ofF aliveS = aliveS := by decide
theorem alive_show : showW aliveS = [115, 116, 114, 101, 97, 109, 58, 83, 84, 82, 69, 65, 77, 95, 67, 76, 79, 83, 69, 68, 44, 99, 111, 110, 110, 101, 99, 116, 105, 111, 110, 58, 80, 82, 79, 84, 79, 67, 79, 76, 95, 69, 82, 82, 79, 82] := by decide +kernel
set_option maxHeartbeats 4000000 in
set_option maxRecDepth 100000 in
theorem law09_alive (w : World) (hF : FN w) : Calls Tryz.prog 4 #[] w fun e w' => e = .returned (.bool true) ∧ ∃ j, w' = w.more j := by
  obtain ⟨wa, hwa⟩ : ∃ wa, wa = w.alloc (.cells #[.int .i64 2, .int .i64 1, .int .i64 1, .int .i64 5] 23) := ⟨_, rfl⟩
  have hb0 : Below w.heap.size w wa := by rw [hwa]; exact (by repeat (first | (with_reducible exact Below.refl _ _) | (with_reducible refine Below.allocS ?_ _) | (with_reducible refine Below.moreS ?_ _) | (with_reducible refine Below.drew ?_) | (with_reducible refine below_drewN ?_ _)))
  have hs : SlFl wa wa.heap.size (some ⟨w.heap.size, 0, none⟩) aliveL := by
    rw [hwa, World.size_alloc]
    exact SlR.of_blk (c := Fl.cells) (Blk.new w _ _) rfl (fun _ _ => rfl) (fun _ _ => rfl)
  have hO := faults_Of (some ⟨w.heap.size, 0, none⟩) aliveL 2 (by decide) wa hs
  rw [alive_of] at hO
  have HO : Hid (Calls Tryz.prog 16 #[.slice (some ⟨w.heap.size, 0, none⟩) 2 2] wa fun e w' => ∃ a' cap', e = .returned (.slice a' 2 cap') ∧ aliveS.length ≤ cap' ∧ SlFl w' w'.heap.size a' aliveS ∧ Below wa.heap.size wa w') := hO
  have HF := Lib.hid hF
  have HB0 := Lib.hid hb0
  clear hO hs hF hb0
  go_enter Tryz.func4, Tryz.ntmps4
  go_wp2_with fail
  rw [← hwa]
  refine HO.out.mono ?_
  rintro e w1 ⟨a1, c1, rfl, _, hs1, hb1⟩
  have HB1 := Lib.hid (HB0.out.trans (hb1.mono HB0.out.size))
  have hS := faults_Show a1 aliveS c1 (by decide) w1 hs1 (fun f hf W hW => by
    have hFW := HF.out.below (HB1.out.trans (hW.mono HB1.out.size))
    rw [alive_same] at hf
    simp only [aliveS, List.mem_cons, List.not_mem_nil, or_false] at hf
    rcases hf with rfl | rfl
    · exact faults_CodeName_lo 5 (by omega) W hFW
    · exact faults_CodeName_lo 1 (by omega) W hFW)
  rw [alive_show] at hS
  have HS : Hid (Calls Tryz.prog 10 #[.slice a1 2 c1] w1 fun e w' => e = .returned (bstr [115, 116, 114, 101, 97, 109, 58, 83, 84, 82, 69, 65, 77, 95, 67, 76, 79, 83, 69, 68, 44, 99, 111, 110, 110, 101, 99, 116, 105, 111, 110, 58, 80, 82, 79, 84, 79, 67, 79, 76, 95, 69, 82, 82, 79, 82]) ∧ ∃ j, w' = w1.more j) := hS
  clear hS hs1 hb1 hwa
  go_wp2_with fail
  refine HS.out.mono ?_
  rintro e w2 ⟨rfl, j, rfl⟩
  go_wp2_with fail
  go_ret
  exact ⟨rfl, (HB1.out.trans ((Below.refl w1.heap.size w1).moreS j |>.mono HB1.out.size)).junk⟩
end Go.Proofs.YtamklaehaadiaaaGreatDoor
