/-
  The chapter's first example: a ping is no first frame. And the statement CoreNobody.
-/
import Derived.Test.YtfloijkagfabpaaGreatDoorCor7
import Derived.Deep.OwnRows
namespace Go.Proofs.YtfloijkagfabpaaGreatDoor
set_option linter.unusedSimpArgs false
set_option linter.unusedVariables false
set_option linter.unusedSectionVars false
open Go.ChangeShapes Go.WideShapes Go.ChangeAt Go.RowKit Go.Deep Go.Shelf

set_option maxRecDepth 100000 in
theorem law39_conf (w : World) : Calls Tryz.prog 10 #[] w fun e w' => e = .returned (confV 2 9 1000 3 3 8000) ∧ ∃ j, w' = w.more j := by
  have hst : StructTy Tryz.prog 32 6 := ⟨_, Tryz.underlying32, rfl, by kernel_rfl⟩
  go_enter Tryz.func10, Tryz.ntmps10
  go_wp2_with fail
  refine bodyPost_ret (res_cell rfl hst rfl blk rfl) rfl ⟨rfl, Below.junk bel⟩
theorem slB_zero {w : World} {g : Nat} {t : TypeId} (h : Blk w g t #[.int .u8 0, .int .u8 0, .int .u8 0, .int .u8 0, .int .u8 0, .int .u8 0, .int .u8 0, .int .u8 0]) : SlB w w.heap.size (some ⟨g, 0, none⟩) (List.replicate 8 0) :=
  (SlR.of_blk (c := fun (x : UInt8) => [.int .u8 (x.toNat : Int)]) (size := 1) (R := byteIs) (l := List.replicate 8 0) h rfl (fun _ _ => rfl) (fun x hx => rfl)).mono h.lt (fun _ _ _ h => h)
theorem info_u8 : (Tryz.prog.info? 5).map (fun i => (i.zero, i.size, i.bytes)) = some (some (.int .u8 0), 1, 1) := by kernel_rfl
abbrev bytes8 : Array Value := #[.int .u8 0, .int .u8 0, .int .u8 0, .int .u8 0, .int .u8 0, .int .u8 0, .int .u8 0, .int .u8 0]
theorem made8 : madeCells #[.int .u8 0] 8 = bytes8 := by kernel_rfl
set_option maxHeartbeats 8000000 in
set_option maxRecDepth 100000 in
theorem law39_alive (w : World) : Calls Tryz.prog 8 #[] w fun e w' => e = .returned (.bool true) ∧ ∃ j, w' = w.more j := by
  have HCF := Lib.hid law39_conf
  have HN : Hid (∀ W, Calls Tryz.prog 9 #[confV 2 9 1000 3 3 8000] W (NewC 2 9 1000 3 3 8000 W)) := core_New 2 9 1000 3 3 8000 (by decide)
  unfold NewC at HN
  have hmk : ∀ W, (Instr.makeSlice 54 (.int .i64 8) (.int .i64 8)).run Tryz.prog W = .ok (.slice (some ⟨W.heap.size, 0, none⟩) 8 8) (W.alloc (.cells bytes8 5)) := fun W => by
    rw [← made8]
    exact run_make_row' (P := Tryz.prog) 54 5 (.int .u8 0) 1 Tryz.underlying54 info_u8 rfl .i64 .i64 8 (by omega) (by omega) W
  go_enter Tryz.func8, Tryz.ntmps8
  go_wp2_with (go_at_call 10; (with_reducible refine (HCF.out _).mono ?_); rintro e w' ⟨rfl, j0, rfl⟩)
  refine (HN.out _).mono ?_
  rintro e w' ⟨c, a0, d0, s0, k0, q0, a1, d1, s1, k1, q1, al, rfl, hwc, hbc, -, hba, h01, h02, j, rfl⟩
  have HBC := Lib.hid hbc
  have HBA := Lib.hid hba
  have HWC : Hid (w.heap.size < c) := by show _ < _; simp at hwc; omega
  have HCA : Hid (c < a1) := by show _ < _; omega
  clear hbc hba hwc h01 h02
  have hg1 := HBC.out.lt
  have hg2 := HBA.out.lt
  have HG1 := Lib.hid hg1
  have HG2 := Lib.hid hg2
  clear hg1 hg2
  go_wp2_with fail
  simp only [World.more_more, World.size_more] at HBC HBA HG1 HG2
  obtain ⟨ws, hws⟩ : ∃ ws, ws = w.more ⟨j0.heap ++ j.heap, j.drawn⟩ := ⟨_, rfl⟩
  rw [← hws] at HBC HBA
  have hss : w.heap.size + (j0.heap.size + j.heap.size) = ws.heap.size := by rw [hws]; simp
  have hbs : Below w.heap.size w ws := by rw [hws]; exact bel
  rw [← hws]
  try rw [hss]
  have HBS := Lib.hid hbs
  clear hws hss hbs
  have hc2 := HBC.out.alloc (.cells bytes8 5)
  have ha2 := HBA.out.alloc (.cells bytes8 5)
  refine (core_Look_ping c 2 9 1000 3 3 8000 a0 d0 s0 k0 q0 a1 d1 s1 k1 q1 al (some ⟨ws.heap.size, 0, none⟩) 8 (List.replicate 8 0) (by simp) _ hc2 ha2 HCA.out (slB_zero (Blk.new ws 5 bytes8))).mono ?_
  clear hc2 ha2
  rintro e w1 ⟨x, a', k', rfl, hxx, hfl, h32, h43, hf43, hg⟩
  have HFL := Lib.hid hfl
  have HG : Hid (Below w.heap.size w w1) := (HBS.out.trans (Below.mono (B := ws.heap.size) bel HBS.out.size)).trans (hg.below (fun q hq => by have := HWC.out; omega) (by have := HBS.out.size; simp; omega))
  have HH := Lib.hid (And.intro h32 (And.intro h43 hf43))
  have HX : Hid (w.heap.size ≤ x) := by
    show _ ≤ _
    have := HBS.out.size
    simp at hxx
    omega
  clear hxx hfl h32 h43 hf43 hg
  go_wp2_with fail
  refine (core_Ask_first c x 6 0 0 false a' 8 k' (by decide) (by decide) 0 0 0 0 16384 0 false w1 HFL.out HH.out.1 HH.out.2.1 HH.out.2.2).mono ?_
  rintro e w2 ⟨rfl, hg2⟩
  have HG2 : Hid (Below w.heap.size w w2) := HG.out.trans (hg2.below (fun q hq => by have := HX.out; omega) HG.out.size)
  clear hg2
  go_wp2_with fail
  go_ret
  exact ⟨rfl, HG2.out.junk⟩
end Go.Proofs.YtfloijkagfabpaaGreatDoor
