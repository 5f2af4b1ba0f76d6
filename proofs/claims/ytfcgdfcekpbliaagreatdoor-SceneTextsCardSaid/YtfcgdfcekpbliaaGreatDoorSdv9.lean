/-
  Scenarios: the document's road back from a text.
-/
import Derived.Test.YtfcgdfcekpbliaaGreatDoorSdv7
import Derived.Test.YtfcgdfcekpbliaaGreatDoorSdv8
namespace Go.Proofs.YtfcgdfcekpbliaaGreatDoor
set_option linter.unusedSimpArgs false
set_option linter.unusedVariables false
set_option linter.unusedSectionVars false
open Go.ChangeShapes Go.WideShapes Go.ChangeAt Go.RowKit Go.Deep Go.Shelf

set_option maxHeartbeats 8000000 in
set_option maxRecDepth 100000 in
theorem ref51_Read (t : List UInt8) (ht : t.length ≤ 3000) (w : World) :
    Calls Tryz.prog 14 #[bstr t] w (ReadD (refScn t) w) := by
  obtain ⟨L, ok, hL⟩ : ∃ L ok, linesF t = (L, ok) := ⟨_, _, rfl⟩
  by_cases hbad : ok = false ∨ L.length < 2
  · have hr : refScn t = (zScn, false) := by
      unfold refScn
      rw [hL]
      simp only
      rw [if_pos hbad]
    rw [hr]
    have hll := linesF_short ht
    rw [hL] at hll
    have hlen := hll.1
    have HLI : Hid (∀ o, Calls Tryz.prog 37 #[bstr t] (w.alloc o) fun e w' => ∃ a cap, e = .returned (.tuple #[.slice a L.length cap, .bool ok]) ∧ SlX w' w'.heap.size a L ∧ Below (w.alloc o).heap.size (w.alloc o) w') := fun o => by
      have := ref04_Lines t (w.alloc o) (by omega)
      rw [hL] at this
      exact this
    clear hr hll hL
    simp only at hlen
    go_enter Tryz.func14, Tryz.ntmps14
    go_wp2_with fail
    refine (HLI.out _).mono ?_
    rintro e w1 ⟨aL, cL, rfl, -, hb1⟩
    have HT1 : Hid (Blk w1 w.heap.size QdT zPd) := (Blk.new w QdT zPd).below hb1 (by simp)
    have HB1 : Hid (Below w.heap.size w w1) := Below.trans bel (hb1.mono (by simp))
    have r0 : w1.cell? ⟨w.heap.size, 0, none⟩ = some (.int .i64 0) := HT1.out.cell 0
    have r1 : w1.cell? ⟨w.heap.size, 1, none⟩ = some (.slice none 0 0) := HT1.out.cell 1
    have r2 : w1.cell? ⟨w.heap.size, 2, none⟩ = some (.int .i64 0) := HT1.out.cell 2
    have r3 : w1.cell? ⟨w.heap.size, 3, none⟩ = some (.int .i64 0) := HT1.out.cell 3
    have s0 := HT1.out.frozen 0
    have s1 := HT1.out.frozen 1
    have s2 := HT1.out.frozen 2
    have s3 := HT1.out.frozen 3
    have rl := HT1.out.lt
    clear hb1
    cases ok
    · go_wp2_with fail
      refine bodyPost_ret (res_cell_tmp rfl st_Qd rfl (HT1.out.put4) rfl rfl) rfl ?_
      exact ⟨none, 0, rfl, .nil, fun x hx => by simp [zScn] at hx, below_four HB1.out (Nat.le_refl _)⟩
    · have hlt : (L.length : Int) < 2 := by have := hbad.resolve_left (by simp); omega
      have hltn : L.length < 2 := hbad.resolve_left (by simp)
      go_wp2_with fail
      refine bodyPost_ret (res_cell_tmp rfl st_Qd rfl (HT1.out.put4) rfl rfl) rfl ?_
      exact ⟨none, 0, rfl, .nil, fun x hx => by simp [zScn] at hx, below_four HB1.out (Nat.le_refl _)⟩
  · obtain ⟨hok, hl2⟩ := not_or.1 hbad
    obtain rfl : ok = true := by cases ok <;> simp_all
    have hl2 : 2 ≤ L.length := by omega
    by_cases hf : L[0] = firstS 1
    · exact ref51_Read1 t ht L hL hl2 hf w
    · exact ref51_Read0 t ht L hL hl2 hf w
end Go.Proofs.YtfcgdfcekpbliaaGreatDoor
