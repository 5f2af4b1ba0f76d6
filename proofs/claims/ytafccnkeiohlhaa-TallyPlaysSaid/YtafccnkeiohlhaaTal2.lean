/-
  A tally: what comes behind the fields at first; data.
-/
import Derived.Test.YtafccnkeiohlhaaTal1
namespace Go.Proofs.Ytafccnkeiohlhaa
open Go.ChangeShapes Go.WideShapes Go.ChangeAt Go.RowKit Go.Deep Go.Shelf

def flowF (t : Ta) (m : Ms) : Ta := if emptyF t m = true then { t with phase := 1, may := 1 } else if m.told = true ∧ tunnelF t m = false then { t with phase := 1, may := 2, left := m.n } else { t with phase := 1 }

set_option maxHeartbeats 2000000 in
set_option maxRecDepth 100000 in
theorem tally_flow (t : Ta) (m : Ms) (w : World) :
    Calls Try.prog 97 #[taVal t, msVal m] w fun e w' => e = .returned (taVal (flowF t m)) ∧ Below w.heap.size w w' := by
  have T1 : ∀ W, Calls Try.prog 101 #[.agg #[.bool t.answers, bstr t.method, .int .i64 1, .int .i64 t.may, .int .i64 t.left], msVal m] W fun e w' => e = .returned (.bool (emptyF t m)) ∧ Below W.heap.size W w' := fun W => tally_empty { t with phase := 1 } m W
  have T2 : ∀ W, Calls Try.prog 102 #[.agg #[.bool t.answers, bstr t.method, .int .i64 1, .int .i64 t.may, .int .i64 t.left], msVal m] W fun e w' => e = .returned (.bool (tunnelF t m)) ∧ Below W.heap.size W w' := fun W => tally_tunnel { t with phase := 1 } m W
  have HF : Hid (flowF t m = if emptyF t m = true then { t with phase := 1, may := 1 } else if m.told = true ∧ tunnelF t m = false then { t with phase := 1, may := 2, left := m.n } else { t with phase := 1 }) := rfl
  generalize emptyF t m = o1 at T1 HF
  generalize tunnelF t m = o2 at T2 HF
  have H1 := Lib.hid T1
  have H2 := Lib.hid T2
  clear T1 T2
  obtain ⟨mm, mst, mn, mtold⟩ := m
  go_enter Try.func97, Try.ntmps97
  go_wp2_with fail
  refine (H1.out _).mono ?_
  rintro e w1 ⟨rfl, hb1⟩
  have C0 : Blk w1 w.heap.size TaT #[.bool t.answers, bstr t.method, .int .i64 1, .int .i64 t.may, .int .i64 t.left] := (((Blk.new w TaT #[.bool t.answers, bstr t.method, .int .i64 1, .int .i64 t.may, .int .i64 t.left]).alloc (.cells #[bstr mm, .int .i64 mst, .int .i64 mn, .bool mtold] 68)).alloc (.cells #[.bool false, bstr [], .int .i64 0, .int .i64 0, .int .i64 0] TaT)).below hb1 (by simp; omega)
  have C1 : Blk w1 (w.heap.size + 1) 68 #[bstr mm, .int .i64 mst, .int .i64 mn, .bool mtold] := ((Blk.at_ (w.alloc (.cells #[.bool t.answers, bstr t.method, .int .i64 1, .int .i64 t.may, .int .i64 t.left] TaT)) 68 #[bstr mm, .int .i64 mst, .int .i64 mn, .bool mtold] (by simp)).alloc (.cells #[.bool false, bstr [], .int .i64 0, .int .i64 0, .int .i64 0] TaT)).below hb1 (by simp)
  have C2 : Blk w1 (w.heap.size + 1 + 1) TaT #[.bool false, bstr [], .int .i64 0, .int .i64 0, .int .i64 0] := (Blk.at_ ((w.alloc (.cells #[.bool t.answers, bstr t.method, .int .i64 1, .int .i64 t.may, .int .i64 t.left] TaT)).alloc (.cells #[bstr mm, .int .i64 mst, .int .i64 mn, .bool mtold] 68)) TaT #[.bool false, bstr [], .int .i64 0, .int .i64 0, .int .i64 0] (by simp)).below hb1 (by simp)
  have hbw1 : Below w.heap.size w w1 := ((((Below.refl w.heap.size w).alloc (Nat.le_refl _) _).alloc (by simp) _).alloc (by simp; omega) _).trans (hb1.mono (by simp; omega))
  have hz := C2.lt
  obtain ⟨⟨a0, a1, a2, a3, a4⟩, ⟨fa0, fa1, fa2, fa3, fa4⟩, _⟩ := C0.all5
  obtain ⟨⟨c0, c1, c2, c3, c4⟩, ⟨fc0, fc1, fc2, fc3, fc4⟩, _⟩ := C2.all5
  obtain ⟨⟨b0, b1, b2, b3⟩, _, _⟩ := C1.all4
  clear hb1
  cases o1 with
  | true =>
    have HR : Hid (flowF t ⟨mm, mst, mn, mtold⟩ = { t with phase := 1, may := 1 }) := HF.out.trans (if_pos rfl)
    go_wp2_with fail
    refine bodyPost_ret (res_cell rfl st_Tally rfl (C2.far (show w.heap.size + 1 + 1 ≠ w.heap.size by omega) _).put5 rfl) rfl ⟨by rw [HR.out], below_put5 (hbw1.setCell (p := ⟨w.heap.size, 3, none⟩) (Nat.le_refl _) _) (by omega)⟩
  | false =>
    cases mtold with
    | false =>
      have HR : Hid (flowF t ⟨mm, mst, mn, false⟩ = { t with phase := 1 }) := HF.out
      go_wp2_with fail
      refine bodyPost_ret (res_cell rfl st_Tally rfl C2.put5 rfl) rfl ⟨by rw [HR.out], below_put5 hbw1 (by omega)⟩
    | true =>
      go_wp2_with fail
      refine (H2.out _).mono ?_
      rintro e w2 ⟨rfl, hb2⟩
      have D0 := C0.below hb2 C0.lt
      have D1 := C1.below hb2 C1.lt
      have D2 := C2.below hb2 C2.lt
      have hbw2 := hbw1.trans (hb2.mono hbw1.size)
      clear a0 a1 a2 a3 a4 fa0 fa1 fa2 fa3 fa4 c0 c1 c2 c3 c4 fc0 fc1 fc2 fc3 fc4 b0 b1 b2 b3 hb2 C0 C1 C2
      obtain ⟨⟨a0, a1, a2, a3, a4⟩, ⟨fa0, fa1, fa2, fa3, fa4⟩, _⟩ := D0.all5
      obtain ⟨⟨c0, c1, c2, c3, c4⟩, ⟨fc0, fc1, fc2, fc3, fc4⟩, _⟩ := D2.all5
      obtain ⟨⟨b0, b1, b2, b3⟩, _, _⟩ := D1.all4
      cases o2 with
      | true =>
        have HR : Hid (flowF t ⟨mm, mst, mn, true⟩ = { t with phase := 1 }) := HF.out
        go_wp2_with fail
        refine bodyPost_ret (res_cell rfl st_Tally rfl D2.put5 rfl) rfl ⟨by rw [HR.out], below_put5 hbw2 (by omega)⟩
      | false =>
        have HR : Hid (flowF t ⟨mm, mst, mn, true⟩ = { t with phase := 1, may := 2, left := mn }) := HF.out
        go_wp2_with fail
        go_region_held3 (fun w' => w'.cell? ⟨w.heap.size + 1, 2, none⟩ = some (.int .i64 mn)) (go_keep) (fail)
        all_goals
          go_wp2_with fail
          have hne : w.heap.size + 1 + 1 ≠ w.heap.size := by omega
          refine bodyPost_ret (res_cell rfl st_Tally rfl (Blk.drew (Blk.put5 (Blk.far (p := ⟨w.heap.size, 4, none⟩) (Blk.far (p := ⟨w.heap.size, 3, none⟩) D2 hne _) hne _))) rfl) rfl ⟨by rw [HR.out], (below_put5 ((hbw2.setCell (p := ⟨w.heap.size, 3, none⟩) (Nat.le_refl _) _).setCell (p := ⟨w.heap.size, 4, none⟩) (Nat.le_refl _) _) (by omega)).drew⟩
