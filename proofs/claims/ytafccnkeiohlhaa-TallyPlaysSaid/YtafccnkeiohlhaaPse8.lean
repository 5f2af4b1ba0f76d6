/-
  The laws PseudoRequests and PseudoResponses.
-/
import Derived.Test.YtafccnkeiohlhaaPsePlain
import Derived.Test.YtafccnkeiohlhaaQuiet
namespace Go.Proofs.Ytafccnkeiohlhaa
open Go.ChangeShapes Go.WideShapes Go.ChangeAt Go.RowKit Go.Deep Go.Sort

set_option maxRecDepth 100000 in
theorem law27_own (h : Hd) (w : World) :
    Calls Try.prog 44 #[hdVal h] w fun e w' => e = .returned (hdVal h) ∧ Below w.heap.size w w' := by
  go_enter Try.func44, Try.ntmps44
  go_wp2_with fail
  refine bodyPost_ret (v := hdVal h) (res_cell (n := 5) (g := w.heap.size + 1) (t := 61) (cs := #[bstr h.method, bstr h.scheme, bstr h.authority, bstr h.path, .int .i64 h.status]) rfl st_RefHead rfl (Blk.at_ _ _ _ ?_) rfl) rfl ?_
  · simp
  · exact ⟨rfl, ((Below.refl _ _).alloc (Nat.le_refl _) _).alloc (by simp) _⟩
theorem alive27_a : progReq [⟨[58, 109, 101, 116, 104, 111, 100], [71, 69, 84], false⟩, ⟨[58, 115, 99, 104, 101, 109, 101], [104, 116, 116, 112], false⟩, ⟨[58, 112, 97, 116, 104], [47], false⟩] = (⟨[71, 69, 84], [104, 116, 116, 112], [], [47], 0⟩, true) := by rw [progReq_eq]; rfl
theorem alive27_b : progRes [⟨[97], [], false⟩, ⟨[58, 115, 116, 97, 116, 117, 115], [50, 48, 48], false⟩] = (noHd, false) := by rw [progRes_eq]; rfl
set_option maxRecDepth 100000 in
theorem law27_alive (w : World) : Calls Try.prog 41 #[] w fun e w' => e = .returned (.bool true) ∧ Below w.heap.size w w' := by
  go_enter Try.func41, Try.ntmps41
  go_wp2_with fail
  have s1 : SlF (w.alloc (.cells #[bstr [58, 109, 101, 116, 104, 111, 100], bstr [71, 69, 84], .bool false, bstr [58, 115, 99, 104, 101, 109, 101], bstr [104, 116, 116, 112], .bool false, bstr [58, 112, 97, 116, 104], bstr [47], .bool false] 33)) (w.heap.size + 1) (some ⟨w.heap.size, 0, none⟩) [⟨[58, 109, 101, 116, 104, 111, 100], [71, 69, 84], false⟩, ⟨[58, 115, 99, 104, 101, 109, 101], [104, 116, 116, 112], false⟩, ⟨[58, 112, 97, 116, 104], [47], false⟩] := slF_new (Blk.new _ _ _) rfl (by decide)
  refine (pseudo_Request (some ⟨w.heap.size, 0, none⟩) 3 (w.heap.size + 1) [⟨[58, 109, 101, 116, 104, 111, 100], [71, 69, 84], false⟩, ⟨[58, 115, 99, 104, 101, 109, 101], [104, 116, 116, 112], false⟩, ⟨[58, 112, 97, 116, 104], [47], false⟩] _ (by decide) (by simp) s1).mono ?_
  rintro e w1 ⟨rfl, hb1⟩
  rw [alive27_a]
  have z1 := hb1.size
  simp at z1
  go_wp2_with fail
  have s2 : SlF ((w1.alloc (.cells #[bstr [71, 69, 84], bstr [104, 116, 116, 112], bstr [], bstr [47], .int .i64 0] 58)).alloc (.cells #[bstr [97], bstr [], .bool false, bstr [58, 115, 116, 97, 116, 117, 115], bstr [50, 48, 48], .bool false] 33)) (w1.heap.size + 2) (some ⟨w1.heap.size + 1, 0, none⟩) [⟨[97], [], false⟩, ⟨[58, 115, 116, 97, 116, 117, 115], [50, 48, 48], false⟩] := slF_new (Blk.at_ _ _ _ (by simp)) rfl (by decide)
  refine (pseudo_Response (some ⟨w1.heap.size + 1, 0, none⟩) 2 (w1.heap.size + 2) [⟨[97], [], false⟩, ⟨[58, 115, 116, 97, 116, 117, 115], [50, 48, 48], false⟩] _ (by decide) (by simp) s2 (valF_le s2)).mono ?_
  rintro e w2 ⟨rfl, hb2⟩
  rw [alive27_b]
  have z2 := hb2.size
  simp at z2
  obtain ⟨⟨q0, q1, q2, q3, q4⟩, _, hz⟩ := (((Blk.new w1 58 #[bstr [71, 69, 84], bstr [104, 116, 116, 112], bstr [], bstr [47], .int .i64 0]).alloc _).below hb2 (by simp <;> omega)).all5
  go_wp2_with fail
  go_ret
  refine ⟨rfl, ?_⟩
  exact ((((((Below.refl w.heap.size w).alloc (Nat.le_refl _) _).trans (hb1.mono (by simp))).alloc (by omega) _).alloc (by simp; omega) _).trans (hb2.mono (by simp; omega))).alloc (by omega) _

theorem small_of {l : List Fd} (h : largeF l 60 200 = false) : l.length ≤ 60 := by
  simp only [largeF, Bool.or_eq_false_iff, decide_eq_false_iff_not] at h
  omega
set_option maxRecDepth 100000 in
theorem pseudoRequests_law (a : Option Addr) (cap : Nat) (l : List Fd) (w : World) (_hc : l.length ≤ cap) (hm : l.length ≤ maxLen) (hs : SlF w w.heap.size a l) :
    Calls Try.prog 9 #[.slice a l.length cap] w fun e w' => e = .returned (.bool true) ∧ Below w.heap.size w w' := by
  cases hL : largeF l 60 200 with
  | true =>
    go_enter Try.func9, Try.ntmps9
    go_wp2_with fail
    refine (ref21_Large _ _ _ _ _ _ _ hm hs).mono ?_
    rintro e w1 ⟨rfl, rfl⟩
    rw [hL]
    go_wp2_with fail
    refine (law27_alive _).mono ?_
    rintro e w1 ⟨rfl, hb⟩
    go_wp2_with fail
    go_ret
    exact ⟨rfl, hb⟩
  | false =>
    have hlen := small_of hL
    go_enter Try.func9, Try.ntmps9
    go_wp2_with fail
    refine (ref21_Large _ _ _ _ _ _ _ hm hs).mono ?_
    rintro e w1 ⟨rfl, rfl⟩
    rw [hL]
    go_wp2_with fail
    refine (pseudo_Request a cap w.heap.size l w hm (Nat.le_refl _) hs).mono ?_
    rintro e w1 ⟨rfl, hb1⟩
    rw [progReq_eq]
    generalize hp : refReq l = p
    have HP := Lib.hid hp
    clear hp
    obtain ⟨h, t⟩ := p
    have z1 := hb1.size
    obtain ⟨X, hX⟩ : ∃ X, X = w1.alloc (.cells #[bstr h.method, bstr h.scheme, bstr h.authority, bstr h.path, .int .i64 h.status] 58) := ⟨_, rfl⟩
    have BX : Blk X w1.heap.size 58 #[bstr h.method, bstr h.scheme, bstr h.authority, bstr h.path, .int .i64 h.status] := hX ▸ Blk.new _ _ _
    have hbX : Below w.heap.size w X := hX ▸ hb1.alloc z1 _
    have HX := Lib.hid hX
    clear hX
    go_wp2_with fail
    rw [← HX.out]
    have zX := hbX.size
    refine (ref27_Request a cap w.heap.size l X (by omega) zX (hs.below hbX (Nat.le_refl _))).mono ?_
    rintro e w2 ⟨rfl, hb2⟩
    rw [HP.out]
    have z2 := hb2.size
    have BX2 := BX.below hb2 BX.lt
    obtain ⟨Y, hY⟩ : ∃ Y, Y = w2.alloc (.cells #[bstr h.method, bstr h.scheme, bstr h.authority, bstr h.path, .int .i64 h.status] 61) := ⟨_, rfl⟩
    have BY : Blk Y w2.heap.size 61 #[bstr h.method, bstr h.scheme, bstr h.authority, bstr h.path, .int .i64 h.status] := hY ▸ Blk.new _ _ _
    have hY2 : Below X.heap.size X Y := hY ▸ hb2.alloc z2 _
    have BX3 : Blk Y w1.heap.size 58 #[bstr h.method, bstr h.scheme, bstr h.authority, bstr h.path, .int .i64 h.status] := hY ▸ BX2.alloc _
    have hbY := hbX.trans (hY2.mono zX)
    have HY := Lib.hid hY
    clear hY BX BX2
    obtain ⟨⟨q0, q1, q2, q3, q4⟩, _, _⟩ := BX3.all5
    obtain ⟨⟨r0, r1, r2, r3, r4⟩, _, _⟩ := BY.all5
    go_wp2_with fail
    rw [← HY.out]
    have c0 := cells_regrown _ _ _ q0
    have c1 := cells_regrown _ _ _ q1
    have c2 := cells_regrown _ _ _ q2
    have c3 := cells_regrown _ _ _ q3
    have c4 := cells_regrown _ _ _ q4
    have d0 := cells_regrown _ _ _ r0
    have d1 := cells_regrown _ _ _ r1
    have d2 := cells_regrown _ _ _ r2
    have d3 := cells_regrown _ _ _ r3
    have d4 := cells_regrown _ _ _ r4
    refine wp_region_quiet_below (by kernel_rfl) (by kernel_rfl) ?_
    repeat (quiet_step (first
      | (go_at_call 44; exact met _ (law27_own h _))
      | (go_at_call 41; exact met _ (law27_alive _))))
    refine wpQuiet_nil ?_
    intro w3 hw3
    obtain ⟨p, rfl⟩ := hw3
    have hbp := below_regrown Y p.d p.os
    go_wp2_with fail
    go_ret
    exact ⟨rfl, hbY.trans (hbp.mono hbY.size)⟩
set_option maxRecDepth 100000 in
theorem pseudoResponses_law (a : Option Addr) (cap : Nat) (l : List Fd) (w : World) (_hc : l.length ≤ cap) (hm : l.length ≤ maxLen) (hs : SlF w w.heap.size a l) :
    Calls Try.prog 10 #[.slice a l.length cap] w fun e w' => e = .returned (.bool true) ∧ Below w.heap.size w w' := by
  cases hL : largeF l 60 200 with
  | true =>
    go_enter Try.func10, Try.ntmps10
    go_wp2_with fail
    refine (ref21_Large _ _ _ _ _ _ _ hm hs).mono ?_
    rintro e w1 ⟨rfl, rfl⟩
    rw [hL]
    go_wp2_with fail
    refine (law27_alive _).mono ?_
    rintro e w1 ⟨rfl, hb⟩
    go_wp2_with fail
    go_ret
    exact ⟨rfl, hb⟩
  | false =>
    have hlen := small_of hL
    go_enter Try.func10, Try.ntmps10
    go_wp2_with fail
    refine (ref21_Large _ _ _ _ _ _ _ hm hs).mono ?_
    rintro e w1 ⟨rfl, rfl⟩
    rw [hL]
    go_wp2_with fail
    refine (pseudo_Response a cap w.heap.size l w hm (Nat.le_refl _) hs (valF_le hs)).mono ?_
    rintro e w1 ⟨rfl, hb1⟩
    rw [progRes_eq]
    generalize hp : refRes l = p
    have HP := Lib.hid hp
    clear hp
    obtain ⟨h, t⟩ := p
    have z1 := hb1.size
    obtain ⟨X, hX⟩ : ∃ X, X = w1.alloc (.cells #[bstr h.method, bstr h.scheme, bstr h.authority, bstr h.path, .int .i64 h.status] 58) := ⟨_, rfl⟩
    have BX : Blk X w1.heap.size 58 #[bstr h.method, bstr h.scheme, bstr h.authority, bstr h.path, .int .i64 h.status] := hX ▸ Blk.new _ _ _
    have hbX : Below w.heap.size w X := hX ▸ hb1.alloc z1 _
    have HX := Lib.hid hX
    clear hX
    go_wp2_with fail
    rw [← HX.out]
    have zX := hbX.size
    refine (ref27_Response a cap w.heap.size l X hm zX (hs.below hbX (Nat.le_refl _))).mono ?_
    rintro e w2 ⟨rfl, hb2⟩
    rw [HP.out]
    have z2 := hb2.size
    have BX2 := BX.below hb2 BX.lt
    obtain ⟨Y, hY⟩ : ∃ Y, Y = w2.alloc (.cells #[bstr h.method, bstr h.scheme, bstr h.authority, bstr h.path, .int .i64 h.status] 61) := ⟨_, rfl⟩
    have BY : Blk Y w2.heap.size 61 #[bstr h.method, bstr h.scheme, bstr h.authority, bstr h.path, .int .i64 h.status] := hY ▸ Blk.new _ _ _
    have hY2 : Below X.heap.size X Y := hY ▸ hb2.alloc z2 _
    have BX3 : Blk Y w1.heap.size 58 #[bstr h.method, bstr h.scheme, bstr h.authority, bstr h.path, .int .i64 h.status] := hY ▸ BX2.alloc _
    have hbY := hbX.trans (hY2.mono zX)
    have HY := Lib.hid hY
    clear hY BX BX2
    obtain ⟨⟨q0, q1, q2, q3, q4⟩, _, _⟩ := BX3.all5
    obtain ⟨⟨r0, r1, r2, r3, r4⟩, _, _⟩ := BY.all5
    go_wp2_with fail
    rw [← HY.out]
    have c0 := cells_regrown _ _ _ q0
    have c1 := cells_regrown _ _ _ q1
    have c2 := cells_regrown _ _ _ q2
    have c3 := cells_regrown _ _ _ q3
    have c4 := cells_regrown _ _ _ q4
    have d0 := cells_regrown _ _ _ r0
    have d1 := cells_regrown _ _ _ r1
    have d2 := cells_regrown _ _ _ r2
    have d3 := cells_regrown _ _ _ r3
    have d4 := cells_regrown _ _ _ r4
    refine wp_region_quiet_below (by kernel_rfl) (by kernel_rfl) ?_
    repeat (quiet_step (first
      | (go_at_call 44; exact met _ (law27_own h _))
      | (go_at_call 41; exact met _ (law27_alive _))))
    refine wpQuiet_nil ?_
    intro w3 hw3
    obtain ⟨p, rfl⟩ := hw3
    have hbp := below_regrown Y p.d p.os
    go_wp2_with fail
    go_ret
    exact ⟨rfl, hbY.trans (hbp.mono hbY.size)⟩
end Go.Proofs.Ytafccnkeiohlhaa
