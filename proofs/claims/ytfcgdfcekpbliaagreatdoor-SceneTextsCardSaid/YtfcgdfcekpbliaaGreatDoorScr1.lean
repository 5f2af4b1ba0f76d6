/-
  Scenarios: which may be: the program's.
-/
import Derived.Test.YtfcgdfcekpbliaaGreatDoorStp3
import Derived.Test.YtfcgdfcekpbliaaGreatDoorMk
namespace Go.Proofs.YtfcgdfcekpbliaaGreatDoor
set_option linter.unusedSimpArgs false
set_option linter.unusedVariables false
set_option linter.unusedSectionVars false
open Go.ChangeShapes Go.WideShapes Go.ChangeAt Go.RowKit Go.Deep Go.Shelf

theorem wait_of {x : St} (h : stR x = true) : 0 ≤ waitS x ∧ waitS x ≤ 16 := by
  unfold waitS
  split
  · rename_i hk
    unfold stR at h
    simp only [hk, Int.reduceEq, reduceIte, Bool.and_eq_true, inR_iff] at h
    exact h.2.2
  · omega
theorem waits_take {xs : List St} {k : Nat} (h : k < xs.length) : waitsS (xs.take (k + 1)) = waitsS (xs.take k) + waitS xs[k] := by
  unfold waitsS
  rw [List.take_succ_eq_append_getElem h, List.map_append, List.sum_append]
  simp only [List.map_cons, List.map_nil, List.sum_cons, List.sum_nil, Int.add_zero]
theorem waits_bound : ∀ xs : List St, xs.all stR = true → 0 ≤ waitsS xs ∧ waitsS xs ≤ 16 * xs.length
  | [], _ => by simp [waitsS]
  | x :: r, h => by
    simp only [List.all_cons, Bool.and_eq_true] at h
    have h1 := wait_of h.1
    have ih := waits_bound r h.2
    have e : waitsS (x :: r) = waitS x + waitsS r := by simp [waitsS]
    rw [e, List.length_cons]
    omega
theorem stIs.low {w W : World} {x : St} {cs : List Value} (h : stIs w x cs) (hW : Below w.heap.size w W) : stIs W x cs := by
  obtain ⟨fa, fc, sa, sc, e, h1, h2⟩ := h
  exact ⟨fa, fc, sa, sc, e, (h1.below hW (Nat.le_refl _)).mono hW.size (fun _ _ _ h => h), (h2.below hW (Nat.le_refl _)).mono hW.size (fun _ _ _ h => h)⟩
theorem SlSt.low {w W : World} {a : Option Addr} {xs : List St} (h : SlSt w w w.heap.size a xs) (hW : Below w.heap.size w W) : SlSt W W W.heap.size a xs :=
  (SlR.below h hW (Nat.le_refl _)).mono hW.size (fun _ _ _ h => h.low hW)
/-- The rows of a step are no longer than a walk can hold. -/
def StSm (x : St) : Prop := x.fs.length ≤ 1000000 ∧ x.ss.length ≤ 100000
set_option maxHeartbeats 16000000 in
set_option maxRecDepth 100000 in
theorem spec_Right (sd wk ws : Int) (xs : List St) (hsm : ∀ x ∈ xs, StSm x) (hl : xs.length ≤ 1000000) (a : Option Addr) (c : Nat) (w : World) (hS : SlSt w w w.heap.size a xs) :
    Calls Tryz.prog 16 #[.agg #[.int .i64 sd, .slice a xs.length c, .int .i64 wk, .int .i64 ws]] w fun e w' => e = .returned (.bool (rightScn ⟨sd, xs, wk, ws⟩)) ∧ ∃ j, w' = w.more j := by
  obtain ⟨R, hR⟩ : ∃ R, R = rightScn ⟨sd, xs, wk, ws⟩ := ⟨_, rfl⟩
  rw [← hR]
  have HRR : Hid (R = (decide (xs.length ≤ 20) && ((decide (sd = 0) || decide (sd = 1)) && (xs.all stR && (decide (waitsS xs ≤ 40) && (inR wk 1 26 && inR ws 1 topS)))))) := hR
  have HSM := Lib.hid hsm
  have HSX := Lib.hid hS
  have HWI : Hid (∀ W, Calls Tryz.prog 42 #[.int .i64 wk, .int .i64 1, .int .i64 26] W fun e w' => e = .returned (.bool (inR wk 1 26)) ∧ W = w') := fun W => spec_within wk 1 26 W
  have HWS : Hid (∀ W, Calls Tryz.prog 43 #[.int .i64 ws] W fun e w' => e = .returned (.bool (inR ws 1 topS)) ∧ W = w') := fun W => spec_stream ws W
  generalize inR wk 1 26 = Q1 at HRR HWI
  generalize inR ws 1 topS = Q2 at HRR HWS
  clear hR hsm hS
  by_cases hln : xs.length ≤ 20
  case neg =>
    obtain rfl : R = false := by rw [HRR.out, decide_eq_false hln]; rfl
    have hln2 : (20 : Int) < (xs.length : Int) := by omega
    clear HRR HSM HSX
    go_enter Tryz.func16, Tryz.ntmps16
    go_wp2_with fail
    go_ret
    exact ⟨rfl, Below.junk bel⟩
  have hln2 : ¬ (20 : Int) < (xs.length : Int) := by omega
  by_cases hsd : sd = 0 ∨ sd = 1
  case neg =>
    obtain ⟨h0, h1⟩ := not_or.1 hsd
    obtain rfl : R = false := by rw [HRR.out, decide_eq_false h0, decide_eq_false h1]; simp
    have h0b : (sd == 0) = false := by simp [h0]
    have h1b : (sd == 1) = false := by simp [h1]
    have h0c : (sd != 0) = true := by simp [h0]
    have h1c : (sd != 1) = true := by simp [h1]
    clear HRR HSM HSX
    go_enter Tryz.func16, Tryz.ntmps16
    go_wp2_with fail
    go_ret
    exact ⟨rfl, Below.junk bel⟩
  have HR2 : Hid (R = (xs.all stR && (decide (waitsS xs ≤ 40) && (Q1 && Q2)))) := by
    show _ = _
    rw [HRR.out, decide_eq_true hln]
    rcases hsd with rfl | rfl <;> rfl
  clear HRR
  rcases hsd with rfl | rfl
  · go_enter Tryz.func16, Tryz.ntmps16
    go_wp2_with fail
    obtain ⟨w1, hw1⟩ : ∃ w1, w1 = w.alloc (.cells #[.int .i64 0, .slice a xs.length c, .int .i64 wk, .int .i64 ws] 35) := ⟨_, rfl⟩
    rw [← hw1]
    have hbx : Blk w1 w.heap.size 35 #[.int .i64 0, .slice a xs.length c, .int .i64 wk, .int .i64 ws] := by rw [hw1]; exact Blk.new _ _ _
    have HBW : Hid (Below w.heap.size w w1) := by show Below _ _ _; rw [hw1]; exact bel
    have hg1 := hbx.lt
    have b0 : w1.cell? ⟨w.heap.size, 0, none⟩ = some (.int .i64 0) := hbx.cell 0
    have b1 : w1.cell? ⟨w.heap.size, 1, none⟩ = some (.slice a xs.length c) := hbx.cell 1
    have b2 : w1.cell? ⟨w.heap.size, 2, none⟩ = some (.int .i64 wk) := hbx.cell 2
    have b3 : w1.cell? ⟨w.heap.size, 3, none⟩ = some (.int .i64 ws) := hbx.cell 3
    clear hw1 hbx
    go_loopw [3, 23] (fun v i wr => ∃ k : Nat, k ≤ xs.length ∧ i = .int .i64 k ∧ v = .int .i64 (waitsS (xs.take k)) ∧ Hid ((xs.take k).all stR = true) ∧ ∃ j, wr = w1.more j) (fun _ i _ => xs.length - (intOf i).toNat)
    case atStart => exact ⟨0, Nat.zero_le _, rfl, by simp [waitsS], by show _ = _; simp, Below.junk bel⟩
    case round =>
      obtain ⟨k, hk, rfl, rfl, HA, j, rfl⟩ := hrel
      have HWB : Hid (0 ≤ waitsS (xs.take k) ∧ waitsS (xs.take k) ≤ 320) := by
        have := waits_bound _ HA.out
        rw [List.length_take] at this
        show _ ∧ _
        omega
      by_cases hlt : k < xs.length
      · obtain ⟨b, off, fa, fc, sa, sc, ha, hbb, c0, c1, c2, c3, c4, c5, hF, hSe⟩ := SlR.atSt HSX.out hlt
        subst ha
        have d0 := (HBW.out.cell (p := ⟨b, off + k * 6, none⟩) hbb).trans c0
        have d1 := (HBW.out.cell (p := ⟨b, off + k * 6 + 1, none⟩) hbb).trans c1
        have d2 := (HBW.out.cell (p := ⟨b, off + k * 6 + 2, none⟩) hbb).trans c2
        have d3 := (HBW.out.cell (p := ⟨b, off + k * 6 + 3, none⟩) hbb).trans c3
        have d4 := (HBW.out.cell (p := ⟨b, off + k * 6 + 4, none⟩) hbb).trans c4
        have d5 := (HBW.out.cell (p := ⟨b, off + k * 6 + 5, none⟩) hbb).trans c5
        have hbz : b < w1.heap.size := Nat.lt_of_lt_of_le hbb HBW.out.size
        have hsm := HSM.out _ (List.getElem_mem hlt)
        have hkl : (k : Int) < (xs.length : Int) := by omega
        have HWT := Lib.hid (waits_take hlt)
        have hwx : stR xs[k] = true → IntKind.i64.wrap (waitsS (xs.take k) + waitS xs[k]) = waitsS (xs.take k) + waitS xs[k] := fun h => by
          have h1 := wait_of h
          have h2 := HWB.out
          exact IntWalk.i64_in _ (by omega)
        have HWX := Lib.hid hwx
        have HTK : Hid (stR xs[k] = true → (xs.take (k + 1)).all stR = true) := fun h => by
          show _ = _
          rw [List.take_succ_eq_append_getElem hlt, List.all_append, HA.out]
          simp [h]
        have HNO : Hid (stR xs[k] = false → R = false) := fun h => by
          have : xs.all stR = false := by rw [List.all_eq_false]; exact ⟨_, List.getElem_mem hlt, by simp [h]⟩
          rw [HR2.out, this]; rfl
        have HRS : Hid (∀ W, Below w.heap.size w W → Calls Tryz.prog 41 #[.agg #[.int .i64 xs[k].kd, .int .i64 xs[k].sm, .int .i64 xs[k].nn, .bool xs[k].fin, .slice fa xs[k].fs.length fc, .slice sa xs[k].ss.length sc]] W fun e w' => e = .returned (.bool (stR xs[k])) ∧ ∃ j, w' = W.more j) := fun W hW =>
          spec_RightStep xs[k].kd xs[k].sm xs[k].nn xs[k].fin xs[k].fs xs[k].ss hsm.1 hsm.2 fa sa fc sc W ((hF.below hW (Nat.le_refl _)).mono hW.size (fun _ _ _ h => h)) ((hSe.below hW (Nat.le_refl _)).mono hW.size (fun _ _ _ h => h))
        have HW8 : Hid (waitS xs[k] = if xs[k].kd = 8 then xs[k].nn else 0) := rfl
        generalize waitsS (xs.take k) = n0 at HWT HWX
        generalize waitS xs[k] = n1 at HWT HWX HW8
        generalize stR xs[k] = q at HTK HNO HRS HWX
        generalize xs[k].fs.length = nf at HRS d4
        generalize xs[k].ss.length = ns at HRS d5
        generalize xs[k].kd = y0 at HRS d0 HW8
        generalize xs[k].sm = y1 at HRS d1
        generalize xs[k].nn = y2 at HRS d2 HW8
        generalize xs[k].fin = y3 at HRS d3
        clear c0 c1 c2 c3 c4 c5 hF hSe HWB hsm hwx
        cases q
        · obtain rfl : R = false := HNO.out rfl
          go_wp2_with (go_at_call 41; (with_reducible refine (HRS.out _ (by repeat (first | exact HBW.out | (with_reducible refine Below.allocS ?_ _) | (with_reducible refine Below.moreS ?_ _) | (with_reducible refine Below.drew ?_)))).mono ?_); rintro e w' ⟨rfl, j, rfl⟩)
          go_ret
          exact ⟨rfl, Below.junk (by repeat (first | exact HBW.out | (with_reducible refine Below.allocS ?_ _) | (with_reducible refine Below.moreS ?_ _) | (with_reducible refine Below.drew ?_)))⟩
        have HTK2 := Lib.hid (HTK.out rfl)
        have hwx := HWX.out rfl
        clear HTK HNO HWX
        by_cases h8 : y0 = 8
        · subst h8
          obtain rfl : n1 = y2 := HW8.out
          go_wp2_with (go_at_call 41; (with_reducible refine (HRS.out _ (by repeat (first | exact HBW.out | (with_reducible refine Below.allocS ?_ _) | (with_reducible refine Below.moreS ?_ _) | (with_reducible refine Below.drew ?_)))).mono ?_); rintro e w' ⟨rfl, j, rfl⟩)
          go_round
          case rel => exact ⟨k + 1, hlt, by go_num, by rw [HWT.out], HTK2, Below.junk bel⟩
          case measure => simp [intOf]; omega
        · obtain rfl : n1 = 0 := by rw [HW8.out, if_neg h8]
          have h8b : (y0 == 8) = false := by simp [h8]
          go_wp2_with (go_at_call 41; (with_reducible refine (HRS.out _ (by repeat (first | exact HBW.out | (with_reducible refine Below.allocS ?_ _) | (with_reducible refine Below.moreS ?_ _) | (with_reducible refine Below.drew ?_)))).mono ?_); rintro e w' ⟨rfl, j, rfl⟩)
          go_round
          case rel => exact ⟨k + 1, hlt, by go_num, by rw [HWT.out]; simp, HTK2, Below.junk bel⟩
          case measure => simp [intOf]; omega
      · obtain rfl : k = xs.length := by omega
        rw [List.take_length] at HA HWB ⊢
        have hkl : ¬ (xs.length : Int) < (xs.length : Int) := by omega
        have HR3 : Hid (R = (decide (waitsS xs ≤ 40) && (Q1 && Q2))) := by show _ = _; rw [HR2.out, HA.out]; rfl
        generalize waitsS xs = n0 at HR3 HWB ⊢
        clear HA HR2 HSX HSM
        by_cases h40 : n0 ≤ 40
        case neg =>
          obtain rfl : R = false := by rw [HR3.out]; simp [*]
          go_wp2_with (first | (go_at_call 42; (with_reducible refine (HWI.out _).mono ?_); rintro e w' ⟨rfl, rfl⟩) | (go_at_call 43; (with_reducible refine (HWS.out _).mono ?_); rintro e w' ⟨rfl, rfl⟩))
          all_goals go_ret
          all_goals exact ⟨rfl, Below.junk (by repeat (first | exact HBW.out | (with_reducible refine Below.allocS ?_ _) | (with_reducible refine Below.moreS ?_ _) | (with_reducible refine Below.drew ?_)))⟩
        cases Q1
        case false =>
          obtain rfl : R = false := by rw [HR3.out]; simp [*]
          go_wp2_with (first | (go_at_call 42; (with_reducible refine (HWI.out _).mono ?_); rintro e w' ⟨rfl, rfl⟩) | (go_at_call 43; (with_reducible refine (HWS.out _).mono ?_); rintro e w' ⟨rfl, rfl⟩))
          all_goals go_ret
          all_goals exact ⟨rfl, Below.junk (by repeat (first | exact HBW.out | (with_reducible refine Below.allocS ?_ _) | (with_reducible refine Below.moreS ?_ _) | (with_reducible refine Below.drew ?_)))⟩
        cases Q2
        case false =>
          obtain rfl : R = false := by rw [HR3.out]; simp [*]
          go_wp2_with (first | (go_at_call 42; (with_reducible refine (HWI.out _).mono ?_); rintro e w' ⟨rfl, rfl⟩) | (go_at_call 43; (with_reducible refine (HWS.out _).mono ?_); rintro e w' ⟨rfl, rfl⟩))
          all_goals go_ret
          all_goals exact ⟨rfl, Below.junk (by repeat (first | exact HBW.out | (with_reducible refine Below.allocS ?_ _) | (with_reducible refine Below.moreS ?_ _) | (with_reducible refine Below.drew ?_)))⟩
        obtain rfl : R = true := by rw [HR3.out]; simp [*]
        go_wp2_with (first | (go_at_call 42; (with_reducible refine (HWI.out _).mono ?_); rintro e w' ⟨rfl, rfl⟩) | (go_at_call 43; (with_reducible refine (HWS.out _).mono ?_); rintro e w' ⟨rfl, rfl⟩))
        all_goals go_ret
        all_goals exact ⟨rfl, Below.junk (by repeat (first | exact HBW.out | (with_reducible refine Below.allocS ?_ _) | (with_reducible refine Below.moreS ?_ _) | (with_reducible refine Below.drew ?_)))⟩
  · go_enter Tryz.func16, Tryz.ntmps16
    go_wp2_with fail
    obtain ⟨w1, hw1⟩ : ∃ w1, w1 = w.alloc (.cells #[.int .i64 1, .slice a xs.length c, .int .i64 wk, .int .i64 ws] 35) := ⟨_, rfl⟩
    rw [← hw1]
    have hbx : Blk w1 w.heap.size 35 #[.int .i64 1, .slice a xs.length c, .int .i64 wk, .int .i64 ws] := by rw [hw1]; exact Blk.new _ _ _
    have HBW : Hid (Below w.heap.size w w1) := by show Below _ _ _; rw [hw1]; exact bel
    have hg1 := hbx.lt
    have b0 : w1.cell? ⟨w.heap.size, 0, none⟩ = some (.int .i64 1) := hbx.cell 0
    have b1 : w1.cell? ⟨w.heap.size, 1, none⟩ = some (.slice a xs.length c) := hbx.cell 1
    have b2 : w1.cell? ⟨w.heap.size, 2, none⟩ = some (.int .i64 wk) := hbx.cell 2
    have b3 : w1.cell? ⟨w.heap.size, 3, none⟩ = some (.int .i64 ws) := hbx.cell 3
    clear hw1 hbx
    go_loopw [3, 23] (fun v i wr => ∃ k : Nat, k ≤ xs.length ∧ i = .int .i64 k ∧ v = .int .i64 (waitsS (xs.take k)) ∧ Hid ((xs.take k).all stR = true) ∧ ∃ j, wr = w1.more j) (fun _ i _ => xs.length - (intOf i).toNat)
    case atStart => exact ⟨0, Nat.zero_le _, rfl, by simp [waitsS], by show _ = _; simp, Below.junk bel⟩
    case round =>
      obtain ⟨k, hk, rfl, rfl, HA, j, rfl⟩ := hrel
      have HWB : Hid (0 ≤ waitsS (xs.take k) ∧ waitsS (xs.take k) ≤ 320) := by
        have := waits_bound _ HA.out
        rw [List.length_take] at this
        show _ ∧ _
        omega
      by_cases hlt : k < xs.length
      · obtain ⟨b, off, fa, fc, sa, sc, ha, hbb, c0, c1, c2, c3, c4, c5, hF, hSe⟩ := SlR.atSt HSX.out hlt
        subst ha
        have d0 := (HBW.out.cell (p := ⟨b, off + k * 6, none⟩) hbb).trans c0
        have d1 := (HBW.out.cell (p := ⟨b, off + k * 6 + 1, none⟩) hbb).trans c1
        have d2 := (HBW.out.cell (p := ⟨b, off + k * 6 + 2, none⟩) hbb).trans c2
        have d3 := (HBW.out.cell (p := ⟨b, off + k * 6 + 3, none⟩) hbb).trans c3
        have d4 := (HBW.out.cell (p := ⟨b, off + k * 6 + 4, none⟩) hbb).trans c4
        have d5 := (HBW.out.cell (p := ⟨b, off + k * 6 + 5, none⟩) hbb).trans c5
        have hbz : b < w1.heap.size := Nat.lt_of_lt_of_le hbb HBW.out.size
        have hsm := HSM.out _ (List.getElem_mem hlt)
        have hkl : (k : Int) < (xs.length : Int) := by omega
        have HWT := Lib.hid (waits_take hlt)
        have hwx : stR xs[k] = true → IntKind.i64.wrap (waitsS (xs.take k) + waitS xs[k]) = waitsS (xs.take k) + waitS xs[k] := fun h => by
          have h1 := wait_of h
          have h2 := HWB.out
          exact IntWalk.i64_in _ (by omega)
        have HWX := Lib.hid hwx
        have HTK : Hid (stR xs[k] = true → (xs.take (k + 1)).all stR = true) := fun h => by
          show _ = _
          rw [List.take_succ_eq_append_getElem hlt, List.all_append, HA.out]
          simp [h]
        have HNO : Hid (stR xs[k] = false → R = false) := fun h => by
          have : xs.all stR = false := by rw [List.all_eq_false]; exact ⟨_, List.getElem_mem hlt, by simp [h]⟩
          rw [HR2.out, this]; rfl
        have HRS : Hid (∀ W, Below w.heap.size w W → Calls Tryz.prog 41 #[.agg #[.int .i64 xs[k].kd, .int .i64 xs[k].sm, .int .i64 xs[k].nn, .bool xs[k].fin, .slice fa xs[k].fs.length fc, .slice sa xs[k].ss.length sc]] W fun e w' => e = .returned (.bool (stR xs[k])) ∧ ∃ j, w' = W.more j) := fun W hW =>
          spec_RightStep xs[k].kd xs[k].sm xs[k].nn xs[k].fin xs[k].fs xs[k].ss hsm.1 hsm.2 fa sa fc sc W ((hF.below hW (Nat.le_refl _)).mono hW.size (fun _ _ _ h => h)) ((hSe.below hW (Nat.le_refl _)).mono hW.size (fun _ _ _ h => h))
        have HW8 : Hid (waitS xs[k] = if xs[k].kd = 8 then xs[k].nn else 0) := rfl
        generalize waitsS (xs.take k) = n0 at HWT HWX
        generalize waitS xs[k] = n1 at HWT HWX HW8
        generalize stR xs[k] = q at HTK HNO HRS HWX
        generalize xs[k].fs.length = nf at HRS d4
        generalize xs[k].ss.length = ns at HRS d5
        generalize xs[k].kd = y0 at HRS d0 HW8
        generalize xs[k].sm = y1 at HRS d1
        generalize xs[k].nn = y2 at HRS d2 HW8
        generalize xs[k].fin = y3 at HRS d3
        clear c0 c1 c2 c3 c4 c5 hF hSe HWB hsm hwx
        cases q
        · obtain rfl : R = false := HNO.out rfl
          go_wp2_with (go_at_call 41; (with_reducible refine (HRS.out _ (by repeat (first | exact HBW.out | (with_reducible refine Below.allocS ?_ _) | (with_reducible refine Below.moreS ?_ _) | (with_reducible refine Below.drew ?_)))).mono ?_); rintro e w' ⟨rfl, j, rfl⟩)
          go_ret
          exact ⟨rfl, Below.junk (by repeat (first | exact HBW.out | (with_reducible refine Below.allocS ?_ _) | (with_reducible refine Below.moreS ?_ _) | (with_reducible refine Below.drew ?_)))⟩
        have HTK2 := Lib.hid (HTK.out rfl)
        have hwx := HWX.out rfl
        clear HTK HNO HWX
        by_cases h8 : y0 = 8
        · subst h8
          obtain rfl : n1 = y2 := HW8.out
          go_wp2_with (go_at_call 41; (with_reducible refine (HRS.out _ (by repeat (first | exact HBW.out | (with_reducible refine Below.allocS ?_ _) | (with_reducible refine Below.moreS ?_ _) | (with_reducible refine Below.drew ?_)))).mono ?_); rintro e w' ⟨rfl, j, rfl⟩)
          go_round
          case rel => exact ⟨k + 1, hlt, by go_num, by rw [HWT.out], HTK2, Below.junk bel⟩
          case measure => simp [intOf]; omega
        · obtain rfl : n1 = 0 := by rw [HW8.out, if_neg h8]
          have h8b : (y0 == 8) = false := by simp [h8]
          go_wp2_with (go_at_call 41; (with_reducible refine (HRS.out _ (by repeat (first | exact HBW.out | (with_reducible refine Below.allocS ?_ _) | (with_reducible refine Below.moreS ?_ _) | (with_reducible refine Below.drew ?_)))).mono ?_); rintro e w' ⟨rfl, j, rfl⟩)
          go_round
          case rel => exact ⟨k + 1, hlt, by go_num, by rw [HWT.out]; simp, HTK2, Below.junk bel⟩
          case measure => simp [intOf]; omega
      · obtain rfl : k = xs.length := by omega
        rw [List.take_length] at HA HWB ⊢
        have hkl : ¬ (xs.length : Int) < (xs.length : Int) := by omega
        have HR3 : Hid (R = (decide (waitsS xs ≤ 40) && (Q1 && Q2))) := by show _ = _; rw [HR2.out, HA.out]; rfl
        generalize waitsS xs = n0 at HR3 HWB ⊢
        clear HA HR2 HSX HSM
        by_cases h40 : n0 ≤ 40
        case neg =>
          obtain rfl : R = false := by rw [HR3.out]; simp [*]
          go_wp2_with (first | (go_at_call 42; (with_reducible refine (HWI.out _).mono ?_); rintro e w' ⟨rfl, rfl⟩) | (go_at_call 43; (with_reducible refine (HWS.out _).mono ?_); rintro e w' ⟨rfl, rfl⟩))
          all_goals go_ret
          all_goals exact ⟨rfl, Below.junk (by repeat (first | exact HBW.out | (with_reducible refine Below.allocS ?_ _) | (with_reducible refine Below.moreS ?_ _) | (with_reducible refine Below.drew ?_)))⟩
        cases Q1
        case false =>
          obtain rfl : R = false := by rw [HR3.out]; simp [*]
          go_wp2_with (first | (go_at_call 42; (with_reducible refine (HWI.out _).mono ?_); rintro e w' ⟨rfl, rfl⟩) | (go_at_call 43; (with_reducible refine (HWS.out _).mono ?_); rintro e w' ⟨rfl, rfl⟩))
          all_goals go_ret
          all_goals exact ⟨rfl, Below.junk (by repeat (first | exact HBW.out | (with_reducible refine Below.allocS ?_ _) | (with_reducible refine Below.moreS ?_ _) | (with_reducible refine Below.drew ?_)))⟩
        cases Q2
        case false =>
          obtain rfl : R = false := by rw [HR3.out]; simp [*]
          go_wp2_with (first | (go_at_call 42; (with_reducible refine (HWI.out _).mono ?_); rintro e w' ⟨rfl, rfl⟩) | (go_at_call 43; (with_reducible refine (HWS.out _).mono ?_); rintro e w' ⟨rfl, rfl⟩))
          all_goals go_ret
          all_goals exact ⟨rfl, Below.junk (by repeat (first | exact HBW.out | (with_reducible refine Below.allocS ?_ _) | (with_reducible refine Below.moreS ?_ _) | (with_reducible refine Below.drew ?_)))⟩
        obtain rfl : R = true := by rw [HR3.out]; simp [*]
        go_wp2_with (first | (go_at_call 42; (with_reducible refine (HWI.out _).mono ?_); rintro e w' ⟨rfl, rfl⟩) | (go_at_call 43; (with_reducible refine (HWS.out _).mono ?_); rintro e w' ⟨rfl, rfl⟩))
        all_goals go_ret
        all_goals exact ⟨rfl, Below.junk (by repeat (first | exact HBW.out | (with_reducible refine Below.allocS ?_ _) | (with_reducible refine Below.moreS ?_ _) | (with_reducible refine Below.drew ?_)))⟩
end Go.Proofs.YtfcgdfcekpbliaaGreatDoor
