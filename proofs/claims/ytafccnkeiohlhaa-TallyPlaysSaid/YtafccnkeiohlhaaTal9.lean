/-
  The law TallyPlays, of responses.
-/
import Derived.Test.YtafccnkeiohlhaaTal8
namespace Go.Proofs.Ytafccnkeiohlhaa
set_option linter.unusedSimpArgs false
set_option linter.unusedVariables false
open Go.ChangeShapes Go.WideShapes Go.ChangeAt Go.RowKit Go.Deep Go.Shelf

theorem rel_asks : Rel noTa noSt := rel_no
theorem rel_answers (m : List UInt8) : Rel ⟨true, m, 0, 0, 0⟩ ⟨true, m, 0, 0, 0, 0⟩ := ⟨rfl, rfl, rfl, fun _ => rfl, fun h => by simp at h, fun h => by simp at h, by simp, by simp, by simp, by simp, by simp, fun _ => rfl⟩

set_option maxHeartbeats 8000000 in
set_option maxRecDepth 100000 in
theorem tallyPlays_true (met : List UInt8) (a : Option Addr) (cap : Nat) (l : List Ev) (w : World) (hmm : met.length ≤ maxLen) (hm : l.length ≤ maxLen) (hs : SlE w w w.heap.size a l) :
    Calls Try.prog 16 #[.bool true, bstr met, .slice a l.length cap] w fun e w' => e = .returned (.bool true) ∧ ∃ j, w' = w.more j := by
  unfold maxLen at hmm
  have HL : Hid (∀ W, Below w.heap.size w W → Calls Try.prog 56 #[.slice a l.length cap] W fun e w' => e = .returned (.bool (largeE l)) ∧ W = w') := fun W h => law29_large a cap l w W hm h hs
  have HA : Hid (∀ W, Calls Try.prog 57 #[] W fun e w' => e = .returned (.bool true) ∧ ∃ j, w' = W.more j) := law29_alive
  have HLF : ∀ k (hk : k < l.length), largeE l = false → ∀ f ∈ l[k].fields, f.value.length ≤ 1048576 := by
    intro k hk h
    have h2 : largeF l[k].fields 30 200 = false := by
      simp only [largeE, Bool.or_eq_false_iff, List.any_eq_false] at h
      simpa using h.2 _ (List.getElem_mem hk)
    simp only [largeF, Bool.or_eq_false_iff, List.any_eq_false, decide_eq_false_iff_not] at h2
    intro f hf
    have := h2.2 f hf
    simp at this
    omega
  have HLN : ∀ k (hk : k < l.length), largeE l = false → l[k].fields.length ≤ 30 := by
    intro k hk h
    have h2 : largeF l[k].fields 30 200 = false := by
      simp only [largeE, Bool.or_eq_false_iff, List.any_eq_false] at h
      simpa using h.2 _ (List.getElem_mem hk)
    simp only [largeF, Bool.or_eq_false_iff, decide_eq_false_iff_not] at h2
    have := h2.1
    omega
  cases hL : largeE l with
  | true =>
    rw [hL] at HL
    clear hL HLF HLN hs
    go_enter Try.func16, Try.ntmps16
    go_wp2_with (first
      | (go_at_call 56; (with_reducible refine (HL.out _ (Below.refl _ _)).mono ?_); rintro e w' ⟨rfl, rfl⟩)
      | (go_at_call 57; (with_reducible refine (HA.out _).mono ?_); rintro e w' ⟨rfl, j, rfl⟩))
    go_ret
    exact ⟨rfl, Below.junk (by repeat (first | (with_reducible exact Below.refl _ _) | (with_reducible refine Below.allocS ?_ _) | (with_reducible refine Below.moreS ?_ _) | (with_reducible refine Below.drew ?_)))⟩
  | false =>
  by_cases h2 : 200 < (met.length : Int)
  · rw [hL] at HL
    clear hL HLF HLN hs
    go_enter Try.func16, Try.ntmps16
    go_wp2_with (first
      | (go_at_call 56; (with_reducible refine (HL.out _ (Below.refl _ _)).mono ?_); rintro e w' ⟨rfl, rfl⟩)
      | (go_at_call 57; (with_reducible refine (HA.out _).mono ?_); rintro e w' ⟨rfl, j, rfl⟩))
    go_ret
    exact ⟨rfl, Below.junk (by repeat (first | (with_reducible exact Below.refl _ _) | (with_reducible refine Below.allocS ?_ _) | (with_reducible refine Below.moreS ?_ _) | (with_reducible refine Below.drew ?_)))⟩
  have h2' : (met.length : Int) ≤ 200 := by omega
  rw [hL] at HL
  have HV := Lib.hid (fun k hk => HLF k hk hL)
  have HN := Lib.hid (fun k hk => HLN k hk hL)
  have HS := Lib.hid hs
  clear hL HLF HLN hs h2
  unfold maxLen at hm
  have HK : Hid (∀ W, Calls Try.prog 58 #[] W fun e w' => e = .returned (taVal ⟨false, [], 0, 0, 0⟩) ∧ ∃ j, w' = W.more j) := tally_Asks
  have HR : Hid (∀ m W, Calls Try.prog 59 #[bstr m] W fun e w' => e = .returned (taVal ⟨true, m, 0, 0, 0⟩) ∧ ∃ j, w' = W.more j) := tally_Answers
  have HO : Hid (∀ (a : Bool) (m : List UInt8) (p y l : Int) (W : World), Calls Try.prog 65 #[.agg #[.bool a, bstr m, .int .i64 p, .int .i64 y, .int .i64 l]] W fun e w' => e = .returned (.bool (p == 2)) ∧ ∃ j, w' = W.more j) := fun a m p y l W => outs (tally_Over ⟨a, m, p, y, l⟩ W)
  have HOW : Hid (∀ (m : Ms) (W : World), Calls Try.prog 64 #[msVal m] W fun e w' => e = .returned (msVal m) ∧ ∃ j, w' = W.more j) := law29_own
  have HH1 : Hid (∀ (t : Ta) (a : Option Addr) (cap : Nat) (f : List Fd) (e : Bool) (W : World), f.length ≤ 30 → Below w.heap.size w W → SlF w w.heap.size a f → (∀ x ∈ f, x.value.length ≤ 1048576) → Calls Try.prog 62 #[taVal t, .slice a f.length cap, .bool e] W fun e' w' => e' = .returned (trVal (headF t f e)) ∧ ∃ j, w' = W.more j) := fun t a cap f e W h1 h2 h3 h4 => tally_Head t a cap f e W w (by unfold maxLen; omega) h2 h3 h4
  have HH2 : Hid (∀ (s : St) (a : Option Addr) (cap : Nat) (f : List Fd) (e : Bool) (W : World), f.length ≤ 30 → Below w.heap.size w W → SlF w w.heap.size a f → (∀ x ∈ f, x.value.length ≤ 1048576) → Calls Try.prog 63 #[stVal s, .slice a f.length cap, .bool e] W fun e' w' => e' = .returned (rrVal (rheadF s f e)) ∧ ∃ j, w' = W.more j) := fun s a cap f e W h1 h2 h3 h4 => ref29_Head s a cap f e W w (by omega) h2 h3 h4
  go_enter Try.func16, Try.ntmps16
  go_wp2_with (first
    | (go_at_call 56; (with_reducible refine (HL.out _ (Below.refl _ _)).mono ?_); rintro e w' ⟨rfl, rfl⟩)
    | (go_at_call 58; (with_reducible refine (HK.out _).mono ?_); rintro e w' ⟨rfl, jA, rfl⟩)
    | (go_at_call 59; (with_reducible refine (HR.out _ _).mono ?_); rintro e w' ⟨rfl, j, rfl⟩))
  go_loopw [34] (fun i wr => ∃ (k : Nat) (t : Ta) (s : St), k ≤ l.length ∧ i = .int .i64 k ∧ Hid (Rel t s) ∧ ∃ j, wr = (((w.more jA).alloc (.cells #[.bool t.answers, bstr t.method, .int .i64 t.phase, .int .i64 t.may, .int .i64 t.left] TaT)).alloc (.cells #[.bool s.answers, bstr s.method, .int .i64 s.phase, .int .i64 s.may, .int .i64 s.want, .int .i64 s.came] 83)).more j) (fun i _ => l.length - (intOf i).toNat)
  case atStart => exact ⟨0, ⟨true, met, 0, 0, 0⟩, ⟨true, met, 0, 0, 0, 0⟩, by omega, rfl, rel_answers met, Below.junk (by repeat (first | (with_reducible exact Below.refl _ _) | (with_reducible refine Below.allocS ?_ _) | (with_reducible refine Below.moreS ?_ _) | (with_reducible refine Below.drew ?_)))⟩
  case round =>
    obtain ⟨k, ⟨ta, tm, tp, ty, tl⟩, ⟨sa, sm, sp, sy, sw, sc⟩, hk, rfl, HRel, jr, rfl⟩ := hrel
    by_cases hlt : k < l.length
    · obtain ⟨b, off, a', cap', rfl, hb, c0, c1, c2, c3, hf, hfl⟩ := HS.out.atE hlt
      have hv := HV.out k hlt
      have hn := HN.out k hlt
      generalize l[k] = ev at c0 c1 c2 c3 hf hfl hv hn
      obtain ⟨ed, ef, en, ee⟩ := ev
      simp only at c0 c1 c2 c3 hf hfl hv hn
      cases ed with
      | true =>
        have D1 : ∀ W, Calls Try.prog 60 #[taVal ⟨ta, tm, tp, ty, tl⟩, .int .i64 en, .bool ee] W fun e' w' => e' = .returned (.tuple #[taVal (datF ⟨ta, tm, tp, ty, tl⟩ en ee).1, .int .i64 (datF ⟨ta, tm, tp, ty, tl⟩ en ee).2]) ∧ ∃ j, w' = W.more j := fun W => outs (tally_Data _ en ee W (by have := HRel.out.l1; omega))
        have D2 : ∀ W, Calls Try.prog 61 #[stVal ⟨sa, sm, sp, sy, sw, sc⟩, .int .i64 en, .bool ee] W fun e' w' => e' = .returned (.tuple #[stVal (rdatF ⟨sa, sm, sp, sy, sw, sc⟩ en ee).1, .int .i64 (rdatF ⟨sa, sm, sp, sy, sw, sc⟩ en ee).2]) ∧ ∃ j, w' = W.more j := fun W => ref29_Data _ en ee W HRel.out.b1 HRel.out.b2 (by have := HRel.out.b3; omega)
        have LK := like_data HRel.out en ee
        generalize datF ⟨ta, tm, tp, ty, tl⟩ en ee = x at D1 LK
        generalize rdatF ⟨sa, sm, sp, sy, sw, sc⟩ en ee = y at D2 LK
        obtain ⟨⟨u1, u2, u3, u4, u5⟩, r⟩ := x
        obtain ⟨⟨v1, v2, v3, v4, v5, v6⟩, r'⟩ := y
        obtain ⟨q1, q2, q3⟩ := LK
        simp only at q1 q2 q3
        subst q1
        have HD1 := Lib.hid D1
        have HD2 := Lib.hid D2
        have HQ := Lib.hid q3
        clear D1 D2 q3 hf hfl hv hn
        by_cases hr : r = 0
        all_goals
          go_wp2_with (first
            | (go_at_call 60; (with_reducible refine (HD1.out _).mono ?_); rintro e w' ⟨rfl, j, rfl⟩)
            | (go_at_call 61; (with_reducible refine (HD2.out _).mono ?_); rintro e w' ⟨rfl, j, rfl⟩))
          go_region_with (go_at_call 65; (with_reducible refine (HO.out _ _ _ _ _ _).mono ?_); rintro e w' ⟨rfl, j, rfl⟩)
          all_goals
            go_wp2_with fail
            go_roundw
            case measure => simp [intOf]; omega
            first
              | (refine ⟨k + 1, ⟨u1, u2, u3, u4, u5⟩, ⟨v1, v2, v3, v4, v5, v6⟩, hlt, by go_num, HQ.out hr, Below.junk ?_⟩; (repeat (first | (with_reducible exact Below.refl _ _) | (with_reducible refine Below.allocS ?_ _) | (with_reducible refine Below.moreS ?_ _) | (with_reducible refine Below.drew ?_))); done)
              | (refine ⟨k + 1, ⟨ta, tm, tp, ty, tl⟩, ⟨sa, sm, sp, sy, sw, sc⟩, hlt, by go_num, HRel, Below.junk ?_⟩; (repeat (first | (with_reducible exact Below.refl _ _) | (with_reducible refine Below.allocS ?_ _) | (with_reducible refine Below.moreS ?_ _) | (with_reducible refine Below.drew ?_))); done)
      | false =>
        have D1 : ∀ W, Below w.heap.size w W → Calls Try.prog 62 #[taVal ⟨ta, tm, tp, ty, tl⟩, .slice a' ef.length cap', .bool ee] W fun e' w' => e' = .returned (trVal (headF ⟨ta, tm, tp, ty, tl⟩ ef ee)) ∧ ∃ j, w' = W.more j := fun W h => HH1.out _ a' cap' ef ee W hn h hf hv
        have D2 : ∀ W, Below w.heap.size w W → Calls Try.prog 63 #[stVal ⟨sa, sm, sp, sy, sw, sc⟩, .slice a' ef.length cap', .bool ee] W fun e' w' => e' = .returned (rrVal (rheadF ⟨sa, sm, sp, sy, sw, sc⟩ ef ee)) ∧ ∃ j, w' = W.more j := fun W h => HH2.out _ a' cap' ef ee W hn h hf hv
        have LK := like_head HRel.out ef ee
        generalize headF ⟨ta, tm, tp, ty, tl⟩ ef ee = x at D1 LK
        generalize rheadF ⟨sa, sm, sp, sy, sw, sc⟩ ef ee = y at D2 LK
        obtain ⟨⟨u1, u2, u3, u4, u5⟩, m, r⟩ := x
        obtain ⟨⟨v1, v2, v3, v4, v5, v6⟩, m', r'⟩ := y
        obtain ⟨q1, qm, q2, q3⟩ := LK
        simp only at q1 q2 q3 qm
        subst q1 qm
        obtain ⟨m1, m2, m3, m4⟩ := m
        have HD1 := Lib.hid D1
        have HD2 := Lib.hid D2
        have HQ := Lib.hid q3
        have HW : Hid (Below w.heap.size w w) := Below.refl _ _
        clear D1 D2 q3 hf hfl hv hn
        by_cases hr : r = 0
        all_goals
          go_wp2_with (first
            | (go_at_call 62; (with_reducible refine (HD1.out _ (by repeat (first | exact HW.out | (with_reducible refine Below.allocS ?_ _) | (with_reducible refine Below.moreS ?_ _) | (with_reducible refine Below.drew ?_)))).mono ?_); rintro e w' ⟨rfl, j, rfl⟩)
            | (go_at_call 63; (with_reducible refine (HD2.out _ (by repeat (first | exact HW.out | (with_reducible refine Below.allocS ?_ _) | (with_reducible refine Below.moreS ?_ _) | (with_reducible refine Below.drew ?_)))).mono ?_); rintro e w' ⟨rfl, j, rfl⟩))
          go_region_with (go_at_call 64; (with_reducible refine (HOW.out ⟨m1, m2, m3, m4⟩ _).mono ?_); rintro e w' ⟨rfl, j, rfl⟩)
          all_goals
            go_wp2_with fail
            go_region_with (go_at_call 65; (with_reducible refine (HO.out _ _ _ _ _ _).mono ?_); rintro e w' ⟨rfl, j, rfl⟩)
          all_goals
            go_wp2_with fail
            go_roundw
            case measure => simp [intOf]; omega
            first
              | (refine ⟨k + 1, ⟨u1, u2, u3, u4, u5⟩, ⟨v1, v2, v3, v4, v5, v6⟩, hlt, by go_num, HQ.out hr, Below.junk ?_⟩; (repeat (first | (with_reducible exact Below.refl _ _) | (with_reducible refine Below.allocS ?_ _) | (with_reducible refine Below.moreS ?_ _) | (with_reducible refine Below.drew ?_))); done)
              | (refine ⟨k + 1, ⟨ta, tm, tp, ty, tl⟩, ⟨sa, sm, sp, sy, sw, sc⟩, hlt, by go_num, HRel, Below.junk ?_⟩; (repeat (first | (with_reducible exact Below.refl _ _) | (with_reducible refine Below.allocS ?_ _) | (with_reducible refine Below.moreS ?_ _) | (with_reducible refine Below.drew ?_))); done)
    · go_wp2_with (go_at_call 57; (with_reducible refine (HA.out _).mono ?_); rintro e w' ⟨rfl, j, rfl⟩)
      go_ret
      exact ⟨rfl, Below.junk (by repeat (first | (with_reducible exact Below.refl _ _) | (with_reducible refine Below.allocS ?_ _) | (with_reducible refine Below.moreS ?_ _) | (with_reducible refine Below.drew ?_)))⟩
