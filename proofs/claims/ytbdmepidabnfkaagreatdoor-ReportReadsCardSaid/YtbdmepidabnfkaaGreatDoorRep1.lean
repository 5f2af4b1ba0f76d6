/-
  Reports: configs; predicates over records.
-/
import Derived.Test.YtbdmepidabnfkaaGreatDoorRepP
import Derived.Test.YtbdmepidabnfkaaGreatDoorRcs
namespace Go.Proofs.YtbdmepidabnfkaaGreatDoor
set_option linter.unusedSimpArgs false
set_option linter.unusedVariables false
set_option linter.unusedSectionVars false
open Go.ChangeShapes Go.WideShapes Go.ChangeAt Go.RowKit Go.Deep Go.Shelf

set_option maxRecDepth 100000 in
theorem core_within (n a b : Int) (w : World) : Calls Tryz.prog 70 #[.int .i64 n, .int .i64 a, .int .i64 b] w fun e w' => e = .returned (.bool (inR n a b)) ∧ w = w' := by
  by_cases h0 : a ≤ n <;> by_cases h1 : n ≤ b
  all_goals
    go_enter Tryz.func70, Tryz.ntmps70
    go_wp2_with fail
    go_ret
    exact ⟨by simp [inR, h0, h1], rfl⟩
set_option maxHeartbeats 4000000 in
set_option maxRecDepth 100000 in
theorem core_Right (c0 c1 c2 c3 c4 c5 : Int) (w : World) : Calls Tryz.prog 26 #[.agg #[.int .i64 c0, .int .i64 c1, .int .i64 c2, .int .i64 c3, .int .i64 c4, .int .i64 c5]] w fun e w' => e = .returned (.bool (cfgR c0 c1 c2 c3 c4 c5)) ∧ ∃ j, w' = w.more j := by
  have H0 : Hid (∀ W, Calls Tryz.prog 70 #[.int .i64 c0, .int .i64 0, .int .i64 64] W fun e w' => e = .returned (.bool (inR c0 0 64)) ∧ W = w') := core_within c0 0 64
  have H1 : Hid (∀ W, Calls Tryz.prog 70 #[.int .i64 c1, .int .i64 1, .int .i64 1024] W fun e w' => e = .returned (.bool (inR c1 1 1024)) ∧ W = w') := core_within c1 1 1024
  have H2 : Hid (∀ W, Calls Tryz.prog 70 #[.int .i64 c2, .int .i64 0, .int .i64 1048576] W fun e w' => e = .returned (.bool (inR c2 0 1048576)) ∧ W = w') := core_within c2 0 1048576
  have H3 : Hid (∀ W, Calls Tryz.prog 70 #[.int .i64 c3, .int .i64 1, .int .i64 32] W fun e w' => e = .returned (.bool (inR c3 1 32)) ∧ W = w') := core_within c3 1 32
  have H4 : Hid (∀ W, Calls Tryz.prog 70 #[.int .i64 c4, .int .i64 0, .int .i64 64] W fun e w' => e = .returned (.bool (inR c4 0 64)) ∧ W = w') := core_within c4 0 64
  have H5 : Hid (∀ W, Calls Tryz.prog 70 #[.int .i64 c5, .int .i64 4096, .int .i64 1048576] W fun e w' => e = .returned (.bool (inR c5 4096 1048576)) ∧ W = w') := core_within c5 4096 1048576
  unfold cfgR
  generalize inR c0 0 64 = b0 at H0 ⊢
  generalize inR c1 1 1024 = b1 at H1 ⊢
  generalize inR c2 0 1048576 = b2 at H2 ⊢
  generalize inR c3 1 32 = b3 at H3 ⊢
  generalize inR c4 0 64 = b4 at H4 ⊢
  generalize inR c5 4096 1048576 = b5 at H5 ⊢
  have key : ∀ k : Nat, (k = 0 ∧ b0 = false) ∨ (k = 1 ∧ b0 = true ∧ b1 = false) ∨ (k = 2 ∧ b0 = true ∧ b1 = true ∧ b2 = false) ∨ (k = 3 ∧ b0 = true ∧ b1 = true ∧ b2 = true ∧ b3 = false) ∨ (k = 4 ∧ b0 = true ∧ b1 = true ∧ b2 = true ∧ b3 = true ∧ b4 = false) ∨ (k = 5 ∧ b0 = true ∧ b1 = true ∧ b2 = true ∧ b3 = true ∧ b4 = true) → Calls Tryz.prog 26 #[.agg #[.int .i64 c0, .int .i64 c1, .int .i64 c2, .int .i64 c3, .int .i64 c4, .int .i64 c5]] w fun e w' => e = .returned (.bool (b0 && (b1 && (b2 && (b3 && (b4 && b5)))))) ∧ ∃ j, w' = w.more j := by
    intro k hk
    rcases hk with ⟨_, rfl⟩ | ⟨_, rfl, rfl⟩ | ⟨_, rfl, rfl, rfl⟩ | ⟨_, rfl, rfl, rfl, rfl⟩ | ⟨_, rfl, rfl, rfl, rfl, rfl⟩ | ⟨_, rfl, rfl, rfl, rfl, rfl⟩
    all_goals
      go_enter Tryz.func26, Tryz.ntmps26
      go_wp2_with (first
        | (go_at_call 70; (with_reducible refine (H0.out _).mono ?_); rintro e w' ⟨rfl, rfl⟩)
        | (go_at_call 70; (with_reducible refine (H1.out _).mono ?_); rintro e w' ⟨rfl, rfl⟩)
        | (go_at_call 70; (with_reducible refine (H2.out _).mono ?_); rintro e w' ⟨rfl, rfl⟩)
        | (go_at_call 70; (with_reducible refine (H3.out _).mono ?_); rintro e w' ⟨rfl, rfl⟩)
        | (go_at_call 70; (with_reducible refine (H4.out _).mono ?_); rintro e w' ⟨rfl, rfl⟩)
        | (go_at_call 70; (with_reducible refine (H5.out _).mono ?_); rintro e w' ⟨rfl, rfl⟩))
      go_ret
      exact ⟨rfl, Below.junk (by repeat (first | (with_reducible exact Below.refl _ _) | (with_reducible refine Below.allocS ?_ _) | (with_reducible refine Below.moreS ?_ _) | (with_reducible refine Below.drew ?_) | (with_reducible refine below_drewN ?_ _)))⟩
  cases b0
  · exact key 0 (by simp)
  cases b1
  · exact key 1 (by simp)
  cases b2
  · exact key 2 (by simp)
  cases b3
  · exact key 3 (by simp)
  cases b4
  · exact key 4 (by simp)
  exact key 5 (by simp)
set_option maxHeartbeats 4000000 in
set_option maxRecDepth 100000 in
theorem ref39_Right (c0 c1 c2 c3 c4 c5 : Int) (w : World) : Calls Tryz.prog 32 #[.agg #[.int .i64 c0, .int .i64 c1, .int .i64 c2, .int .i64 c3, .int .i64 c4, .int .i64 c5]] w fun e w' => e = .returned (.bool (cfgR c0 c1 c2 c3 c4 c5)) ∧ ∃ j, w' = w.more j := by
  go_enter Tryz.func32, Tryz.ntmps32
  go_wp2_with fail
  all_goals
    go_ret
    refine ⟨?_, Below.junk (by repeat (first | (with_reducible exact Below.refl _ _) | (with_reducible refine Below.allocS ?_ _) | (with_reducible refine Below.moreS ?_ _) | (with_reducible refine Below.drew ?_) | (with_reducible refine below_drewN ?_ _)))⟩
    simp_all [cfgR, inR, -Int.not_le, ← Int.not_le]
set_option maxHeartbeats 4000000 in
set_option maxRecDepth 100000 in
theorem slices_IndexFuncRc (g : FuncId) (p : Rec → Bool) (eg : ∀ args w, (callFunc g args).run Tryz.prog w = .ok (.enter g args) w)
    (hp : ∀ (a b c d e f : Int) W, Calls Tryz.prog g #[.agg #[.int .i64 a, .int .i64 b, .int .i64 c, .int .i64 d, .int .i64 e, .int .i64 f]] W fun x w' => x = .returned (.bool (p ⟨a, b, c, d, e, f⟩)) ∧ ∃ j, w' = W.more j)
    (a : Option Addr) (l : List Rec) (cap : Nat) (hl : l.length ≤ 1048576) (w : World) (hS : SlRc w w.heap.size a l) :
    Calls Tryz.prog 71 #[.slice a l.length cap, .func (.func g) #[] #[]] w fun e w' => ∃ r : Int, e = .returned (.int .i64 r) ∧ decide (0 ≤ r) = l.any p ∧ ∃ j, w' = w.more j := by
  obtain ⟨R, hR⟩ : ∃ R, R = l.any p := ⟨_, rfl⟩
  rw [← hR]
  have HR := Lib.hid hR
  have HS := Lib.hid hS
  have HP := Lib.hid hp
  clear hS hR hp
  go_enter Tryz.func71, Tryz.ntmps71
  go_wp2_with fail
  go_loopg [8] l.length (fun g i wr => ∃ k : Nat, k + g = l.length ∧ i = .int .i64 k ∧ Below w.heap.size w wr ∧ Hid (R = (l.drop k).any p))
  case atStart => exact ⟨0, by omega, rfl, Below.refl _ _, HR⟩
  case round =>
    obtain ⟨k, hkg, rfl, hb, HU⟩ := hrel
    have HK := Lib.hid hkg
    clear hkg
    by_cases hlt : k < l.length
    · obtain ⟨b, off, ha, hbb, c0, c1, c2, c3, c4, c5⟩ := SlR.atRc HS.out hlt
      subst ha
      have d0 := (hb.cell (p := ⟨b, off + k * 6, none⟩) hbb).trans c0
      have d1 := (hb.cell (p := ⟨b, off + k * 6 + 1, none⟩) hbb).trans c1
      have d2 := (hb.cell (p := ⟨b, off + k * 6 + 2, none⟩) hbb).trans c2
      have d3 := (hb.cell (p := ⟨b, off + k * 6 + 3, none⟩) hbb).trans c3
      have d4 := (hb.cell (p := ⟨b, off + k * 6 + 4, none⟩) hbb).trans c4
      have d5 := (hb.cell (p := ⟨b, off + k * 6 + 5, none⟩) hbb).trans c5
      have hbz : b < wr.heap.size := Nat.lt_of_lt_of_le hbb hb.size
      have hd : l.drop k = l[k] :: l.drop (k + 1) := List.drop_eq_getElem_cons hlt
      have HD : Hid (R = (p l[k] || (l.drop (k + 1)).any p)) := by show _ = _; rw [HU.out, hd]; rfl
      have HB := Lib.hid hb
      clear hd HU c0 c1 c2 c3 c4 c5 hb
      generalize l[k] = x at d0 d1 d2 d3 d4 d5 HD
      obtain ⟨x0, x1, x2, x3, x4, x5⟩ := x
      simp only at d0 d1 d2 d3 d4 d5
      have HQ : Hid (∀ W, Calls Tryz.prog g #[.agg #[.int .i64 x0, .int .i64 x1, .int .i64 x2, .int .i64 x3, .int .i64 x4, .int .i64 x5]] W fun x w' => x = .returned (.bool (p ⟨x0, x1, x2, x3, x4, x5⟩)) ∧ ∃ j, w' = W.more j) := HP.out x0 x1 x2 x3 x4 x5
      generalize p ⟨x0, x1, x2, x3, x4, x5⟩ = q at HQ HD
      cases q
      · have HU2 : Hid (R = (l.drop (k + 1)).any p) := HD.out
        clear HD
        go_wp2_with (go_at_fn g; refine (HQ.out _).mono ?_; rintro e w' ⟨rfl, j, rfl⟩)
        go_roundg (l.length - (k + 1))
        case measure => have := HK.out; omega
        case rel => exact ⟨k + 1, by have := HK.out; omega, by go_num, HB.out.trans (Below.mono (B := wr.heap.size) (by repeat (first | (with_reducible exact Below.refl _ _) | (with_reducible refine Below.allocS ?_ _) | (with_reducible refine Below.moreS ?_ _) | (with_reducible refine Below.drew ?_) | (with_reducible refine below_drewN ?_ _))) HB.out.size), HU2⟩
      · have hR2 : R = true := HD.out
        subst hR2
        clear HD
        go_wp2_with (go_at_fn g; refine (HQ.out _).mono ?_; rintro e w' ⟨rfl, j, rfl⟩)
        go_ret
        exact ⟨_, rfl, by simp, Below.junk (HB.out.trans (Below.mono (B := wr.heap.size) (by repeat (first | (with_reducible exact Below.refl _ _) | (with_reducible refine Below.allocS ?_ _) | (with_reducible refine Below.moreS ?_ _) | (with_reducible refine Below.drew ?_) | (with_reducible refine below_drewN ?_ _))) HB.out.size))⟩
    · have hR2 : R = false := by rw [HU.out, List.drop_of_length_le (by omega)]; rfl
      subst hR2
      clear HU
      go_wp2_with fail
      go_ret
      exact ⟨_, rfl, by decide, Below.junk hb⟩
set_option maxHeartbeats 4000000 in
set_option maxRecDepth 100000 in
theorem slices_ContainsFuncRc (g : FuncId) (p : Rec → Bool) (eg : ∀ args w, (callFunc g args).run Tryz.prog w = .ok (.enter g args) w)
    (hp : ∀ (a b c d e f : Int) W, Calls Tryz.prog g #[.agg #[.int .i64 a, .int .i64 b, .int .i64 c, .int .i64 d, .int .i64 e, .int .i64 f]] W fun x w' => x = .returned (.bool (p ⟨a, b, c, d, e, f⟩)) ∧ ∃ j, w' = W.more j)
    (a : Option Addr) (l : List Rec) (cap : Nat) (hl : l.length ≤ 1048576) (w : World) (hS : SlRc w w.heap.size a l) :
    Calls Tryz.prog 27 #[.slice a l.length cap, .func (.func g) #[] #[]] w fun e w' => e = .returned (.bool (l.any p)) ∧ ∃ j, w' = w.more j := by
  have HC := Lib.hid (slices_IndexFuncRc g p eg hp a l cap hl w hS)
  generalize l.any p = R at HC ⊢
  clear hp hS
  go_enter Tryz.func27, Tryz.ntmps27
  go_wp2_with fail
  refine HC.out.mono ?_
  rintro e w' ⟨r, rfl, hr, j, rfl⟩
  have HR := Lib.hid hr
  clear hr
  go_wp2_with fail
  go_ret
  exact ⟨by rw [← HR.out]; rfl, _, rfl⟩
end Go.Proofs.YtbdmepidabnfkaaGreatDoor
