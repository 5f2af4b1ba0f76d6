/-
  Reports: which may be: the program's.
-/
import Derived.Test.YtbdmepidabnfkaaGreatDoorRep3
import Derived.ChangeKeysEq
namespace Go.Proofs.YtbdmepidabnfkaaGreatDoor
set_option linter.unusedSimpArgs false
set_option linter.unusedVariables false
set_option linter.unusedSectionVars false
open Go.ChangeShapes Go.WideShapes Go.ChangeAt Go.RowKit Go.Deep Go.Shelf

theorem itemF_cells : Tryz.prog.cellsOf 3 = 1 := by kernel_rfl
theorem itemF_agg : ∀ w, (isAgg 3).run Tryz.prog w = .ok false w := fun w => by simp [isAgg, run_underlying Tryz.underlying3]
def eq2 (a b c d : Int) : Bool := decide (a = c) && decide (b = d)
set_option maxRecDepth 100000 in
theorem eq2_run (a b c d : Int) (w : World) : (Op.equalIn 10000 27 (.agg #[.int .i64 a, .int .i64 b]) (.agg #[.int .i64 c, .int .i64 d])).run Tryz.prog w = .ok (eq2 a b c d) w := by
  obtain ⟨i, hi⟩ : ∃ i, Tryz.prog.info? 3 = some i := Option.isSome_iff_exists.1 (by kernel_rfl)
  have he : ∀ x y : Int, (Op.equalIn (9998 + 1) 3 (.int .i64 x) (.int .i64 y)).run Tryz.prog w = .ok (x == y) w := fun x y => run_equalIn_int w 9998 _ .i64 .i64 x y Tryz.underlying3
  rw [show (10000 : Nat) = 9999 + 1 from rfl, run_equalIn_array w 9999 _ _ Tryz.underlying27 hi, itemF_cells, show (9999 : Nat) = 9998 + 1 from rfl, show List.range 2 = [0, 1] from rfl]
  unfold eq2
  by_cases h1 : a = c <;> by_cases h2 : b = d <;> simp [Op.eqItems, part, itemF_agg, he, h1, h2]
theorem neq2 (a b c d : Int) (w : World) : (binOp .neq 27 (.agg #[.int .i64 a, .int .i64 b]) (.agg #[.int .i64 c, .int .i64 d])).run Tryz.prog w = .ok (.bool (!eq2 a b c d)) w := by
  rw [run_neq_struct, eq2_run]; rfl
theorem eql2 (a b c d : Int) (w : World) : (binOp .eql 27 (.agg #[.int .i64 a, .int .i64 b]) (.agg #[.int .i64 c, .int .i64 d])).run Tryz.prog w = .ok (.bool (eq2 a b c d)) w := by
  rw [run_eql_struct, eq2_run]; rfl
theorem list_snoc {α : Type} {l : List α} (h : l.isEmpty = false) : ∃ n, l.length = n + 1 ∧ ∃ z, l[n]? = some z ∧ l.getLast? = some z ∧ l.dropLast = l.take n := by
  cases l with
  | nil => cases h
  | cons x r =>
    refine ⟨r.length, by simp, (x :: r).getLast (by simp), ?_, ?_, ?_⟩
    · rw [← List.getLast?_eq_some_getLast (by simp), List.getLast?_eq_getElem?]; rfl
    · exact List.getLast?_eq_some_getLast (by simp)
    · rw [List.dropLast_eq_take]; rfl
set_option maxHeartbeats 8000000 in
set_option maxRecDepth 100000 in
theorem report_ended (c0 c1 c2 c3 c4 c5 : Int) (a : Option Addr) (l : List Rec) (c : Nat) (v t : Int) (fa : Option Addr) (fs : List Fl) (fc : Nat) (ua : Option Addr) (us : List Int) (uc : Nat) (f0 f1 : Int) (hv : v = 3 ∨ v = 4) (hll : l.length ≤ 1000000) (hcap : l.length ≤ c) (hfl : fs.length ≤ 100000) (hul : us.length ≤ 100000) (m : Int) (w : World) (hM : w.cell? MaxA = some (.int .i64 m)) (hS : SlRc w w.heap.size a l) (hF : SlFl w w.heap.size fa fs) (hU : SlI w w.heap.size ua us) :
    Calls Tryz.prog 31 #[.agg #[.int .i64 c0, .int .i64 c1, .int .i64 c2, .int .i64 c3, .int .i64 c4, .int .i64 c5, .slice a l.length c, .int .i64 v, .int .i64 t, .slice fa fs.length fc, .slice ua us.length uc, .int .i64 f0, .int .i64 f1]] w fun e w' => e = .returned (.bool (endD2 l v t fs us f0 f1)) ∧ ∃ j, w' = w.more j := by
  cases h0 : l.isEmpty
  case true =>
    obtain rfl : l = [] := List.isEmpty_iff.1 h0
    have hR : endD2 [] v t fs us f0 f1 = false := rfl
    rw [hR]
    clear hR hS hF hU hM hul hfl hll h0
    generalize fs.length = nf
    generalize us.length = nu
    go_enter Tryz.func31, Tryz.ntmps31
    go_wp2_with fail
    refine wp_region_more (by kernel_rfl) (by kernel_rfl) ?_
    repeat (go_big_quiet_step (first | fail))
    refine wpQuiet_nil ?_
    intro w' hw'
    obtain ⟨j, rfl⟩ := hw'
    go_wp2_with fail
    go_ret
    exact ⟨rfl, Below.junk (by repeat (first | (with_reducible exact Below.refl _ _) | (with_reducible refine Below.allocS ?_ _) | (with_reducible refine Below.moreS ?_ _) | (with_reducible refine Below.drew ?_) | (with_reducible refine below_drewN ?_ _)))⟩
  obtain ⟨n, hn, z, hz, hzl, hdl⟩ := list_snoc h0
  have hR : endD2 l v t fs us f0 f1 = (decide (t = (n : Int)) && (decide (z.kd = v) && ((l.take n).all okK && (eq2 f0 f1 0 0 && if v = 3 then toldD fs us else noneD fs us)))) := by
    unfold endD2 lastK eq2
    rw [h0, hzl, hdl, hn]
    simp only [Bool.not_false, Bool.true_and, Option.getD_some]
    rw [show ((n + 1 : Nat) : Int) - 1 = (n : Int) by omega]
  rw [hR]
  have HTO : Hid (∀ W, Below w.heap.size w W → Calls Tryz.prog 74 #[.agg #[.int .i64 c0, .int .i64 c1, .int .i64 c2, .int .i64 c3, .int .i64 c4, .int .i64 c5, .slice a l.length c, .int .i64 v, .int .i64 t, .slice fa fs.length fc, .slice ua us.length uc, .int .i64 f0, .int .i64 f1]] W fun e w' => e = .returned (.bool (toldD fs us)) ∧ ∃ j, w' = W.more j) := fun W hW => report_told c0 c1 c2 c3 c4 c5 a l c v t fa fs fc ua us uc f0 f1 hfl hul m W (max_keep hM hW) (SlFl.keep hF hW) ((hU.below hW (Nat.le_refl _)).mono hW.size (fun _ _ _ h => h))
  have hlt : (l.take n).length = n := by simp; omega
  have HAL : Hid (∀ W, Below w.heap.size w W → Calls Tryz.prog 30 #[.slice a n c] W fun e w' => e = .returned (.bool ((l.take n).all okK)) ∧ ∃ j, w' = W.more j) := fun W hW => by
    have := report_allowed a (l.take n) c (by omega) W (SlR.take (SlRc.keep hS hW) n)
    rw [hlt] at this
    exact this
  obtain ⟨b, off, ha, hbb, d0, d1, d2, d3, d4, d5⟩ := SlR.atRc hS (k := n) (by omega)
  subst ha
  clear d0 d1 d2 d3 d4
  have hzz : l[n]'(by omega) = z := by
    rw [List.getElem?_eq_getElem (by omega)] at hz
    exact Option.some.inj hz
  rw [hzz] at d5
  have HND : Hid (noneD fs us = (decide ((fs.length : Int) = 0) && decide ((us.length : Int) = 0))) := by
    show _ = _
    unfold noneD
    cases fs <;> cases us <;> simp <;> omega
  have hwr : IntKind.i64.wrap ((n : Int) + 1 - 1) = n := by rw [show (n : Int) + 1 - 1 = n by omega]; exact IntWalk.i64_in _ (by omega)
  rw [hn] at hcap HTO ⊢
  have HQ := fun W => neq2 f0 f1 0 0 W
  have hnb : (n : Int) ≤ 1000000 := by omega
  have hn0 : ¬ (n : Int) < 0 := by omega
  have hnd : decide ((n : Int) < 0) = false := decide_eq_false hn0
  generalize toldD fs us = bt at HTO ⊢
  generalize noneD fs us = bn at HND ⊢
  generalize (l.take n).all okK = bk at HAL ⊢
  generalize eq2 f0 f1 0 0 = b2 at HQ ⊢
  obtain ⟨z0, z1, z2, z3, z4, zk⟩ := z
  simp only at d5 ⊢
  have hnc : (n : Int) ≤ c := by omega
  clear hR hS hF hU hM hul hfl hll h0 hz hzl hdl hzz hlt hn
  generalize fs.length = nf at HTO HND ⊢
  generalize us.length = nu at HTO HND ⊢
  by_cases ht : t = (n : Int)
  rotate_left
  · have e1 : (t != (n : Int)) = true := by simpa using ht
    rw [decide_eq_false ht, Bool.false_and]
    clear HTO HAL HND HQ
    go_enter Tryz.func31, Tryz.ntmps31
    go_wp2_with fail
    refine wp_region_more (by kernel_rfl) (by kernel_rfl) ?_
    repeat (go_big_quiet_step (first | fail))
    refine wpQuiet_nil ?_
    intro w' hw'
    obtain ⟨j, rfl⟩ := hw'
    go_wp2_with fail
    go_ret
    exact ⟨rfl, Below.junk (by repeat (first | (with_reducible exact Below.refl _ _) | (with_reducible refine Below.allocS ?_ _) | (with_reducible refine Below.moreS ?_ _) | (with_reducible refine Below.drew ?_) | (with_reducible refine below_drewN ?_ _)))⟩
  rw [decide_eq_true ht, Bool.true_and]
  have e1 : (t != (n : Int)) = false := by simpa using ht
  by_cases hk : zk = v
  rotate_left
  · have e2 : (zk != v) = true := by simpa using hk
    rw [decide_eq_false hk, Bool.false_and]
    clear HTO HAL HND HQ ht hv
    go_enter Tryz.func31, Tryz.ntmps31
    go_wp2_with fail
    refine wp_region_more (by kernel_rfl) (by kernel_rfl) ?_
    repeat (go_big_quiet_step (first | fail))
    refine wpQuiet_nil ?_
    intro w' hw'
    obtain ⟨j, rfl⟩ := hw'
    go_wp2_with fail
    go_ret
    exact ⟨rfl, Below.junk (by repeat (first | (with_reducible exact Below.refl _ _) | (with_reducible refine Below.allocS ?_ _) | (with_reducible refine Below.moreS ?_ _) | (with_reducible refine Below.drew ?_) | (with_reducible refine below_drewN ?_ _)))⟩
  rw [decide_eq_true hk, Bool.true_and]
  have e2 : (zk != v) = false := by simpa using hk
  clear ht hk
  cases bk
  case false =>
    clear HTO HND HQ hv
    simp only [Bool.false_and]
    go_enter Tryz.func31, Tryz.ntmps31
    go_wp2_with fail
    refine wp_region_more (by kernel_rfl) (by kernel_rfl) ?_
    repeat (go_big_quiet_step (first | (go_at_call 30; with_reducible exact more_of (HAL.out _ (by repeat (first | (with_reducible exact Below.refl _ _) | (with_reducible refine Below.allocS ?_ _) | (with_reducible refine Below.moreS ?_ _) | (with_reducible refine Below.drew ?_) | (with_reducible refine below_drewN ?_ _)))))))
    refine wpQuiet_nil ?_
    intro w' hw'
    obtain ⟨j, rfl⟩ := hw'
    go_wp2_with fail
    go_ret
    exact ⟨rfl, Below.junk (by repeat (first | (with_reducible exact Below.refl _ _) | (with_reducible refine Below.allocS ?_ _) | (with_reducible refine Below.moreS ?_ _) | (with_reducible refine Below.drew ?_) | (with_reducible refine below_drewN ?_ _)))⟩
  cases b2
  case false =>
    clear HTO HND hv
    simp only [Bool.not_false] at HQ
    simp only [Bool.true_and, Bool.false_and]
    go_enter Tryz.func31, Tryz.ntmps31
    go_wp2_with fail
    refine wp_region_more (by kernel_rfl) (by kernel_rfl) ?_
    repeat (go_big_quiet_step (first | (go_at_call 30; with_reducible exact more_of (HAL.out _ (by repeat (first | (with_reducible exact Below.refl _ _) | (with_reducible refine Below.allocS ?_ _) | (with_reducible refine Below.moreS ?_ _) | (with_reducible refine Below.drew ?_) | (with_reducible refine below_drewN ?_ _)))))))
    refine wpQuiet_nil ?_
    intro w' hw'
    obtain ⟨j, rfl⟩ := hw'
    go_wp2_with fail
    go_ret
    exact ⟨rfl, Below.junk (by repeat (first | (with_reducible exact Below.refl _ _) | (with_reducible refine Below.allocS ?_ _) | (with_reducible refine Below.moreS ?_ _) | (with_reducible refine Below.drew ?_) | (with_reducible refine below_drewN ?_ _)))⟩
  simp only [Bool.not_true] at HQ
  simp only [Bool.true_and]
  by_cases hv3 : v = 3
  · subst hv3
    clear HND hv
    rw [if_pos rfl]
    go_enter Tryz.func31, Tryz.ntmps31
    go_wp2_with fail
    refine wp_region_more (by kernel_rfl) (by kernel_rfl) ?_
    repeat (go_big_quiet_step (first | (go_at_call 30; with_reducible exact more_of (HAL.out _ (by repeat (first | (with_reducible exact Below.refl _ _) | (with_reducible refine Below.allocS ?_ _) | (with_reducible refine Below.moreS ?_ _) | (with_reducible refine Below.drew ?_) | (with_reducible refine below_drewN ?_ _)))))))
    refine wpQuiet_nil ?_
    intro w' hw'
    obtain ⟨j, rfl⟩ := hw'
    go_wp2_with (go_at_call 74; (with_reducible refine (HTO.out _ (by repeat (first | (with_reducible exact Below.refl _ _) | (with_reducible refine Below.allocS ?_ _) | (with_reducible refine Below.moreS ?_ _) | (with_reducible refine Below.drew ?_) | (with_reducible refine below_drewN ?_ _)))).mono ?_); rintro e w' ⟨rfl, j, rfl⟩)
    go_ret
    exact ⟨rfl, Below.junk (by repeat (first | (with_reducible exact Below.refl _ _) | (with_reducible refine Below.allocS ?_ _) | (with_reducible refine Below.moreS ?_ _) | (with_reducible refine Below.drew ?_) | (with_reducible refine below_drewN ?_ _)))⟩
  · have e3 : (v == 3) = false := by simpa using hv3
    rw [if_neg hv3]
    have e4 : ((nf : Int) == 0) = decide ((nf : Int) = 0) := rfl
    have e5 : ((nu : Int) == 0) = decide ((nu : Int) = 0) := rfl
    clear HTO hv
    cases g1 : decide ((nf : Int) = 0) <;> cases g2 : decide ((nu : Int) = 0)
    all_goals
      have hb : bn = _ := HND.out
      rw [g1, g2] at hb
      subst hb
      rw [g1] at e4
      rw [g2] at e5
      clear HND g1 g2
      go_enter Tryz.func31, Tryz.ntmps31
      go_wp2_with fail
      refine wp_region_more (by kernel_rfl) (by kernel_rfl) ?_
      repeat (go_big_quiet_step (first | (go_at_call 30; with_reducible exact more_of (HAL.out _ (by repeat (first | (with_reducible exact Below.refl _ _) | (with_reducible refine Below.allocS ?_ _) | (with_reducible refine Below.moreS ?_ _) | (with_reducible refine Below.drew ?_) | (with_reducible refine below_drewN ?_ _)))))))
      refine wpQuiet_nil ?_
      intro w' hw'
      obtain ⟨j, rfl⟩ := hw'
      go_wp2_with fail
      go_ret
      exact ⟨rfl, Below.junk (by repeat (first | (with_reducible exact Below.refl _ _) | (with_reducible refine Below.allocS ?_ _) | (with_reducible refine Below.moreS ?_ _) | (with_reducible refine Below.drew ?_) | (with_reducible refine below_drewN ?_ _)))⟩
end Go.Proofs.YtbdmepidabnfkaaGreatDoor
