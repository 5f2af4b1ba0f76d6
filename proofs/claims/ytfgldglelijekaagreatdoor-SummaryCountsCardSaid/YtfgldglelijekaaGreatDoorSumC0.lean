/-
  The statement SummaryAdds, ahead of its frame.
-/
import Derived.Test.YtfgldglelijekaaGreatDoorSum5
namespace Go.Proofs.YtfgldglelijekaaGreatDoor
set_option linter.unusedSimpArgs false
set_option linter.unusedVariables false
set_option linter.unusedSectionVars false
open Go.ChangeShapes Go.WideShapes Go.ChangeAt Go.RowKit Go.Deep Go.Shelf

abbrev RpT : TypeId := 29
def lgB (l fn u : Nat) : Bool := decide (60 < (l : Int)) || (decide (60 < (fn : Int)) || decide (60 < (u : Int)))
set_option maxHeartbeats 4000000 in
set_option maxRecDepth 100000 in
theorem ref43_Large (x0 x1 x2 x3 x4 x5 : Int) (xa : Option Addr) (xl : List Rec) (xc : Nat) (xv xt : Int) (xfa : Option Addr) (xfn xfc : Nat) (xua : Option Addr) (xu : List Int) (xuc : Nat) (xf0 xf1 : Int) (w : World) :
    Calls Tryz.prog 4 #[.agg #[.int .i64 x0, .int .i64 x1, .int .i64 x2, .int .i64 x3, .int .i64 x4, .int .i64 x5, .slice xa xl.length xc, .int .i64 xv, .int .i64 xt, .slice xfa xfn xfc, .slice xua xu.length xuc, .int .i64 xf0, .int .i64 xf1]] w fun e w' => e = .returned (.bool (lgB xl.length xfn xu.length)) ∧ ∃ j, w' = w.more j := by
  unfold lgB
  generalize xl.length = n1
  generalize xu.length = n3
  by_cases h1 : (60 : Int) < n1
  · rw [decide_eq_true h1, Bool.true_or]
    go_enter Tryz.func4, Tryz.ntmps4
    go_wp2_with fail
    go_ret
    exact ⟨rfl, Below.junk (by repeat (first | (with_reducible exact Below.refl _ _) | (with_reducible refine Below.allocS ?_ _) | (with_reducible refine Below.moreS ?_ _) | (with_reducible refine Below.drew ?_) | (with_reducible refine below_drewN ?_ _)))⟩
  · rw [decide_eq_false h1, Bool.false_or]
    by_cases h2 : (60 : Int) < xfn
    · rw [decide_eq_true h2, Bool.true_or]
      go_enter Tryz.func4, Tryz.ntmps4
      go_wp2_with fail
      go_ret
      exact ⟨rfl, Below.junk (by repeat (first | (with_reducible exact Below.refl _ _) | (with_reducible refine Below.allocS ?_ _) | (with_reducible refine Below.moreS ?_ _) | (with_reducible refine Below.drew ?_) | (with_reducible refine below_drewN ?_ _)))⟩
    · rw [decide_eq_false h2, Bool.false_or]
      by_cases h3 : (60 : Int) < n3
      · rw [decide_eq_true h3]
        go_enter Tryz.func4, Tryz.ntmps4
        go_wp2_with fail
        go_ret
        exact ⟨rfl, Below.junk (by repeat (first | (with_reducible exact Below.refl _ _) | (with_reducible refine Below.allocS ?_ _) | (with_reducible refine Below.moreS ?_ _) | (with_reducible refine Below.drew ?_) | (with_reducible refine below_drewN ?_ _)))⟩
      · rw [decide_eq_false h3]
        go_enter Tryz.func4, Tryz.ntmps4
        go_wp2_with fail
        go_ret
        exact ⟨rfl, Below.junk (by repeat (first | (with_reducible exact Below.refl _ _) | (with_reducible refine Below.allocS ?_ _) | (with_reducible refine Below.moreS ?_ _) | (with_reducible refine Below.drew ?_) | (with_reducible refine below_drewN ?_ _)))⟩
theorem st_rec : SliceTy Tryz.prog 24 42 (.agg #[.int .i64 0, .int .i64 0, .int .i64 0, .int .i64 0, .int .i64 0, .int .i64 0]) 6 48 := .mk' Tryz.underlying24 (by kernel_rfl) rfl (by omega)
theorem recL_one (x : Rec) : ∀ u ∈ recL x, u.oneCell' = true := by intro u hu; simp [recL] at hu; rcases hu with rfl | rfl | rfl | rfl | rfl | rfl <;> rfl
abbrev OwnRc (B : Nat) (w : World) (v : Value) (l : List Rec) : Prop := OwnC 42 6 recL B w v l
theorem ownRc_zero {w : World} {B g : Nat} (h : Blk w g 42 #[]) (hB : B ≤ g) : OwnRc B w (.slice (some ⟨g, 0, none⟩) 0 0) [] :=
  ⟨rfl, .inr ⟨g, 0, #[], rfl, hB, h, Nat.le_refl _, Nat.zero_le _, rfl, rfl⟩⟩
theorem step_recs {ops : Array Oper} {o : Oper} {a : Act} {K : Act → World → Prop} {Q : Exit → Act → World → Prop} {E : Prop} {w : World} (s x : Operand) (hgd : o.guard = none) (ho : o.op = .call { callee := .builtin .append, args := #[s, x], argTypes := #[24, 24] })
    {B : Nat} {v : Value} {l m : List Rec} (hs : a.eval s = v) (hown : OwnRc B w v l) {A : Option Addr} {c : Nat} (hx : a.eval x = .slice A m.length c) (hm : SlRc w w.heap.size A m) (hl : l.length + m.length ≤ 1048576) (hB : B ≤ w.heap.size)
    (h : ∀ v' w', OwnRc B w' v' (l ++ m) → Below B w w' → K (a.put o.dst v') w') : if Region.wanted o (yielded ops a.tmps) = true then Oper.wp Tryz.prog o a w K Q else E := by
  refine step_app_sl st_rec s x hgd ho hs hown hx rfl hm (fun _ _ _ h => h) (fun _ _ => rfl) (fun y _ => recL_one y) (by unfold maxLen; omega) (by omega) hB (fun v' w' h1 h2 => h v' w' ?_ (own_grown (Below.refl B w) hown h2 (Nat.le_refl _) hB))
  unfold OwnRc OwnC
  rw [List.flatMap_append, List.length_append]
  exact h1
def sumT (L : List Rec) (n : Nat) : Int := (List.range n).foldl (fun s i => s + tot (4 + i) L) 0
theorem sumT_step (L : List Rec) (n : Nat) : sumT L (n + 1) = sumT L n + tot (4 + n) L := by unfold sumT; rw [List.range_succ, List.foldl_append]; rfl
theorem sumT_bd (L : List Rec) (hL : L.length ≤ 1000) : ∀ n, 0 ≤ sumT L n ∧ sumT L n ≤ 16777224000 * n
  | 0 => by simp [sumT]
  | n + 1 => by
    have h1 := sumT_bd L hL n
    have h2 := tot_bd (4 + n) L
    rw [sumT_step]
    omega
end Go.Proofs.YtfgldglelijekaaGreatDoor
