/-
  Summaries: their lines: the program's.
-/
import Derived.Test.YtfgldglelijekaaGreatDoorSum4
import Derived.Test.YtfgldglelijekaaGreatDoorHeldB
import Derived.Test.YtfgldglelijekaaGreatDoorFlt10
namespace Go.Proofs.YtfgldglelijekaaGreatDoor
set_option linter.unusedSimpArgs false
set_option linter.unusedVariables false
set_option linter.unusedSectionVars false
open Go.ChangeShapes Go.WideShapes Go.ChangeAt Go.RowKit Go.Deep Go.Shelf

def partL (w : List UInt8) (n : Int) : List (List UInt8) := if 0 < n then [w ++ 32 :: Lib.itoa n] else []
def sideL (F : Nat → Int) (s : Nat) : List UInt8 := Lib.join [sideF (s : Int), Lib.itoa (F s), Lib.itoa (F (2 + s))] [32]
def typesL (F : Nat → Int) (n : Nat) : List (List UInt8) := (List.range n).flatMap fun (t : Nat) => partL (nameF (t : Int)) (F (4 + t))
def kindsL (F : Nat → Int) (n : Nat) : List (List UInt8) := (List.range n).flatMap fun (q : Nat) => partL (kindF ((q : Int) + 1)) (F (16 + q))
def secL (secs : List (List UInt8)) : List (List UInt8) := if secs = [] then [] else [Lib.join ([115, 101, 99, 116, 105, 111, 110, 115] :: secs) [32]]
def linesS (F : Nat → Int) (secs : List (List UInt8)) : List (List UInt8) := [sideL F 0, sideL F 1] ++ typesL F 10 ++ partL [111, 116, 104, 101, 114, 115] (F 14) ++ kindsL F 4 ++ secL secs
theorem partL_len (w : List UInt8) (n : Int) : (partL w n).length ≤ 1 := by unfold partL; split <;> simp
theorem typesL_step (F : Nat → Int) (n : Nat) : typesL F (n + 1) = typesL F n ++ partL (nameF (n : Int)) (F (4 + n)) := by
  unfold typesL; rw [List.range_succ, List.flatMap_append]; simp
theorem kindsL_step (F : Nat → Int) (n : Nat) : kindsL F (n + 1) = kindsL F n ++ partL (kindF ((n : Int) + 1)) (F (16 + n)) := by
  unfold kindsL; rw [List.range_succ, List.flatMap_append]; simp
theorem typesL_len (F : Nat → Int) : ∀ n, (typesL F n).length ≤ n
  | 0 => by simp [typesL]
  | n + 1 => by rw [typesL_step, List.length_append]; have := typesL_len F n; have := partL_len (nameF n) (F (4 + n)); omega
theorem kindsL_len (F : Nat → Int) : ∀ n, (kindsL F n).length ≤ n
  | 0 => by simp [kindsL]
  | n + 1 => by rw [kindsL_step, List.length_append]; have := kindsL_len F n; have := partL_len (kindF ((n : Int) + 1)) (F (16 + n)); omega

theorem step_text {ops : Array Oper} {o : Oper} {a : Act} {K : Act → World → Prop} {Q : Exit → Act → World → Prop} {E : Prop} {w : World} (s x : Operand) (hgd : o.guard = none) (ho : o.op = .call { callee := .builtin .append, args := #[s, x], argTypes := #[35, 35] })
    {B : Nat} {v : Value} {l : List (List UInt8)} {c : List UInt8} (hs : a.eval s = v) (hown : OwnX B w v l) {g cc : Nat} {e' : TypeId} (hx : a.eval x = .slice (some ⟨g, 0, none⟩) 1 cc) (hb : Blk w g e' #[bstr c]) (hl : l.length + 1 ≤ 1048576) (hB : B ≤ w.heap.size)
    (h : ∀ v' w', OwnX B w' v' (l ++ [c]) → Below B w w' → K (a.put o.dst v') w') : if Region.wanted o (yielded ops a.tmps) = true then Oper.wp Tryz.prog o a w K Q else E := by
  refine step_app st_texts s x hgd ho hs hown hx hb rfl (by intro u hu; simp at hu; subst hu; rfl) (by unfold maxLen; omega) (by omega) hB (fun v' w' h1 h2 => h v' w' ?_ (own_grown (Below.refl B w) hown h2 (Nat.le_refl _) hB))
  unfold OwnX
  rw [List.map_append, List.length_append]
  exact h1
theorem app_texts {ops : Array Oper} {rest : List Oper} {o : Oper} {a : Act} {Q : Exit → Act → World → Prop} {w : World}
    (s x : Operand) (hgd : o.guard = none) (ho : o.op = .call { callee := .builtin .append, args := #[s, x], argTypes := #[35, 35] })
    {B : Nat} {v : Value} {l m : List (List UInt8)} (hs : a.eval s = v) (hown : OwnX B w v l)
    {A : Option Addr} {c : Nat} (hx : a.eval x = .slice A m.length c) (hm : SlX w w.heap.size A m)
    (hl : l.length + m.length ≤ 1048576) (hB : B ≤ w.heap.size)
    (h : ∀ v' w', OwnX B w' v' (l ++ m) → Below B w w' → wpList Tryz.prog ops Q rest (a.put o.dst v') w') : wpList Tryz.prog ops Q (o :: rest) a w := by
  obtain ⟨v', w', hr, h2, h3⟩ := run_app_sl (ty := o.type) (c := c) st_texts hown (cf := fun s => [bstr s]) hm (fun _ _ _ h => h.1) (fun _ _ => rfl) (fun y _ u hu => by simp at hu; subst hu; rfl) (by unfold maxLen; omega) (by omega) hB
  refine wpList_plain hgd fun K hK => ?_
  unfold Oper.wp execOp
  simp only [ho, resolve, invoke, builtin, Sem.run_bind, Sem.run_pure, Result.andThen_ok, List.map_toArray, List.map_cons, List.map_nil, hs, hx, hr]
  refine hK _ _ (h v' w' ?_ (own_grown (Below.refl B w) hown h3 (Nat.le_refl _) hB))
  unfold OwnX
  have e : m.flatMap (fun s => [bstr s]) = m.map bstr := by clear h2 hr h3 hm hx hl h; induction m <;> simp_all
  rw [e] at h2
  rw [List.map_append, List.length_append]
  exact h2
theorem OwnX.of_new {w : World} {B g : Nat} {c : List UInt8} (h : Blk w g 9 #[bstr c]) (hB : B ≤ g) : OwnX B w (.slice (some ⟨g, 0, none⟩) 1 1) [c] :=
  ⟨rfl, .inr ⟨g, 1, #[bstr c], rfl, hB, h, Nat.le_refl _, by unfold maxLen; omega, rfl, rfl⟩⟩
/-- A row of the call's own with some texts more. -/
def MoreX (B : Nat) (l : List (List UInt8)) (w : World) (e : Ending) (w' : World) : Prop := ∃ v, e = .returned v ∧ OwnX B w' v l ∧ Below B w w'
set_option maxHeartbeats 4000000 in
set_option maxRecDepth 100000 in
theorem summary_some (B : Nat) (v : Value) (l : List (List UInt8)) (s : List UInt8) (n : Int) (hs : s.length ≤ 1000) (h0 : goodI n) (hl : l.length ≤ 100000) (w : World) (hB : B ≤ w.heap.size) (ho : OwnX B w v l) (hE : EnvP w) :
    Calls Tryz.prog 19 #[v, bstr s, .int .i64 n] w (MoreX B (l ++ partL s n) w) := by
  have HO := Lib.hid ho
  have HE := Lib.hid hE
  have HBB := Lib.hid hB
  obtain ⟨g0, g1⟩ := h0
  have hlen := itoa_len g0 g1
  by_cases hn : 0 < n
  · have HD := Lib.hid (digits_Text0 n g0 g1 w hE)
    have hR : l ++ partL s n = l ++ [s ++ 32 :: Lib.itoa n] := by unfold partL; rw [if_pos hn]
    rw [hR]
    generalize Lib.itoa n = T at HD hlen ⊢
    clear ho hE hR hB g0 g1
    go_enter Tryz.func19, Tryz.ntmps19
    go_wp2_with fail
    refine HD.out.mono ?_
    rintro e w' ⟨rfl, j, rfl⟩
    go_wp2_with (at_builtin; refine app_text (.tmp 9) (.tmp 15) rfl rfl rfl (HO.out.below (C := w.heap.size) (by repeat (first | (with_reducible exact Below.refl _ _) | (with_reducible refine Below.allocS ?_ _) | (with_reducible refine Below.moreS ?_ _) | (with_reducible refine Below.drew ?_) | (with_reducible refine below_drewN ?_ _))) (Nat.le_refl _)) rfl (Blk.at_ _ _ _ (by simp)) (by omega) (by have := HBB.out; simp only [World.size_alloc, World.size_more]; omega) ?_; intro v' w2 hown hbw)
    have HO2 := Lib.hid hown
    have HB2 : Hid (Below B w w2) := by
      refine Below.trans ?_ hbw
      exact Below.mono (B := w.heap.size) (by repeat (first | (with_reducible exact Below.refl _ _) | (with_reducible refine Below.allocS ?_ _) | (with_reducible refine Below.moreS ?_ _) | (with_reducible refine Below.drew ?_) | (with_reducible refine below_drewN ?_ _))) HBB.out
    clear hown hbw
    go_wp2_with fail
    go_ret
    exact ⟨_, rfl, HO2.out, HB2.out⟩
  · have hR : l ++ partL s n = l := by unfold partL; rw [if_neg hn]; simp
    rw [hR]
    clear ho hE hR hB g0 g1
    go_enter Tryz.func19, Tryz.ntmps19
    go_wp2_with fail
    go_ret
    exact ⟨_, rfl, HO.out, Below.refl _ _⟩
end Go.Proofs.YtfgldglelijekaaGreatDoor
