/-
  Parts of the proof, one behind the other: contracts of the program and plain laws; no condition of their own.
-/
import Derived.Test.YtmlbomblbdbikaaGreatDoorMa
import Derived.Test.YtmlbomblbdbikaaGreatDoorMb
import Derived.BigGuardPart
import Derived.Laws.StructEq
import Derived.ChangeKeysEq
import Derived.Test.YtmlbomblbdbikaaGreatDoorMm
import Derived.OpenShut
import Derived.ChangeSame
/-
  What a stream's state lets each side send: the program's and the document's.
-/
namespace Go.Proofs.YtmlbomblbdbikaaGreatDoor
set_option linter.unusedSimpArgs false
set_option linter.unusedVariables false
set_option linter.unusedSectionVars false
open Go.ChangeShapes Go.WideShapes Go.ChangeAt Go.RowKit Go.Deep

/-- A stream's state. -/
structure Lf where
  kind : Int
  owner : Int
  e0 : Bool
  e1 : Bool
  by_ : Int
abbrev lfC (k o : Int) (a b : Bool) (y : Int) : Value := .agg #[.int .i64 k, .int .i64 o, .bool a, .bool b, .int .i64 y]
def promLf (k o : Int) (b : Bool) (y s : Int) (kp : Bool) : Int × Int := if s = 1 ∧ o = 0 ∧ (k = 3 ∧ b = false ∨ k = 4 ∧ y = 0 ∧ kp = true) then (1, 0) else (3, 22)
def closLf (y s t : Int) (kp : Bool) : Int × Int := if kp = false then (3, 16) else if y = s then (3, 15) else if y = 2 ∧ ¬ (t = 3 ∨ t = 8) then (3, 14) else (2, 0)
set_option maxRecDepth 100000 in
theorem life_breaks (r : Int) (u : Bool) (w : World) : Calls Tryz.prog 31 #[.int .i64 r, .bool u] w fun e w' => e = .returned (.tuple #[.int .i64 (if u = true then 1 else 3), .int .i64 (if u = true then 0 else r)]) ∧ w = w' := by
  cases u
  all_goals
    go_enter Tryz.func31, Tryz.ntmps31
    go_wp2_with fail
    go_ret2
    exact ⟨rfl, rfl⟩
set_option maxHeartbeats 4000000 in
set_option maxRecDepth 100000 in
theorem life_promise (k o : Int) (a b : Bool) (y s : Int) (kp : Bool) (w : World) : Calls Tryz.prog 30 #[lfC k o a b y, .int .i64 s, .bool kp] w fun e w' => e = .returned (.tuple #[.int .i64 (promLf k o b y s kp).1, .int .i64 (promLf k o b y s kp).2]) ∧ ∃ j, w' = w.more j := by
  have HB : Hid (∀ u W, Calls Tryz.prog 31 #[.int .i64 22, .bool u] W fun e w' => e = .returned (.tuple #[.int .i64 (if u = true then 1 else 3), .int .i64 (if u = true then 0 else 22)]) ∧ W = w') := life_breaks 22
  have HP : Hid (promLf k o b y s kp = if s = 1 ∧ o = 0 ∧ (k = 3 ∧ b = false ∨ k = 4 ∧ y = 0 ∧ kp = true) then (1, 0) else (3, 22)) := rfl
  generalize promLf k o b y s kp = R at HP ⊢
  go_enter Tryz.func30, Tryz.ntmps30
  go_wp2_with (go_at_call 31; (with_reducible refine (HB.out _ _).mono ?_); rintro e w' ⟨rfl, rfl⟩)
  all_goals
    go_ret2
    exact ⟨by rw [HP.out]; first | (simp_all; done) | (simp_all; rfl) | (simp_all; omega) | grind | (simp_all <;> intros <;> simp_all <;> omega), Below.junk bel⟩
set_option maxRecDepth 100000 in
theorem life_sided (n : Int) (w : World) : Calls Tryz.prog 29 #[.int .i64 n] w fun e w' => e = .returned (.bool (decide (n = 0 ∨ n = 1))) ∧ w = w' := by
  by_cases h : n = 0
  · subst h
    go_enter Tryz.func29, Tryz.ntmps29
    go_wp2_with fail
    go_ret
    exact ⟨rfl, rfl⟩
  · have h2 : (n == 0) = false := by simpa using h
    have e : decide (n = 0 ∨ n = 1) = (n == 1) := by by_cases h1 : n = 1 <;> simp [h, h1]
    rw [e]
    clear e
    go_enter Tryz.func29, Tryz.ntmps29
    go_wp2_with fail
    go_ret
    exact ⟨rfl, rfl⟩
set_option maxHeartbeats 4000000 in
set_option maxRecDepth 100000 in
theorem life_closed (k o : Int) (a b : Bool) (y s t : Int) (kp : Bool) (w : World) : Calls Tryz.prog 34 #[lfC k o a b y, .int .i64 s, .int .i64 t, .bool kp] w fun e w' => e = .returned (.tuple #[.int .i64 (closLf y s t kp).1, .int .i64 (closLf y s t kp).2]) ∧ ∃ j, w' = w.more j := by
  have HP : Hid (closLf y s t kp = if kp = false then (3, 16) else if y = s then (3, 15) else if y = 2 ∧ ¬ (t = 3 ∨ t = 8) then (3, 14) else (2, 0)) := rfl
  generalize closLf y s t kp = R at HP ⊢
  go_enter Tryz.func34, Tryz.ntmps34
  go_wp2_with fail
  all_goals
    go_ret2
    exact ⟨by rw [HP.out]; first | (simp_all; done) | (simp_all; rfl) | (simp_all; omega) | grind | (simp_all <;> intros <;> simp_all <;> omega), Below.junk bel⟩
def skipLf (o s t : Int) : Int × Int := if t = 1 ∧ s = o then (3, 11) else (3, 16)
set_option maxHeartbeats 4000000 in
set_option maxRecDepth 100000 in
theorem life_skipped (k o : Int) (a b : Bool) (y s t : Int) (w : World) : Calls Tryz.prog 32 #[lfC k o a b y, .int .i64 s, .int .i64 t] w fun e w' => e = .returned (.tuple #[.int .i64 (skipLf o s t).1, .int .i64 (skipLf o s t).2]) ∧ ∃ j, w' = w.more j := by
  have HP : Hid (skipLf o s t = if t = 1 ∧ s = o then (3, 11) else (3, 16)) := rfl
  generalize skipLf o s t = R at HP ⊢
  go_enter Tryz.func32, Tryz.ntmps32
  go_wp2_with fail
  all_goals
    go_ret2
    exact ⟨by rw [HP.out]; first | (simp_all; done) | (simp_all; rfl) | (simp_all; omega) | grind | (simp_all <;> intros <;> simp_all <;> omega), Below.junk bel⟩
def resvLf (s t : Int) : Bool := decide (t = 1 ∧ s = 1 ∨ t = 8 ∧ s = 0 ∨ t = 3)
set_option maxHeartbeats 4000000 in
set_option maxRecDepth 100000 in
theorem life_reserved (s t : Int) (w : World) : Calls Tryz.prog 33 #[.int .i64 s, .int .i64 t] w fun e w' => e = .returned (.bool (resvLf s t)) ∧ ∃ j, w' = w.more j := by
  have HP : Hid (resvLf s t = decide (t = 1 ∧ s = 1 ∨ t = 8 ∧ s = 0 ∨ t = 3)) := rfl
  generalize resvLf s t = R at HP ⊢
  go_enter Tryz.func33, Tryz.ntmps33
  go_wp2_with fail
  all_goals
    go_ret
    exact ⟨by rw [HP.out]; first | (simp_all; done) | (simp_all; rfl) | (simp_all; omega) | grind | (simp_all <;> intros <;> simp_all <;> omega), Below.junk bel⟩
abbrev LfT : TypeId := 47
abbrev B2T : TypeId := 45
theorem b2_cells : Tryz.prog.cellsOf 4 = 1 := by kernel_rfl
theorem b2_agg : ∀ w, (isAgg 4).run Tryz.prog w = .ok false w := fun w => by simp [isAgg, run_underlying Tryz.underlying4]
theorem lf_fields : Tryz.prog.underlying LfT = some (.struct (Tryz.prog.fieldsOf LfT)) := by kernel_rfl
theorem lf_plain : Tryz.prog.stoodInHeld LfT = false := by kernel_rfl
set_option maxRecDepth 100000 in
theorem b2_run (n : Nat) (a b c d : Bool) (w : World) : (Op.equalIn (n + 2) B2T (.agg #[.bool a, .bool b]) (.agg #[.bool c, .bool d])).run Tryz.prog w = .ok (decide (a = c) && decide (b = d)) w := by
  obtain ⟨i, hi⟩ : ∃ i, Tryz.prog.info? 4 = some i := Option.isSome_iff_exists.1 (by kernel_rfl)
  have he : ∀ x y : Bool, (Op.equalIn (n + 1) 4 (.bool x) (.bool y)).run Tryz.prog w = .ok (decide (x = y)) w := fun x y => by
    simp [Op.equalIn, run_underlying Tryz.underlying4]
    try (cases x <;> cases y <;> rfl)
  rw [show n + 2 = (n + 1) + 1 from rfl, run_equalIn_array w (n + 1) _ _ Tryz.underlying45 hi, b2_cells, show List.range 2 = [0, 1] from rfl]
  by_cases h1 : a = c <;> by_cases h2 : b = d <;> simp [Op.eqItems, part, b2_agg, he, h1, h2]
def lfEq (k o : Int) (a b : Bool) (y k' o' : Int) (a' b' : Bool) (y' : Int) : Bool := decide (k = k' ∧ o = o' ∧ a = a' ∧ b = b' ∧ y = y')
set_option maxRecDepth 100000 in
theorem lf_eql (k o : Int) (a b : Bool) (y k' o' : Int) (a' b' : Bool) (y' : Int) (w : World) : (binOp .eql LfT (lfC k o a b y) (lfC k' o' a' b' y')).run Tryz.prog w = .ok (.bool (lfEq k o a b y k' o' a' b' y')) w := by
  have u3 := Tryz.underlying3
  have ag := Tryz.isAgg3
  have z3 := Tryz.sizeOf3
  have ag2 := Tryz.isAgg45
  have z2 := Tryz.sizeOf45
  have hb : ∀ w', (Op.equalIn 9999 B2T (.agg #[.bool a, .bool b]) (.agg #[.bool a', .bool b'])).run Tryz.prog w' = .ok (decide (a = a') && decide (b = b')) w' := fun w' => b2_run 9997 a b a' b' w'
  rw [run_eql_struct, show (10000 : Nat) = 9999 + 1 from rfl, run_equalIn_agg w 9999 LfT _ _ lf_fields lf_plain]
  simp only [Program.fieldsOf, Tryz.underlying47]
  have hI : ∀ (x z : Int) w', (Op.equalIn 9999 3 (.int .i64 x) (.int .i64 z)).run Tryz.prog w' = .ok (x == z) w' := fun x z w' => run_equalIn_int w' 9998 _ .i64 .i64 x z Tryz.underlying3
  generalize hD : (9999 : Nat) = D at hb hI ⊢
  go_simp
  unfold lfEq
  by_cases h1 : k = k' <;> by_cases h2 : o = o' <;> by_cases h3 : a = a' <;> by_cases h4 : b = b' <;> by_cases h5 : y = y' <;> simp [h1, h2, h3, h4, h5, Result.andThen]
theorem b2_neq (a b c d : Bool) (w : World) : (binOp .neq B2T (.agg #[.bool a, .bool b]) (.agg #[.bool c, .bool d])).run Tryz.prog w = .ok (.bool (!(decide (a = c) && decide (b = d)))) w := by
  rw [run_neq_struct, b2_run 9998]; rfl
theorem b2_eql (a b c d : Bool) (w : World) : (binOp .eql B2T (.agg #[.bool a, .bool b]) (.agg #[.bool c, .bool d])).run Tryz.prog w = .ok (.bool (decide (a = c) && decide (b = d))) w := by
  rw [run_eql_struct, b2_run 9998]; rfl
def rightLf (k o : Int) (a b : Bool) (y : Int) : Bool := decide ((o = 0 ∨ o = 1) ∧ ((k = 0 ∨ k = 1) ∧ a = false ∧ b = false ∧ y = 0 ∨ k = 2 ∧ a = false ∧ b = false ∧ y = 0 ∧ o = 1 ∨ k = 3 ∧ (a = false ∨ b = false) ∧ y = 0 ∨ k = 4 ∧ a = false ∧ b = false ∧ 0 ≤ y ∧ y ≤ 2))
set_option maxHeartbeats 4000000 in
set_option maxRecDepth 100000 in
theorem life_Right (k o : Int) (a b : Bool) (y : Int) (w : World) : Calls Tryz.prog 28 #[lfC k o a b y] w fun e w' => e = .returned (.bool (rightLf k o a b y)) ∧ ∃ j, w' = w.more j := by
  have HS : Hid (∀ W, Calls Tryz.prog 29 #[.int .i64 o] W fun e w' => e = .returned (.bool (decide (o = 0 ∨ o = 1))) ∧ W = w') := life_sided o
  have HP : Hid (rightLf k o a b y = decide ((o = 0 ∨ o = 1) ∧ ((k = 0 ∨ k = 1) ∧ a = false ∧ b = false ∧ y = 0 ∨ k = 2 ∧ a = false ∧ b = false ∧ y = 0 ∧ o = 1 ∨ k = 3 ∧ (a = false ∨ b = false) ∧ y = 0 ∨ k = 4 ∧ a = false ∧ b = false ∧ 0 ≤ y ∧ y ≤ 2))) := rfl
  have q1 := lf_eql
  have q2 := b2_neq
  unfold lfEq at q1
  generalize rightLf k o a b y = R at HP ⊢
  go_enter Tryz.func28, Tryz.ntmps28
  go_wp2_with (go_at_call 29; (with_reducible refine (HS.out _).mono ?_); rintro e w' ⟨rfl, rfl⟩)
  all_goals
    clear q1 q2
    go_ret
    exact ⟨by rw [HP.out]; first | (simp_all; done) | (simp_all; rfl) | (simp_all; omega) | grind | (simp_all <;> intros <;> simp_all <;> omega), Below.junk bel⟩
end Go.Proofs.YtmlbomblbdbikaaGreatDoor
/-
  What a stream's state lets each side send: the program's Ask, Ends, Resets.
-/
namespace Go.Proofs.YtmlbomblbdbikaaGreatDoor
set_option linter.unusedSimpArgs false
set_option linter.unusedVariables false
set_option linter.unusedSectionVars false
open Go.ChangeShapes Go.WideShapes Go.ChangeAt Go.RowKit Go.Deep

def askLf (k o : Int) (a b : Bool) (y s t : Int) (kp : Bool) : Int × Int :=
  if rightLf k o a b y = false ∨ ¬ (s = 0 ∨ s = 1) then (0, 0) else if t = 2 then (2, 0) else if t = 5 then promLf k o b y s kp else if ¬ (t = 0 ∨ t = 1 ∨ t = 3 ∨ t = 8) then (0, 0)
  else if k = 0 then (if t = 1 ∧ s = 0 ∧ o = 0 then (1, 0) else (3, 10)) else if k = 1 then skipLf o s t else if k = 2 then (if resvLf s t = true then (1, 0) else (3, 12))
  else if k = 3 then (if (t = 0 ∨ t = 1) ∧ (if s = 0 then a else b) = true then (3, 13) else (1, 0)) else closLf y s t kp

set_option maxHeartbeats 16000000 in
set_option maxRecDepth 100000 in
theorem life_Ask (k o : Int) (a b : Bool) (y s t : Int) (kp : Bool) (w : World) : Calls Tryz.prog 15 #[lfC k o a b y, .int .i64 s, .int .i64 t, .bool kp] w fun e w' => e = .returned (.tuple #[.int .i64 (askLf k o a b y s t kp).1, .int .i64 (askLf k o a b y s t kp).2]) ∧ ∃ j, w' = w.more j := by
  have HR : Hid (∀ W, Calls Tryz.prog 28 #[lfC k o a b y] W fun e w' => e = .returned (.bool (rightLf k o a b y)) ∧ ∃ j, w' = W.more j) := life_Right k o a b y
  have HS : Hid (∀ W, Calls Tryz.prog 29 #[.int .i64 s] W fun e w' => e = .returned (.bool (decide (s = 0 ∨ s = 1))) ∧ W = w') := life_sided s
  have HPR : Hid (∀ W, Calls Tryz.prog 30 #[lfC k o a b y, .int .i64 s, .bool kp] W fun e w' => e = .returned (.tuple #[.int .i64 (promLf k o b y s kp).1, .int .i64 (promLf k o b y s kp).2]) ∧ ∃ j, w' = W.more j) := life_promise k o a b y s kp
  have HCL : Hid (∀ W, Calls Tryz.prog 34 #[lfC k o a b y, .int .i64 s, .int .i64 t, .bool kp] W fun e w' => e = .returned (.tuple #[.int .i64 (closLf y s t kp).1, .int .i64 (closLf y s t kp).2]) ∧ ∃ j, w' = W.more j) := life_closed k o a b y s t kp
  have HSK : Hid (∀ W, Calls Tryz.prog 32 #[lfC k o a b y, .int .i64 s, .int .i64 t] W fun e w' => e = .returned (.tuple #[.int .i64 (skipLf o s t).1, .int .i64 (skipLf o s t).2]) ∧ ∃ j, w' = W.more j) := life_skipped k o a b y s t
  have HRV : Hid (∀ W, Calls Tryz.prog 33 #[.int .i64 s, .int .i64 t] W fun e w' => e = .returned (.bool (resvLf s t)) ∧ ∃ j, w' = W.more j) := life_reserved s t
  have HBR : Hid (∀ r u W, Calls Tryz.prog 31 #[.int .i64 r, .bool u] W fun e w' => e = .returned (.tuple #[.int .i64 (if u = true then 1 else 3), .int .i64 (if u = true then 0 else r)]) ∧ W = w') := life_breaks
  have HP : Hid (askLf k o a b y s t kp = if rightLf k o a b y = false ∨ ¬ (s = 0 ∨ s = 1) then (0, 0) else if t = 2 then (2, 0) else if t = 5 then promLf k o b y s kp else if ¬ (t = 0 ∨ t = 1 ∨ t = 3 ∨ t = 8) then (0, 0) else if k = 0 then (if t = 1 ∧ s = 0 ∧ o = 0 then (1, 0) else (3, 10)) else if k = 1 then skipLf o s t else if k = 2 then (if resvLf s t = true then (1, 0) else (3, 12)) else if k = 3 then (if (t = 0 ∨ t = 1) ∧ (if s = 0 then a else b) = true then (3, 13) else (1, 0)) else closLf y s t kp) := rfl
  generalize askLf k o a b y s t kp = R at HP ⊢
  generalize rightLf k o a b y = RT at HR HP
  generalize promLf k o b y s kp = PM at HPR HP
  generalize closLf y s t kp = CL at HCL HP
  generalize skipLf o s t = SK at HSK HP
  generalize resvLf s t = RV at HRV HP
  cases RT
  · have HP1 : Hid (R = (0, 0)) := by show _ = _; rw [HP.out]; simp
    clear HP
    go_enter Tryz.func15, Tryz.ntmps15
    go_wp2_with (go_at_call 28; (with_reducible refine (HR.out _).mono ?_); rintro e w' ⟨rfl, j, rfl⟩)
    go_ret2
    exact ⟨by rw [HP1.out]; rfl, Below.junk bel⟩
  have hs : s = 0 ∨ s = 1 ∨ ¬ (s = 0 ∨ s = 1) := by omega
  rcases hs with rfl | rfl | hs
  case inr.inr =>
    have HP1 : Hid (R = (0, 0)) := by show _ = _; rw [HP.out]; simp [hs]
    clear HP
    rw [decide_eq_false hs] at HS
    go_enter Tryz.func15, Tryz.ntmps15
    go_wp2_with (first | (go_at_call 28; (with_reducible refine (HR.out _).mono ?_); rintro e w' ⟨rfl, j, rfl⟩) | (go_at_call 29; (with_reducible refine (HS.out _).mono ?_); rintro e w' ⟨rfl, rfl⟩))
    go_ret2
    exact ⟨by rw [HP1.out]; rfl, Below.junk bel⟩
  all_goals
    go_enter Tryz.func15, Tryz.ntmps15
    go_wp2_with (first | (go_at_call 28; (with_reducible refine (HR.out _).mono ?_); rintro e w' ⟨rfl, j, rfl⟩) | (go_at_call 29; (with_reducible refine (HS.out _).mono ?_); rintro e w' ⟨rfl, rfl⟩) | (go_at_call 30; (with_reducible refine (HPR.out _).mono ?_); rintro e w' ⟨rfl, j, rfl⟩) | (go_at_call 34; (with_reducible refine (HCL.out _).mono ?_); rintro e w' ⟨rfl, j, rfl⟩) | (go_at_call 32; (with_reducible refine (HSK.out _).mono ?_); rintro e w' ⟨rfl, j, rfl⟩) | (go_at_call 33; (with_reducible refine (HRV.out _).mono ?_); rintro e w' ⟨rfl, j, rfl⟩) | (go_at_call 31; (with_reducible refine (HBR.out _ _ _).mono ?_); rintro e w' ⟨rfl, rfl⟩))
    all_goals
      go_ret2
      exact ⟨by rw [HP.out]; first | (simp_all; done) | (simp_all; rfl) | (simp_all; omega) | grind | (simp_all <;> intros <;> simp_all <;> omega), Below.junk bel⟩

def endsLf (k o : Int) (a b : Bool) (y s : Int) : Lf := if k = 3 ∧ (s = 0 ∨ s = 1) then (if (if s = 0 then b else a) = true then ⟨4, o, false, false, 2⟩ else ⟨k, o, if s = 0 then true else a, if s = 0 then b else true, y⟩) else ⟨k, o, a, b, y⟩
def rsetLf (k o : Int) (a b : Bool) (y s : Int) : Lf := if (k = 2 ∨ k = 3) ∧ (s = 0 ∨ s = 1) then ⟨4, o, false, false, s⟩ else ⟨k, o, a, b, y⟩
abbrev lfV (s : Lf) : Value := lfC s.kind s.owner s.e0 s.e1 s.by_
theorem st_Lf : StructTy Tryz.prog LfT 5 := ⟨_, Tryz.underlying47, rfl, by kernel_rfl⟩
end Go.Proofs.YtmlbomblbdbikaaGreatDoor
/-
  The frames that are sent: the document's walk, and the rules.
-/
namespace Go.Proofs.YtmlbomblbdbikaaGreatDoor
set_option linter.unusedSimpArgs false
set_option linter.unusedVariables false
set_option linter.unusedSectionVars false
open Go.ChangeShapes Go.WideShapes Go.ChangeAt Go.RowKit Go.Deep Go.Shelf

theorem mayW_side {k s d : Int} (h : mayW k s d = true) : (d = 0 ∨ d = 1) ∧ (inR k 1 26 && inR s 1 topS) = true := by
  unfold mayW at h
  simp only [Bool.and_eq_true, Bool.or_eq_true, decide_eq_true_eq] at h ⊢
  exact h
set_option maxHeartbeats 1600000 in
set_option maxRecDepth 100000 in
theorem ref46_FramesY (k : Nat) (s d : Int) (h : mayW k s d = true) (h1 : 1 ≤ k) (h26 : k ≤ 26) (w : World) :
    Calls Tryz.prog 5 #[.int .i64 (k : Int), .int .i64 s, .int .i64 d] w (FrP d (wrL k s) (.bool true) w) := by
  have HRI : Hid (∀ W, Calls Tryz.prog 13 #[.int .i64 (k : Int), .int .i64 s] W fun e w' => e = .returned (.bool true) ∧ W = w') := fun W => by have := ref46_Right k s W; rwa [(mayW_side h).2] at this
  have HFR : Hid (∀ W, Calls Tryz.prog 14 #[.int .i64 (k : Int), .int .i64 s] W (RawsP (wrL k s) W)) := rf_all k h1 h26 s
  have hd := (mayW_side h).1
  have HL2 : Hid ((wrL k s).length ≤ 2) := wrL_len k s
  generalize wrL k s = l at HFR HL2 ⊢
  clear h h1 h26
  unfold FrP
  obtain ⟨b0, b1, hbb⟩ : ∃ b0 b1, (d != 0) = b0 ∧ (d != 1) = b1 ∧ (b0 && b1) = false := by
    rcases hd with rfl | rfl
    · exact ⟨false, true, rfl, rfl, rfl⟩
    · exact ⟨true, false, rfl, rfl, rfl⟩
  obtain ⟨t0, t1, tb⟩ := hbb
  clear hd
  cases b0 <;> cases b1 <;> first | (cases tb; done) | skip
  all_goals
    clear tb
    go_enter Tryz.func5, Tryz.ntmps5
    go_wp2_with (first | (go_at_call 13; (with_reducible refine (HRI.out _).mono ?_); rintro e w' ⟨rfl, rfl⟩) | (go_at_call 14; (with_reducible refine (HFR.out _).mono ?_); rintro e w3 ⟨g, cap, rfl, hq⟩; have HT := Lib.hid hq; clear hq))
    obtain ⟨n, hn⟩ : ∃ n, n = l.length := ⟨_, rfl⟩
    have HLL : Hid (n = l.length) := hn
    have HLS : Hid (n ≤ 100000) := by have := HL2.out; show _ ≤ _; omega
    rw [← hn]
    clear hn
    go_loopg [9] n (fun gk i wr => ∃ q : Nat, q + gk = n ∧ i = .int .i64 (q : Int) ∧ Told d l w g q wr)
    case atStart => exact ⟨0, by omega, rfl, Told.start HT.out⟩
    case round =>
      obtain ⟨q, hqg, rfl, ht⟩ := hrel
      have HTQ := Lib.hid ht
      have HQG := Lib.hid hqg
      clear ht hqg HT
      by_cases hlt : q < n
      · have d1 : decide ((q : Int) < (n : Int)) = true := decide_eq_true (by omega)
        have d2 : (q : Int) < (n : Int) := by omega
        have w1 : IntKind.i64.wrap ((q : Int) + 1) = (q : Int) + 1 := IntWalk.i64_in _ (by have := HLS.out; omega)
        obtain ⟨c0, f0, hgl⟩ := HTQ.out.cell (by have := HLL.out; omega)
        go_wp2_with fail
        go_roundg (n - (q + 1))
        case measure => have := HQG.out; omega
        case rel => exact ⟨q + 1, by have := HQG.out; omega, by first | rfl | (have := HLS.out; go_num), HTQ.out.next (by have := HLL.out; omega)⟩
      · obtain rfl : q = n := by have := HQG.out; omega
        have d1 : decide ((q : Int) < (q : Int)) = false := decide_eq_false (by omega)
        go_wp2_with fail
        go_ret2
        have hl : q = l.length := HLL.out
        subst hl
        exact ⟨g, cap, rfl, HTQ.out.stop⟩
set_option maxHeartbeats 800000 in
set_option maxRecDepth 100000 in
theorem ref46_FramesN (k s d : Int) (h : mayW k s d = false) (w : World) :
    Calls Tryz.prog 5 #[.int .i64 k, .int .i64 s, .int .i64 d] w fun e w' => e = .returned (.tuple #[.slice none 0 0, .bool false]) ∧ ∃ j, w' = w.more j := by
  have HRI : Hid (∀ W, Calls Tryz.prog 13 #[.int .i64 k, .int .i64 s] W fun e w' => e = .returned (.bool (inR k 1 26 && inR s 1 topS)) ∧ W = w') := ref46_Right k s
  have HH : Hid (((decide (d = 0) || decide (d = 1)) && (inR k 1 26 && inR s 1 topS)) = false) := h
  generalize (inR k 1 26 && inR s 1 topS) = R at HRI HH
  clear h
  cases e0 : (d == 0)
  · cases e1 : (d == 1)
    · have b0 : (d != 0) = true := by simp [bne, e0]
      have b1 : (d != 1) = true := by simp [bne, e1]
      go_enter Tryz.func5, Tryz.ntmps5
      go_wp2_with (go_at_call 13; (with_reducible refine (HRI.out _).mono ?_); rintro e w' ⟨rfl, rfl⟩)
      go_ret2
      exact ⟨rfl, Below.junk (Below.refl _ _)⟩
    · obtain rfl : d = 1 := by simpa using e1
      obtain rfl : R = false := by simpa using HH.out
      go_enter Tryz.func5, Tryz.ntmps5
      go_wp2_with (go_at_call 13; (with_reducible refine (HRI.out _).mono ?_); rintro e w' ⟨rfl, rfl⟩)
      go_ret2
      exact ⟨rfl, Below.junk (Below.refl _ _)⟩
  · obtain rfl : d = 0 := by simpa using e0
    obtain rfl : R = false := by simpa using HH.out
    go_enter Tryz.func5, Tryz.ntmps5
    go_wp2_with (go_at_call 13; (with_reducible refine (HRI.out _).mono ?_); rintro e w' ⟨rfl, rfl⟩)
    go_ret2
    exact ⟨rfl, Below.junk (Below.refl _ _)⟩
end Go.Proofs.YtmlbomblbdbikaaGreatDoor
/-
  The rule that is broken at first: both roads.
-/
namespace Go.Proofs.YtmlbomblbdbikaaGreatDoor
set_option linter.unusedSimpArgs false
set_option linter.unusedVariables false
set_option linter.unusedSectionVars false
open Go.ChangeShapes Go.WideShapes Go.ChangeAt Go.RowKit Go.Deep Go.Shelf

def rulL : List Int := [5, 5, 5, 5, 5, 5, 17, 18, 10, 10, 4, 5, 5, 22, 3, 25, 26, 28, 29, 30, 4, 6, 6, 6, 5, 7]
def rulK (k : Int) : Int := rulL.getD (k - 1).toNat 0
def brkW (k s d : Int) : Int := if mayW k s d = false then 0 else if k = 14 ∧ d = 0 then 35 else if 18 ≤ k ∧ k ≤ 20 ∧ (d = 1 ∨ s % 2 = 0) then 10 else rulK k
/-- The table of rules. -/
def RG (w : World) : Prop := ∀ k, k < 26 → w.cell? ⟨0, k, none⟩ = some (.int .i64 (rulL.getD k 0))
theorem RG.below {w w' : World} (h : RG w) (hb : Below w.heap.size w w') : RG w' :=
  fun k hk => (hb.cell (p := ⟨0, k, none⟩) (cell_lt (h 0 (by omega)))).trans (h k hk)
theorem mayW_in {k s d : Int} (h : mayW k s d = true) : (d = 0 ∨ d = 1) ∧ 1 ≤ k ∧ k ≤ 26 ∧ 1 ≤ s ∧ s ≤ 2147483647 := by
  have := mayW_side h
  obtain ⟨h1, h2⟩ := this
  have e : topS = 2147483647 := rfl
  rw [e] at h2
  simp [inR] at h2
  exact ⟨h1, by omega, by omega, by omega, by omega⟩
set_option maxHeartbeats 1600000 in
set_option maxRecDepth 100000 in
theorem inject_Rule (k s d : Int) (w : World) (hR : RG w) : Calls Tryz.prog 6 #[.agg #[.int .i64 k, .int .i64 s], .int .i64 d] w fun e w' => e = .returned (.int .i64 (brkW k s d)) ∧ ∃ j, w' = w.more j := by
  have HMY : Hid (∀ W, Calls Tryz.prog 10 #[.agg #[.int .i64 k, .int .i64 s], .int .i64 d] W fun e w' => e = .returned (.bool (mayW k s d)) ∧ ∃ j, w' = W.more j) := inject_mayW k s d
  obtain ⟨R, hRR⟩ : ∃ R, R = brkW k s d := ⟨_, rfl⟩
  rw [← hRR]
  have HP : Hid (R = if mayW k s d = false then 0 else if k = 14 ∧ d = 0 then 35 else if 18 ≤ k ∧ k ≤ 20 ∧ (d = 1 ∨ s % 2 = 0) then 10 else rulK k) := hRR
  clear hRR
  cases hm : mayW k s d
  · rw [hm] at HMY HP
    have HP1 : Hid (R = 0) := by show _ = _; rw [HP.out, if_pos rfl]
    clear HP hR hm
    go_enter Tryz.func6, Tryz.ntmps6
    go_wp2_with (go_at_call 10; (with_reducible refine (HMY.out _).mono ?_); rintro e w' ⟨rfl, j, rfl⟩)
    go_ret
    exact ⟨by rw [HP1.out]; rfl, Below.junk bel⟩
  · rw [hm] at HMY HP
    obtain ⟨hd, h1, h26, hs1, hs2⟩ := mayW_in hm
    have HP1 : Hid (R = if k = 14 ∧ d = 0 then 35 else if 18 ≤ k ∧ k ≤ 20 ∧ (d = 1 ∨ s % 2 = 0) then 10 else rulK k) := by show _ = _; rw [HP.out, if_neg (by decide)]
    have hts : s.tmod 2 = s % 2 := Int.tmod_eq_emod_of_nonneg (by omega)
    obtain ⟨o, ho⟩ : ∃ o, o = 1 - s.tmod 2 := ⟨_, rfl⟩
    have HAS : Hid (∀ W, Calls Tryz.prog 15 #[lfC 0 o false false 0, .int .i64 d, .int .i64 1, .bool false] W fun e w' => e = .returned (.tuple #[.int .i64 (askLf 0 o false false 0 d 1 false).1, .int .i64 (askLf 0 o false false 0 d 1 false).2]) ∧ ∃ j, w' = W.more j) := life_Ask 0 o false false 0 d 1 false
    obtain ⟨A, hA⟩ : ∃ A, A = (askLf 0 o false false 0 d 1 false).1 := ⟨_, rfl⟩
    have HA : Hid ((A == 3) = (decide (d = 1) || decide (s % 2 = 0))) := by
      show _ = _
      rw [hA, ho, hts]
      rcases hd with rfl | rfl <;> rcases (show s % 2 = 0 ∨ s % 2 = 1 by omega) with e | e <;> rw [e] <;> decide
    rw [← hA] at HAS
    generalize (askLf 0 o false false 0 d 1 false).2 = A2 at HAS
    have w1 : IntKind.i64.wrap (1 - s.tmod 2) = o := by rw [← ho]; exact IntWalk.i64_in _ (by omega)
    have w2 : 1 - s.tmod 2 = o := ho.symm
    have w3 : IntKind.i64.wrap o = o := IntWalk.i64_in _ (by omega)
    have wk : IntKind.i64.wrap (k - 1) = k - 1 := IntWalk.i64_in _ (by omega)
    have rc : w.cell? ⟨0, (k - 1).toNat, none⟩ = some (.int .i64 (rulK k)) := hR (k - 1).toNat (by omega)
    have rc2 : w.cell? ⟨0, k.toNat - 1, none⟩ = some (.int .i64 (rulK k)) := by rw [show k.toNat - 1 = (k - 1).toNat by omega]; exact rc
    have rz : 0 < w.heap.size := cell_lt (hR 0 (by omega))
    have k0 : (0 : Int) ≤ k - 1 := by omega
    have k1 : k - 1 < 26 := by omega
    have HS := Lib.hid hd
    generalize rulK k = r0 at HP1 rc rc2
    clear HP hR hm hA ho hts hd hs1 hs2 h1 h26
    obtain rfl | e14 : k = 14 ∨ (k == 14) = false := by
      by_cases h : k = 14
      · exact .inl h
      · exact .inr (by simpa using h)
    · have rc3 : w.cell? ⟨0, 13, none⟩ = some (.int .i64 r0) := rc
      clear rc rc2 k0 k1 wk
      go_enter Tryz.func6, Tryz.ntmps6
      go_wp2_with (first | (go_at_call 10; (with_reducible refine (HMY.out _).mono ?_); rintro e w' ⟨rfl, j, rfl⟩) | (go_at_call 15; (with_reducible refine (HAS.out _).mono ?_); rintro e w' ⟨rfl, j, rfl⟩))
      all_goals
        go_ret
        have hs := HS.out
        have ha := HA.out
        exact ⟨by rw [HP1.out]; show Ending.returned (Value.int _ _) = _; (first | (simp_all; done) | (simp_all; rfl) | (simp_all; omega) | grind | (simp_all <;> intros <;> simp_all <;> omega)), Below.junk bel⟩
    · go_enter Tryz.func6, Tryz.ntmps6
      go_wp2_with (first | (go_at_call 10; (with_reducible refine (HMY.out _).mono ?_); rintro e w' ⟨rfl, j, rfl⟩) | (go_at_call 15; (with_reducible refine (HAS.out _).mono ?_); rintro e w' ⟨rfl, j, rfl⟩))
      all_goals
        go_ret
        have hs := HS.out
        have ha := HA.out
        exact ⟨by rw [HP1.out]; show Ending.returned (Value.int _ _) = _; (first | (simp_all; done) | (simp_all; rfl) | (simp_all; omega) | grind | (simp_all <;> intros <;> simp_all <;> omega)), Below.junk bel⟩
end Go.Proofs.YtmlbomblbdbikaaGreatDoor
/-
  The rule that is broken at first: the document's road.
-/
namespace Go.Proofs.YtmlbomblbdbikaaGreatDoor
set_option linter.unusedSimpArgs false
set_option linter.unusedVariables false
set_option linter.unusedSectionVars false
open Go.ChangeShapes Go.WideShapes Go.ChangeAt Go.RowKit Go.Deep Go.Shelf

abbrev rulA : Array Value := #[.int .i64 5, .int .i64 5, .int .i64 5, .int .i64 5, .int .i64 5, .int .i64 5, .int .i64 17, .int .i64 18, .int .i64 10, .int .i64 10, .int .i64 4, .int .i64 5, .int .i64 5, .int .i64 22, .int .i64 3, .int .i64 25, .int .i64 26, .int .i64 28, .int .i64 29, .int .i64 30, .int .i64 4, .int .i64 6, .int .i64 6, .int .i64 6, .int .i64 5, .int .i64 7]
theorem rulA_at : ∀ n : Fin 26, rulA[n.val]? = some (.int .i64 (rulL.getD n.val 0)) := by
  intro n
  have h : rulA = (rulL.map fun x => Value.int .i64 x).toArray := rfl
  have hl : rulL.length = 26 := rfl
  rw [h]
  simp [List.getD_eq_getElem?_getD, hl]
set_option maxHeartbeats 1600000 in
set_option maxRecDepth 100000 in
theorem ref46_Rule (k s d : Int) (w : World) : Calls Tryz.prog 7 #[.int .i64 k, .int .i64 s, .int .i64 d] w fun e w' => e = .returned (.int .i64 (brkW k s d)) ∧ ∃ j, w' = w.more j := by
  have HRI : Hid (∀ W, Calls Tryz.prog 13 #[.int .i64 k, .int .i64 s] W fun e w' => e = .returned (.bool (inR k 1 26 && inR s 1 topS)) ∧ W = w') := ref46_Right k s
  obtain ⟨R, hRR⟩ : ∃ R, R = brkW k s d := ⟨_, rfl⟩
  rw [← hRR]
  have HP : Hid (R = if mayW k s d = false then 0 else if k = 14 ∧ d = 0 then 35 else if 18 ≤ k ∧ k ≤ 20 ∧ (d = 1 ∨ s % 2 = 0) then 10 else rulK k) := hRR
  clear hRR
  cases hm : mayW k s d
  · rw [hm] at HP
    have HP1 : Hid (R = 0) := by show _ = _; rw [HP.out, if_pos rfl]
    have HH : Hid (((decide (d = 0) || decide (d = 1)) && (inR k 1 26 && inR s 1 topS)) = false) := hm
    generalize (inR k 1 26 && inR s 1 topS) = Q at HRI HH
    clear HP hm
    cases e0 : (d == 0)
    · cases e1 : (d == 1)
      · have b0 : (d != 0) = true := by simp [bne, e0]
        have b1 : (d != 1) = true := by simp [bne, e1]
        go_enter Tryz.func7, Tryz.ntmps7
        go_wp2_with (go_at_call 13; (with_reducible refine (HRI.out _).mono ?_); rintro e w' ⟨rfl, rfl⟩)
        go_ret
        exact ⟨by rw [HP1.out]; rfl, Below.junk (Below.refl _ _)⟩
      · obtain rfl : d = 1 := by simpa using e1
        obtain rfl : Q = false := by simpa using HH.out
        go_enter Tryz.func7, Tryz.ntmps7
        go_wp2_with (go_at_call 13; (with_reducible refine (HRI.out _).mono ?_); rintro e w' ⟨rfl, rfl⟩)
        go_ret
        exact ⟨by rw [HP1.out]; rfl, Below.junk (Below.refl _ _)⟩
    · obtain rfl : d = 0 := by simpa using e0
      obtain rfl : Q = false := by simpa using HH.out
      go_enter Tryz.func7, Tryz.ntmps7
      go_wp2_with (go_at_call 13; (with_reducible refine (HRI.out _).mono ?_); rintro e w' ⟨rfl, rfl⟩)
      go_ret
      exact ⟨by rw [HP1.out]; rfl, Below.junk (Below.refl _ _)⟩
  · rw [hm] at HP
    obtain ⟨hd, h1, h26, hs1, hs2⟩ := mayW_in hm
    rw [(mayW_side hm).2] at HRI
    have HP1 : Hid (R = if k = 14 ∧ d = 0 then 35 else if 18 ≤ k ∧ k ≤ 20 ∧ (d = 1 ∨ s % 2 = 0) then 10 else rulK k) := by show _ = _; rw [HP.out, if_neg (by decide)]
    have hts : s.tmod 2 = s % 2 := Int.tmod_eq_emod_of_nonneg (by omega)
    have wk : IntKind.i64.wrap (k - 1) = k - 1 := IntWalk.i64_in _ (by omega)
    have rc : rulA[(k - 1).toNat]? = some (.int .i64 (rulK k)) := rulA_at ⟨(k - 1).toNat, by omega⟩
    have rc2 : rulA[k.toNat - 1]? = some (.int .i64 (rulK k)) := by rw [show k.toNat - 1 = (k - 1).toNat by omega]; exact rc
    have k0 : (0 : Int) ≤ k - 1 := by omega
    have k1 : k - 1 < 26 := by omega
    have HS := Lib.hid hd
    generalize rulK k = r0 at HP1 rc rc2
    clear HP hm hd hs1 hs2 h1 h26
    obtain rfl | e14 : k = 14 ∨ (k == 14) = false := by
      by_cases h : k = 14
      · exact .inl h
      · exact .inr (by simpa using h)
    · have rc3 : r0 = 22 := by
        have : rulA[13]? = some (.int .i64 r0) := rc
        simpa [rulA] using this.symm
      subst rc3
      clear rc rc2 k0 k1 wk
      go_enter Tryz.func7, Tryz.ntmps7
      go_wp2_with (go_at_call 13; (with_reducible refine (HRI.out _).mono ?_); rintro e w' ⟨rfl, rfl⟩)
      all_goals
        go_ret
        have hs := HS.out
        exact ⟨by rw [HP1.out]; show Ending.returned (Value.int _ _) = _; (first | (simp_all; done) | (simp_all; rfl) | (simp_all; omega) | grind | (simp_all <;> intros <;> simp_all <;> omega)), Below.junk bel⟩
    · go_enter Tryz.func7, Tryz.ntmps7
      go_wp2_with (go_at_call 13; (with_reducible refine (HRI.out _).mono ?_); rintro e w' ⟨rfl, rfl⟩)
      trace_state
      all_goals
        go_ret
        have hs := HS.out
        exact ⟨by rw [HP1.out]; show Ending.returned (Value.int _ _) = _; (first | (simp_all; done) | (simp_all; rfl) | (simp_all; omega) | grind | (simp_all <;> intros <;> simp_all <;> omega)), Below.junk bel⟩
end Go.Proofs.YtmlbomblbdbikaaGreatDoor
/-
  Two lists of the same frames.
-/
namespace Go.Proofs.YtmlbomblbdbikaaGreatDoor
set_option linter.unusedSimpArgs false
set_option linter.unusedVariables false
set_option linter.unusedSectionVars false
open Go.ChangeShapes Go.WideShapes Go.ChangeAt Go.RowKit Go.Deep Go.Shelf

set_option maxHeartbeats 1600000 in
set_option maxRecDepth 100000 in
theorem ref01_SameY (a b : Option Addr) (n c1 c2 : Nat) (l : List UInt8) (hn : l.length = n) (hl : n ≤ 100000) (w : World) (hA : SlB w w.heap.size a l) (hB : SlB w w.heap.size b l) :
    Calls Tryz.prog 35 #[.slice a n c1, .slice b n c2] w fun e w' => e = .returned (.bool true) ∧ ∃ j, w' = w.more j := by
  have HN := Lib.hid hn
  have HL := Lib.hid hl
  have HA := Lib.hid hA
  have HB := Lib.hid hB
  clear hn hl hA hB
  go_enter Tryz.func35, Tryz.ntmps35
  go_wp2_with fail
  go_loopg [5] n (fun gk i wr => ∃ k : Nat, k + gk = n ∧ i = .int .i64 (k : Int) ∧ Below w.heap.size w wr)
  case atStart => exact ⟨0, by omega, rfl, Below.refl _ _⟩
  case round =>
    obtain ⟨k, hkg, rfl, hb⟩ := hrel
    have HKG := Lib.hid hkg
    have HBB := Lib.hid hb
    clear hkg
    by_cases hlt : k < n
    · have d1 : decide ((k : Int) < (n : Int)) = true := decide_eq_true (by omega)
      have d2 : (k : Int) < (n : Int) := by omega
      have w1 : IntKind.i64.wrap ((k : Int) + 1) = (k : Int) + 1 := IntWalk.i64_in _ (by have := HL.out; omega)
      obtain ⟨b1, o1, rfl, h1, e1⟩ := SlR.atB HA.out (k := k) (by have := HN.out; omega)
      obtain ⟨b2, o2, rfl, h2, e2⟩ := SlR.atB HB.out (k := k) (by have := HN.out; omega)
      have f1 := (hb.cell (p := ⟨b1, o1 + k, none⟩) h1).trans e1
      have f2 := (hb.cell (p := ⟨b2, o2 + k, none⟩) h2).trans e2
      have z1 : b1 < wr.heap.size := Nat.lt_of_lt_of_le h1 hb.size
      have z2 : b2 < wr.heap.size := Nat.lt_of_lt_of_le h2 hb.size
      generalize (l[k]'(by have := HN.out; omega)) = x at f1 f2
      clear e1 e2 hb h1 h2
      go_wp2_with fail
      go_region
      all_goals
        go_wp2_with fail
        go_roundg (n - (k + 1))
        case measure => have := HKG.out; omega
        case rel => exact ⟨k + 1, by have := HKG.out; omega, by first | rfl | (have := HL.out; go_num), Below.drew HBB.out⟩
    · obtain rfl : k = n := by have := HKG.out; omega
      have d1 : decide ((k : Int) < (k : Int)) = false := decide_eq_false (by omega)
      clear hb
      go_wp2_with fail
      go_ret
      exact ⟨rfl, Below.junk HBB.out⟩
theorem SlBn.sl {w : World} {g : Nat} {a : Option Addr} {l : List UInt8} (h : SlBn w g a l) : SlB w w.heap.size a l := by
  intro k hk
  obtain ⟨b, off, ha, hb, _, hc⟩ := h k hk
  refine ⟨b, off, [.int .u8 (l[k].toNat : Int)], ha, hb, rfl, ?_⟩
  intro j u hu
  obtain rfl : j = 0 := by
    cases j with
    | zero => rfl
    | succ j => simp at hu
  simp only [List.getElem?_cons_zero, Option.some.injEq] at hu
  subst hu
  simpa using hc
set_option maxHeartbeats 1600000 in
set_option maxRecDepth 100000 in
theorem ref07_SameY (d t fl s : Int) (a b : Option Addr) (n c1 c2 : Nat) (l : List UInt8) (hn : l.length = n) (hl : n ≤ 100000) (w : World) (hA : SlB w w.heap.size a l) (hB : SlB w w.heap.size b l) :
    Calls Tryz.prog 16 #[.agg #[.int .i64 d, .int .i64 t, .int .i64 fl, .int .i64 s, .bool false, .slice a n c1], .agg #[.int .i64 d, .int .i64 t, .int .i64 fl, .int .i64 s, .bool false, .slice b n c2]] w fun e w' => e = .returned (.bool true) ∧ ∃ j, w' = w.more j := by
  have HS : Hid (∀ W, Below w.heap.size w W → Calls Tryz.prog 35 #[.slice a n c1, .slice b n c2] W fun e w' => e = .returned (.bool true) ∧ ∃ j, w' = W.more j) := fun W hW =>
    ref01_SameY a b n c1 c2 l hn hl W ((SlR.below hA hW (Nat.le_refl _)).mono hW.size (fun _ _ _ h => h)) ((SlR.below hB hW (Nat.le_refl _)).mono hW.size (fun _ _ _ h => h))
  clear hn hl hA hB
  go_enter Tryz.func16, Tryz.ntmps16
  go_wp2_with (go_at_call 35; (with_reducible refine (HS.out _ bel).mono ?_); rintro e w' ⟨rfl, j, rfl⟩)
  go_ret
  exact ⟨rfl, Below.junk bel⟩
set_option maxHeartbeats 1600000 in
set_option maxRecDepth 100000 in
theorem ref07_AllN (w : World) : Calls Tryz.prog 8 #[.slice none 0 0, .slice none 0 0] w fun e w' => e = .returned (.bool true) ∧ ∃ j, w' = w.more j := by
  go_enter Tryz.func8, Tryz.ntmps8
  go_wp2_with fail
  refine wp_loop_rounds 1 ?_
  rw [rounds_succ]
  go_wp2_with fail
  go_ret
  exact ⟨rfl, Below.junk (Below.refl _ _)⟩
set_option maxHeartbeats 1600000 in
set_option maxRecDepth 100000 in
theorem ref07_AllY (g1 g2 n c1 c2 : Nat) (cur1 cur2 : Array Value) (d : Int) (l : List Frw) (hn : l.length = n) (hn2 : n ≤ 100) (hbl : ∀ x ∈ l, x.b.length ≤ 100000) (w : World) (hb1 : Blk w g1 RawT cur1) (hb2 : Blk w g2 RawT cur2) (h1 : RawRow w g1 cur1 d l) (h2 : RawRow w g2 cur2 d l) :
    Calls Tryz.prog 8 #[.slice (some ⟨g1, 0, none⟩) n c1, .slice (some ⟨g2, 0, none⟩) n c2] w fun e w' => e = .returned (.bool true) ∧ ∃ j, w' = w.more j := by
  have HN := Lib.hid hn
  have HL := Lib.hid hn2
  have HBL := Lib.hid hbl
  have HB1 := Lib.hid hb1
  have HB2 := Lib.hid hb2
  have H1 := Lib.hid h1
  have H2 := Lib.hid h2
  have hg1 := hb1.lt
  have hg2 := hb2.lt
  clear hn hn2 hbl hb1 hb2 h1 h2
  go_enter Tryz.func8, Tryz.ntmps8
  go_wp2_with fail
  go_loopg [5] n (fun gk i wr => ∃ k : Nat, k + gk = n ∧ i = .int .i64 (k : Int) ∧ Below w.heap.size w wr)
  case atStart => exact ⟨0, by omega, rfl, Below.refl _ _⟩
  case round =>
    obtain ⟨k, hkg, rfl, hb⟩ := hrel
    have HKG := Lib.hid hkg
    have HBB := Lib.hid hb
    clear hkg
    by_cases hlt : k < n
    · have d1 : decide ((k : Int) < (n : Int)) = true := decide_eq_true (by omega)
      have d2 : (k : Int) < (n : Int) := by omega
      have w1 : IntKind.i64.wrap ((k : Int) + 1) = (k : Int) + 1 := IntWalk.i64_in _ (by have := HL.out; omega)
      have hkl : k < l.length := by have := HN.out; omega
      obtain ⟨a, ca, p0, p1, p2, p3, p4, p5, pb⟩ := H1.out.2 k hkl
      obtain ⟨b, cb, r0, r1, r2, r3, r4, r5, rb⟩ := H2.out.2 k hkl
      have hxl := HBL.out _ (List.getElem_mem hkl)
      generalize l[k] = x at p1 p2 p3 p5 pb r1 r2 r3 r5 rb hxl
      obtain ⟨xt, xf, xs, xb⟩ := x
      simp only at p1 p2 p3 p5 pb r1 r2 r3 r5 rb hxl
      obtain ⟨m, hm⟩ : ∃ m, xb.length = m := ⟨_, rfl⟩
      rw [hm] at p5 r5
      have HSM : Hid (∀ W, Below w.heap.size w W → Calls Tryz.prog 16 #[.agg #[.int .i64 d, .int .i64 xt, .int .i64 xf, .int .i64 xs, .bool false, .slice a m ca], .agg #[.int .i64 d, .int .i64 xt, .int .i64 xf, .int .i64 xs, .bool false, .slice b m cb]] W fun e w' => e = .returned (.bool true) ∧ ∃ j, w' = W.more j) := fun W hW =>
        ref07_SameY d xt xf xs a b m ca cb xb hm (by omega) W ((SlR.below pb.sl hW (Nat.le_refl _)).mono hW.size (fun _ _ _ h => h)) ((SlR.below rb.sl hW (Nat.le_refl _)).mono hW.size (fun _ _ _ h => h))
      clear pb rb hxl hm
      go_wp2_with fail
      refine gb_start w.heap.size (by kernel_rfl) ?_
      obtain ⟨w2, hw2⟩ : ∃ w2, w2 = wr.drew := ⟨_, rfl⟩
      rw [← hw2]
      have HB2' : Below w.heap.size w w2 := by rw [hw2]; exact Below.drew HBB.out
      have f0 : w2.cell? ⟨g1, k * 6, none⟩ = some (.int .i64 d) := by rw [(HB1.out.below HB2' hg1).cell, p0]
      have f1 : w2.cell? ⟨g1, k * 6 + 1, none⟩ = some (.int .i64 xt) := by rw [(HB1.out.below HB2' hg1).cell, p1]
      have f2 : w2.cell? ⟨g1, k * 6 + 2, none⟩ = some (.int .i64 xf) := by rw [(HB1.out.below HB2' hg1).cell, p2]
      have f3 : w2.cell? ⟨g1, k * 6 + 3, none⟩ = some (.int .i64 xs) := by rw [(HB1.out.below HB2' hg1).cell, p3]
      have f4 : w2.cell? ⟨g1, k * 6 + 4, none⟩ = some (.bool false) := by rw [(HB1.out.below HB2' hg1).cell, p4]
      have f5 : w2.cell? ⟨g1, k * 6 + 5, none⟩ = some (.slice a m ca) := by rw [(HB1.out.below HB2' hg1).cell, p5]
      have q0 : w2.cell? ⟨g2, k * 6, none⟩ = some (.int .i64 d) := by rw [(HB2.out.below HB2' hg2).cell, r0]
      have q1 : w2.cell? ⟨g2, k * 6 + 1, none⟩ = some (.int .i64 xt) := by rw [(HB2.out.below HB2' hg2).cell, r1]
      have q2 : w2.cell? ⟨g2, k * 6 + 2, none⟩ = some (.int .i64 xf) := by rw [(HB2.out.below HB2' hg2).cell, r2]
      have q3 : w2.cell? ⟨g2, k * 6 + 3, none⟩ = some (.int .i64 xs) := by rw [(HB2.out.below HB2' hg2).cell, r3]
      have q4 : w2.cell? ⟨g2, k * 6 + 4, none⟩ = some (.bool false) := by rw [(HB2.out.below HB2' hg2).cell, r4]
      have q5 : w2.cell? ⟨g2, k * 6 + 5, none⟩ = some (.slice b m cb) := by rw [(HB2.out.below HB2' hg2).cell, r5]
      have HW2 := Lib.hid HB2'
      have hz2 := HB2'.size
      clear hw2 HB2' hb p0 p1 p2 p3 p4 p5 r0 r1 r2 r3 r4 r5
      refine tk 0 ?_
      refine tk 1 ?_
      refine tk 2 ?_
      refine tk 4 ?_
      refine tk 5 ?_
      refine tk 6 ?_
      refine tk 3 ?_
      refine tk 7 ?_
      refine gb_step 8 (by kernel_rfl) rfl (fun K hK => ?_)
      go_simp
      go_wp2_with fail
      refine (HSM.out _ HW2.out).mono ?_
      rintro e w' ⟨rfl, j, rfl⟩
      go_wp2_with fail
      refine hK.out _ _ (show Below _ _ _ from Below.mono (B := w2.heap.size) bel hz2) ?_
      clear hK K
      try simp only [Act.put, nfa, nfb, nfc, nfd, List.set_cons_zero, List.set_cons_succ]
      refine tk 9 ?_
      refine wpAnyH_done (by kernel_rfl) ?_ _
      clear f0 f1 f2 f3 f4 f5 q0 q1 q2 q3 q4 q5
      go_wp2_with fail
      go_roundg (n - (k + 1))
      case measure => have := HKG.out; omega
      case rel => exact ⟨k + 1, by have := HKG.out; omega, by first | rfl | (have := HL.out; go_num), HW2.out.trans (Below.mono (B := w2.heap.size) bel hz2)⟩
    · obtain rfl : k = n := by have := HKG.out; omega
      have d1 : decide ((k : Int) < (k : Int)) = false := decide_eq_false (by omega)
      clear hb
      go_wp2_with fail
      go_ret
      exact ⟨rfl, Below.junk HBB.out⟩
end Go.Proofs.YtmlbomblbdbikaaGreatDoor
/-
  The statement InjectFrames: the frames of each thing that is done wrong, and the rule that they break.
-/
namespace Go.Proofs.YtmlbomblbdbikaaGreatDoor
set_option linter.unusedSimpArgs false
set_option linter.unusedVariables false
set_option linter.unusedSectionVars false
open Go.ChangeShapes Go.WideShapes Go.ChangeAt Go.RowKit Go.Deep Go.Shelf

theorem encL_len {l : List Fd} (h : ∀ f ∈ l, FdEn f) : (encL l).length ≤ 300 * l.length := by
  induction l with
  | nil => simp [encL]
  | cons f r ih =>
    have h1 := encF_len (h f List.mem_cons_self)
    have h2 := ih (fun x hx => h x (List.mem_cons_of_mem _ hx))
    have e : encL (f :: r) = encF f ++ encL r := rfl
    rw [e, List.length_append, List.length_cons]
    omega
theorem wrL_bodies (k : Nat) (s : Int) : ∀ x ∈ wrL k s, x.b.length ≤ 100000 := by
  have e1 := encL_len (l := rq3 ++ [fdA]) (fun x hx => by rcases List.mem_append.1 hx with h | h; exact en_rq x h; simp at h; subst h; exact en_A)
  have e2 := encL_len (l := rq3 ++ [fdB]) (fun x hx => by rcases List.mem_append.1 hx with h | h; exact en_rq x h; simp at h; subst h; exact en_B)
  have e3 := encL_len (l := rq3.take 2) (fun x hx => en_rq x (List.mem_of_mem_take hx))
  have l1 : (rq3 ++ [fdA]).length = 4 := rfl
  have l2 : (rq3 ++ [fdB]).length = 4 := rfl
  have l3 : (rq3.take 2).length = 2 := rfl
  have p1 := putL_len 32 5 2147483647
  intro x hx
  unfold wrL at hx
  split at hx
  all_goals
    simp only [List.mem_cons, List.not_mem_nil, or_false] at hx
  all_goals
    first
      | (subst hx; simp only [nul, List.length_replicate, List.length_append, beL_len, List.length_cons, List.length_nil]; omega)
      | (rcases hx with rfl | rfl <;> simp only [nul, List.length_replicate, List.length_nil] <;> omega)
      | exact hx.elim
theorem RawsQ.keep {d : Int} {l : List Frw} {w w' W : World} {g : Nat} (h : RawsQ d l w w' g) (hb : Below w'.heap.size w' W) : ∃ cur, Blk W g RawT cur ∧ RawRow W g cur d l := by
  obtain ⟨_, ⟨cur, h1, h2, h3⟩, _⟩ := h
  refine ⟨cur, h1.below hb h1.lt, h2, fun k hk => ?_⟩
  obtain ⟨a, c, e0, e1, e2, e3, e4, e5, hs⟩ := h3 k hk
  refine ⟨a, c, e0, e1, e2, e3, e4, e5, fun q hq => ?_⟩
  obtain ⟨b, off, ha, hlt, hne, hc⟩ := hs q hq
  exact ⟨b, off, ha, Nat.lt_of_lt_of_le hlt hb.size, hne, (hb.cell (p := ⟨b, off + q, none⟩) hlt).trans hc⟩
set_option maxHeartbeats 1600000 in
set_option maxRecDepth 100000 in
theorem law46_aliveF (m : Int) (w : World) (hM : w.cell? MaxA = some (.int .i64 m)) (hG : GF w) : Calls Tryz.prog 9 #[] w fun e w' => e = .returned (.bool true) ∧ ∃ j, w' = w.more j := by
  have HR : Hid (Calls Tryz.prog 4 #[.agg #[.int .i64 2, .int .i64 1], .int .i64 0] w (FrP 0 [⟨6, 0, 0, nul 7⟩] (.int .i64 0) w)) := inject_FramesY 2 1 0 m (by decide) (by decide) (by decide) w hM hG
  have HX : Hid (∀ W, Below w.heap.size w W → Calls Tryz.prog 12 #[.int .i64 2] W fun e w' => e = .returned (bstr [112, 105, 110, 103, 55]) ∧ ∃ j, w' = W.more j) := fun W hW => by
    have := inject_Name 2 m W (max_kept hM hW)
    rwa [show injN 2 = [112, 105, 110, 103, 55] by decide] at this
  clear hM hG
  go_enter Tryz.func9, Tryz.ntmps9
  go_wp2_with (first | (go_at_call 4; (refine HR.out.mono ?_); rintro e w1 ⟨g, cap, rfl, hq⟩; obtain ⟨hg0, ⟨cur, hblk, hrow⟩, hbel⟩ := hq; obtain ⟨a, c, e0, e1, e2, e3, e4, e5, _⟩ := hrow.2 0 (by simp); have c1 : w1.cell? ⟨g, 1, none⟩ = some (.int .i64 6) := (hblk.cell 1).trans e1; have c5 : w1.cell? ⟨g, 5, none⟩ = some (.slice a 7 c) := (hblk.cell 5).trans (e5.trans (by simp)); have hl := hblk.lt; have HB := Lib.hid hbel; clear hblk hrow hbel e0 e1 e2 e3 e4 e5 hg0) | (go_at_call 12; (with_reducible refine (HX.out _ HB.out).mono ?_); rintro e w' ⟨rfl, j, rfl⟩))
  go_ret
  exact ⟨rfl, Below.junk (HB.out.trans (Below.mono (B := w1.heap.size) bel HB.out.size))⟩
set_option maxHeartbeats 1600000 in
set_option maxRecDepth 100000 in
theorem injectFrames_law (kind stream side m : Int) (w : World) (hM : w.cell? MaxA = some (.int .i64 m)) (hG : GF w) (hR : RG w) :
    Calls Tryz.prog 3 #[.int .i64 kind, .int .i64 stream, .int .i64 side] w fun e w' => e = .returned (.bool true) ∧ ∃ j, w' = w.more j := by
  have HAL : Hid (∀ W, Below w.heap.size w W → Calls Tryz.prog 9 #[] W fun e w' => e = .returned (.bool true) ∧ ∃ j, w' = W.more j) := fun W hW => law46_aliveF m W (max_kept hM hW) (hG.below hW)
  have HRU : Hid (∀ W, Below w.heap.size w W → Calls Tryz.prog 6 #[.agg #[.int .i64 kind, .int .i64 stream], .int .i64 side] W fun e w' => e = .returned (.int .i64 (brkW kind stream side)) ∧ ∃ j, w' = W.more j) := fun W hW => inject_Rule kind stream side W (hR.below hW)
  have HRD : Hid (∀ W, Calls Tryz.prog 7 #[.int .i64 kind, .int .i64 stream, .int .i64 side] W fun e w' => e = .returned (.int .i64 (brkW kind stream side)) ∧ ∃ j, w' = W.more j) := ref46_Rule kind stream side
  generalize brkW kind stream side = R at HRU HRD
  cases hm : mayW kind stream side
  · have HFP : Hid (∀ W, Calls Tryz.prog 4 #[.agg #[.int .i64 kind, .int .i64 stream], .int .i64 side] W fun e w' => e = .returned (.tuple #[.slice none 0 0, .int .i64 1]) ∧ ∃ j, w' = W.more j) := inject_FramesN kind stream side hm
    have HFD : Hid (∀ W, Calls Tryz.prog 5 #[.int .i64 kind, .int .i64 stream, .int .i64 side] W fun e w' => e = .returned (.tuple #[.slice none 0 0, .bool false]) ∧ ∃ j, w' = W.more j) := ref46_FramesN kind stream side hm
    have HALL : Hid (∀ W, Calls Tryz.prog 8 #[.slice none 0 0, .slice none 0 0] W fun e w' => e = .returned (.bool true) ∧ ∃ j, w' = W.more j) := ref07_AllN
    clear hM hG hR hm
    go_enter Tryz.func3, Tryz.ntmps3
    go_wp2_with (first | (go_at_call 4; (with_reducible refine (HFP.out _).mono ?_); rintro e w' ⟨rfl, j, rfl⟩) | (go_at_call 5; (with_reducible refine (HFD.out _).mono ?_); rintro e w' ⟨rfl, j, rfl⟩) | (go_at_call 6; (with_reducible refine (HRU.out _ bel).mono ?_); rintro e w' ⟨rfl, j, rfl⟩) | (go_at_call 7; (with_reducible refine (HRD.out _).mono ?_); rintro e w' ⟨rfl, j, rfl⟩) | (go_at_call 8; (with_reducible refine (HALL.out _).mono ?_); rintro e w' ⟨rfl, j, rfl⟩) | (go_at_call 9; (with_reducible refine (HAL.out _ bel).mono ?_); rintro e w' ⟨rfl, j, rfl⟩))
    go_ret
    exact ⟨rfl, Below.junk bel⟩
  · obtain ⟨hd, h1, h26, _, _⟩ := mayW_in hm
    obtain ⟨k, rfl⟩ : ∃ k : Nat, kind = (k : Int) := ⟨kind.toNat, by omega⟩
    have HFP : Hid (∀ W, Below w.heap.size w W → Calls Tryz.prog 4 #[.agg #[.int .i64 (k : Int), .int .i64 stream], .int .i64 side] W (FrP side (wrL k stream) (.int .i64 0) W)) := fun W hW => inject_FramesY k stream side m hm (by omega) (by omega) W (max_kept hM hW) (hG.below hW)
    have HFD : Hid (∀ W, Calls Tryz.prog 5 #[.int .i64 (k : Int), .int .i64 stream, .int .i64 side] W (FrP side (wrL k stream) (.bool true) W)) := ref46_FramesY k stream side hm (by omega) (by omega)
    have HBO := Lib.hid (wrL_bodies k stream)
    have HLN := Lib.hid (wrL_len k stream)
    generalize wrL k stream = l at HFP HFD HBO HLN
    clear hM hG hR hm hd h1 h26
    go_enter Tryz.func3, Tryz.ntmps3
    go_wp2_with (first | (go_at_call 4; (refine (HFP.out _ bel).mono ?_); rintro e w3 ⟨g1, cap1, rfl, hq1⟩; have HQ1 := Lib.hid hq1; have HB3 : Hid (Below w.heap.size w w3) := (show Below w.heap.size w _ from bel).trans (Below.mono hq1.2.2 (by simp)); have hs3 : w.heap.size + 1 ≤ w3.heap.size := (by have := hq1.2.2.size; simp at this; omega); have x30 := hq1.2.2.cell (p := ⟨w.heap.size, 0, none⟩) (by simp); have x31 := hq1.2.2.cell (p := ⟨w.heap.size, 1, none⟩) (by simp); clear hq1) | (go_at_call 5; (refine (HFD.out _).mono ?_); rintro e w5 ⟨g2, cap2, rfl, hq2⟩; have HQ2 := Lib.hid hq2; have HB5 : Hid (Below w3.heap.size w3 w5) := hq2.2.2; have hs5 : w3.heap.size ≤ w5.heap.size := hq2.2.2.size; have x50 := (hq2.2.2.cell (p := ⟨w.heap.size, 0, none⟩) (by show w.heap.size < w3.heap.size; omega)).trans x30; have x51 := (hq2.2.2.cell (p := ⟨w.heap.size, 1, none⟩) (by show w.heap.size < w3.heap.size; omega)).trans x31; have HW5 : Hid (Below w.heap.size w w5) := HB3.out.trans (Below.mono hq2.2.2 (by omega)); clear hq2 x30 x31) | (go_at_call 6; (with_reducible refine (HRU.out _ (HW5.out.trans (Below.mono (B := w5.heap.size) bel (by omega)))).mono ?_); rintro e w' ⟨rfl, j, rfl⟩) | (go_at_call 7; (with_reducible refine (HRD.out _).mono ?_); rintro e w' ⟨rfl, j, rfl⟩))
    have HALL : Hid (∀ W, Below w5.heap.size w5 W → Calls Tryz.prog 8 #[.slice (some ⟨g1, 0, none⟩) l.length cap1, .slice (some ⟨g2, 0, none⟩) l.length cap2] W fun e w' => e = .returned (.bool true) ∧ ∃ j, w' = W.more j) := fun W hW => by
      obtain ⟨cur1, b1, r1⟩ := HQ1.out.keep (HB5.out.trans (Below.mono hW hs5))
      obtain ⟨cur2, b2, r2⟩ := HQ2.out.keep hW
      exact ref07_AllY g1 g2 l.length cap1 cap2 cur1 cur2 side l rfl (by have := HLN.out; omega) HBO.out W b1 b2 r1 r2
    go_wp2_with (first | (go_at_call 8; (with_reducible refine (HALL.out _ bel).mono ?_); rintro e w' ⟨rfl, j, rfl⟩) | (go_at_call 9; (with_reducible refine (HAL.out _ (HW5.out.trans (Below.mono (B := w5.heap.size) bel (by omega)))).mono ?_); rintro e w' ⟨rfl, j, rfl⟩))
    go_ret
    exact ⟨rfl, Below.junk (HW5.out.trans (Below.mono (B := w5.heap.size) bel (by omega)))⟩
end Go.Proofs.YtmlbomblbdbikaaGreatDoor
/-
  From the row's list of variables to what the walks ask of the world: the forms of fields, and the rules.
-/
namespace Go.Proofs.YtmlbomblbdbikaaGreatDoor
set_option linter.unusedSimpArgs false
set_option linter.unusedVariables false
set_option linter.unusedSectionVars false
open Go.ChangeShapes Go.WideShapes Go.ChangeAt Go.RowKit Go.Deep

def pairData {H : Type} (xs : List (Int × Int)) : DataW H := .agg (xs.map fun p => .agg [.lit (.int .i64 p.1), .lit (.int .i64 p.2)])
theorem cells_pairs {H : Type} {enc : TypeId × Value → H} {P : Program} {w : World} {base : Nat} {sp : Nat → Bool} {held : Bool} {fuel : Nat} {t e : TypeId} {n : Nat} {f0 f1 : Field} {cs : List Value} {zs : List (Int × Int)} {p : List MemPlace}
    (ht : P.underlying t = some (.array n e)) (he : P.underlying e = some (.struct #[f0, f1])) (hce : P.cellsOf e = 2) (h0 : P.underlying f0.type = some (.int .i64)) (h1 : P.underlying f1.type = some (.int .i64)) (o0 : f0.offset = 0) (o1 : f1.offset = 1) (c0 : P.cellsOf f0.type = 1) (c1 : P.cellsOf f1.type = 1)
    (h : DataW.trod enc P w base sp held fuel t cs = some (pairData zs, p)) : ∀ i (hi : i < zs.length), cs[i * 2]? = some (.int .i64 zs[i].1) ∧ cs[i * 2 + 1]? = some (.int .i64 zs[i].2) := by
  obtain ⟨xs, m, _, hx, hl, hxl, hf⟩ := DataW.trod_array ht h
  have hxs : xs.map (·.1) = zs.map fun p => (DataW.agg [.lit (.int .i64 p.1), .lit (.int .i64 p.2)] : DataW H) := by
    have := congrArg Prod.fst hx
    simpa [pairData] using this.symm
  have hlen : zs.length = n := by
    have := congrArg List.length hxs
    simp at this
    omega
  intro i hi
  have hin : i < xs.length := by omega
  have hfi := hf i (by omega)
  rw [List.getElem?_eq_getElem hin] at hfi
  obtain ⟨y0, y1, q, hy, _, t0, t1⟩ := trod_struct2 he hfi
  obtain ⟨z0, e0, rfl, _⟩ := DataW.trod_int h0 t0
  obtain ⟨z1, e1, rfl, _⟩ := DataW.trod_int h1 t1
  have hv : (xs.map (·.1))[i]? = some (DataW.agg [.lit (.int .i64 zs[i].1), .lit (.int .i64 zs[i].2)] : DataW H) := by rw [hxs]; simp [hi]
  rw [List.getElem?_map, List.getElem?_eq_getElem hin, Option.map_some, hy] at hv
  simp only [Option.some.injEq, DataW.agg.injEq, List.cons.injEq, DataW.lit.injEq, Lit.int.injEq, true_and, and_true] at hv
  obtain ⟨rfl, rfl⟩ := hv
  rw [o0, c0, hce] at e0
  rw [o1, c1, hce] at e1
  have a0 := congrArg (·[0]?) e0
  have a1 := congrArg (·[0]?) e1
  constructor
  · simpa [List.getElem?_take, List.getElem?_drop] using a0
  · simpa [List.getElem?_take, List.getElem?_drop] using a1
theorem g_forms : Tryz.prog.globalNamed "stickler/repr.forms" = some 1 := by kernel_rfl
theorem g_rules : Tryz.prog.globalNamed "stickler/inject.rules" = some 0 := by kernel_rfl
abbrev FmfT : TypeId := 117
noncomputable def ff0 : Field := (Tryz.prog.fieldsOf FmfT)[0]!
noncomputable def ff1 : Field := (Tryz.prog.fieldsOf FmfT)[1]!
theorem ff_und : Tryz.prog.underlying FmfT = some (.struct #[ff0, ff1]) := by kernel_rfl
def fmL : List (Int × Int) := [(0, 0), (128, 7), (64, 6), (0, 4), (16, 4), (32, 5)]
theorem gf_of {W : World} {l r : List (String × DataW Unit)} (i : Nat) (hL : laidMetH Tryz.prog l W) (hl : (l.all fun x => x.2.handleName?.isNone) = true) (e : l.drop i = ("stickler/repr.forms", pairData fmL) :: r) : GF W := by
  rw [Go.MakeChecks.laidMetH_plain _ _ _ hl] at hL
  have h1 := laid_drop i l hL
  rw [e] at h1
  obtain ⟨ps, ⟨g', t', cs, fuel, p, q, hg', ht', hvar, hd, _, _⟩, _⟩ := h1
  obtain rfl := Option.some.inj (g_forms.symm.trans hg')
  obtain rfl := Option.some.inj ((show (Tryz.prog.globals[(1 : Nat)]?).map (·.type) = some 118 by kernel_rfl).symm.trans ht')
  have key := cells_pairs (f0 := ff0) (f1 := ff1) (n := 6) (e := FmfT) Tryz.underlying118 ff_und (by kernel_rfl) (by kernel_rfl) (by kernel_rfl) (by kernel_rfl) (by kernel_rfl) (by kernel_rfl) (by kernel_rfl) hd
  have hc : ∀ j, j < 12 → cs[j]? = some (.int .i64 (rffC j)) := by
    intro j hj
    rw [← Array.getElem?_toList]
    have h6 : j / 2 < fmL.length := by show j / 2 < 6; omega
    obtain ⟨k0, k1⟩ := key (j / 2) h6
    have lit : ∀ n : Fin 6, (fmL[n.val]'(n.isLt)).1 = rffC (n.val * 2) ∧ (fmL[n.val]'(n.isLt)).2 = rffC (n.val * 2 + 1) := by decide
    have hl : fmL[j / 2].1 = rffC (j / 2 * 2) ∧ fmL[j / 2].2 = rffC (j / 2 * 2 + 1) := lit ⟨j / 2, h6⟩
    rcases Nat.mod_two_eq_zero_or_one j with h | h
    · rw [show j = j / 2 * 2 by omega, k0, hl.1]
    · rw [show j = j / 2 * 2 + 1 by omega, k1, hl.2]
  intro k hk
  rw [World.var?_cell g_forms hvar k]
  exact hc k hk
theorem rg_of {W : World} {l r : List (String × DataW Unit)} (i : Nat) (hL : laidMetH Tryz.prog l W) (hl : (l.all fun x => x.2.handleName?.isNone) = true) (e : l.drop i = ("stickler/inject.rules", Lib.tabData .i64 rulL) :: r) : RG W := by
  rw [Go.MakeChecks.laidMetH_plain _ _ _ hl] at hL
  have h1 := laid_drop i l hL
  rw [e] at h1
  have h2 := Lib.tabIs_of_head g_rules (t := 48) (e := 3) (n := 26) (by kernel_rfl) Tryz.underlying48 Tryz.underlying3 (by kernel_rfl) (by kernel_rfl) h1
  intro k hk
  exact h2.cell g_rules k hk
theorem injectFrames_of (k s d m : Int) (W : World) (hG : GF W) (hR : RG W) (_ : -9223372036854775808 ≤ k) (_ : k ≤ 9223372036854775807) (_ : -9223372036854775808 ≤ s) (_ : s ≤ 9223372036854775807) (_ : -9223372036854775808 ≤ d) (_ : d ≤ 9223372036854775807) (hM : W.cell? MaxA = some (.int .i64 m)) :
    Calls Tryz.prog 3 #[.int .i64 k, .int .i64 s, .int .i64 d] W fun e w' => e = .returned (.bool true) ∧ ∃ j, w' = W.more j := injectFrames_law k s d m W hM hG hR
end Go.Proofs.YtmlbomblbdbikaaGreatDoor
