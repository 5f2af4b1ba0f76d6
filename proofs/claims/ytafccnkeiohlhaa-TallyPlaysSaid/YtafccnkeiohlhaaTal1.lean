/-
  A tally: the program's small functions.
-/
import Derived.Test.YtafccnkeiohlhaaMsg4
namespace Go.Proofs.Ytafccnkeiohlhaa
open Go.ChangeShapes Go.WideShapes Go.ChangeAt Go.RowKit Go.Deep Go.Shelf

structure Ta where
  answers : Bool
  method : List UInt8
  phase : Int
  may : Int
  left : Int
abbrev taCells (t : Ta) : Array Value := #[.bool t.answers, bstr t.method, .int .i64 t.phase, .int .i64 t.may, .int .i64 t.left]
abbrev taVal (t : Ta) : Value := .agg #[.bool t.answers, bstr t.method, .int .i64 t.phase, .int .i64 t.may, .int .i64 t.left]
abbrev noTa : Ta := ⟨false, [], 0, 0, 0⟩
abbrev TaT : TypeId := 80
theorem st_Tally : StructTy Try.prog 80 5 := ⟨_, Try.underlying80, rfl, by kernel_rfl⟩

set_option maxRecDepth 100000 in
theorem tally_Over (t : Ta) (w : World) :
    Calls Try.prog 65 #[taVal t] w fun e w' => e = .returned (.bool (t.phase == 2)) ∧ Below w.heap.size w w' := by
  go_enter Try.func65, Try.ntmps65
  go_wp2_with fail
  go_ret
  exact ⟨rfl, (Below.refl _ _).alloc (Nat.le_refl _) _⟩
def kindF (t : Ta) : Int := if t.answers = true then 1 else 0
set_option maxRecDepth 100000 in
theorem tally_kind (t : Ta) (w : World) :
    Calls Try.prog 96 #[taVal t] w fun e w' => e = .returned (.int .i64 (kindF t)) ∧ Below w.heap.size w w' := by
  cases h : t.answers
  all_goals
    go_enter Try.func96, Try.ntmps96
    go_wp2_with fail
    go_ret
    exact ⟨ret1d (by simp only [kindF, h]; rfl), (Below.refl _ _).alloc (Nat.le_refl _) _⟩
def closeF (t : Ta) : Ta × Int := if t.may = 2 ∧ 0 < t.left then (noTa, 31) else ({ t with phase := 2 }, 0)
theorem closeF_bad {t : Ta} (h : t.may = 2) (h2 : 0 < t.left) : closeF t = (noTa, 31) := by simp [closeF, h, h2]
theorem closeF_ok {t : Ta} (h : ¬ (t.may = 2 ∧ 0 < t.left)) : closeF t = ({ t with phase := 2 }, 0) := by simp only [closeF, if_neg h]
set_option maxHeartbeats 2000000 in
set_option maxRecDepth 100000 in
theorem tally_close (t : Ta) (w : World) :
    Calls Try.prog 89 #[taVal t] w fun e w' => e = .returned (.tuple #[taVal (closeF t).1, .int .i64 (closeF t).2]) ∧ Below w.heap.size w w' := by
  by_cases h1 : t.may = 2
  · have h1' : (t.may == 2) = true := by simpa using h1
    by_cases h2 : 0 < t.left
    · have HR := Lib.hid (closeF_bad h1 h2)
      go_enter Try.func89, Try.ntmps89
      go_wp2_with fail
      refine bodyPost_ret (res_cell_tmp rfl st_Tally rfl (Blk.at_ _ _ _ (by simp)) rfl rfl) rfl ⟨by rw [HR.out]; rfl, ((Below.refl _ _).alloc (Nat.le_refl _) _).alloc (by simp) _⟩
    · have HR := Lib.hid (closeF_ok (t := t) (fun h => h2 h.2))
      go_enter Try.func89, Try.ntmps89
      go_wp2_with fail
      refine bodyPost_ret (res_cell_tmp rfl st_Tally rfl (Blk.at_ _ _ _ (by simp)) rfl rfl) rfl ⟨by rw [HR.out, h1]; rfl, ((Below.refl _ _).alloc (Nat.le_refl _) _).alloc (by simp) _⟩
  · have h1' : (t.may == 2) = false := by simpa using h1
    have HR := Lib.hid (closeF_ok (t := t) (fun h => h1 h.1))
    go_enter Try.func89, Try.ntmps89
    go_wp2_with fail
    refine bodyPost_ret (res_cell_tmp rfl st_Tally rfl (Blk.at_ _ _ _ (by simp)) rfl rfl) rfl ⟨by rw [HR.out]; rfl, ((Below.refl _ _).alloc (Nat.le_refl _) _).alloc (by simp) _⟩

def tunnelF (t : Ta) (m : Ms) : Bool := if t.answers = true then (t.method == vConnect && decide (m.status < 300)) else (m.method == vConnect)
set_option maxHeartbeats 2000000 in
set_option maxRecDepth 100000 in
theorem tally_tunnel (t : Ta) (m : Ms) (w : World) :
    Calls Try.prog 102 #[taVal t, msVal m] w fun e w' => e = .returned (.bool (tunnelF t m)) ∧ Below w.heap.size w w' := by
  cases h1 : t.answers
  · cases h2 : (m.method == vConnect)
    all_goals
      go_enter Try.func102, Try.ntmps102
      go_wp2_with fail
      go_ret
      exact ⟨ret1d (by first | (simp only [tunnelF, h1, h2]; rfl) | (simp [tunnelF, h1]; rfl)), ((Below.refl _ _).alloc (Nat.le_refl _) _).alloc (by simp) _⟩
  · cases h2 : (t.method == vConnect) <;> by_cases h3 : m.status < 300
    all_goals
      go_enter Try.func102, Try.ntmps102
      go_wp2_with fail
      go_ret
      refine ⟨ret1d ?_, ((Below.refl _ _).alloc (Nat.le_refl _) _).alloc (by simp) _⟩
      show Value.bool _ = _
      simp [tunnelF, h1, h2, h3]
def emptyF (t : Ta) (m : Ms) : Bool := t.answers && ((t.method == vHead || m.status == 204) || m.status == 304)
set_option maxHeartbeats 2000000 in
set_option maxRecDepth 100000 in
theorem tally_empty (t : Ta) (m : Ms) (w : World) :
    Calls Try.prog 101 #[taVal t, msVal m] w fun e w' => e = .returned (.bool (emptyF t m)) ∧ Below w.heap.size w w' := by
  cases h1 : t.answers <;> cases h2 : (t.method == vHead) <;> cases h3 : (m.status == 204) <;> cases h4 : (m.status == 304)
  all_goals
    go_enter Try.func101, Try.ntmps101
    go_wp2_with fail
    go_ret
    refine ⟨ret1d ?_, ((Below.refl _ _).alloc (Nat.le_refl _) _).alloc (by simp) _⟩
    show Value.bool _ = _
    simp only [emptyF, h1, h2, h3, h4]
    rfl
