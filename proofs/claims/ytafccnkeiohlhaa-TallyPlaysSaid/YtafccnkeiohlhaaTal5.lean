/-
  A tally: the document's state; what comes behind the fields at first.
-/
import Derived.Test.YtafccnkeiohlhaaTal4
import Derived.BigGuardPart
namespace Go.Proofs.Ytafccnkeiohlhaa
open Go.ChangeShapes Go.WideShapes Go.ChangeAt Go.RowKit Go.Deep Go.Shelf

structure St where
  answers : Bool
  method : List UInt8
  phase : Int
  may : Int
  want : Int
  came : Int
abbrev stVal (s : St) : Value := .agg #[.bool s.answers, bstr s.method, .int .i64 s.phase, .int .i64 s.may, .int .i64 s.want, .int .i64 s.came]
abbrev noSt : St := ⟨false, [], 0, 0, 0, 0⟩
theorem st_State : StructTy Try.prog 83 6 := ⟨_, Try.underlying83, rfl, by kernel_rfl⟩
def mayF (s : St) (m : Ms) : Int :=
  if s.answers = true then
    (if m.status = 204 ∨ m.status = 304 ∨ (s.method == vHead) = true then 1
     else if (s.method == vConnect) = true ∧ m.status < 300 then 0 else if m.told = true then 2 else 0)
  else if (m.method == vConnect) = true then 0 else if m.told = true then 2 else 0
def rbegF (s : St) (m : Ms) : St := { s with phase := 1, may := mayF s m, want := if m.told = true then m.n else s.want }

set_option maxHeartbeats 8000000 in
set_option maxRecDepth 100000 in
theorem ref29_begun (s : St) (m : Ms) (w : World) :
    Calls Try.prog 98 #[stVal s, msVal m] w fun e w' => e = .returned (stVal (rbegF s m)) ∧ ∃ j, w' = w.more j := by
  obtain ⟨ans, met, ph, may, wa, ca⟩ := s
  obtain ⟨mm, mst, mn, mto⟩ := m
  go_enter Try.func98, Try.ntmps98
  go_wp2_with fail
  all_goals first
    | (exfalso; omega)
    | refine bodyPost_ret (res_cell rfl st_State rfl (by repeat (first | ((with_reducible apply Blk.at_); (simp; done)) | (with_reducible apply Blk.alloc) | (with_reducible apply Blk.more) | (with_reducible apply Blk.drew))) rfl) rfl ⟨?_, Below.junk (by repeat (first | (with_reducible exact Below.refl _ _) | (with_reducible refine Below.allocS ?_ _) | (with_reducible refine Below.moreS ?_ _) | (with_reducible refine Below.drew ?_)))⟩
  all_goals (refine ret1d ?_; simp [rbegF, mayF, *])
