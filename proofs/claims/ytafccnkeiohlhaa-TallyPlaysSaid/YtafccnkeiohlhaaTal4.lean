/-
  A tally: the fields at first; fields that come.
-/
import Derived.Test.YtafccnkeiohlhaaTal3
import Derived.Test.YtafccnkeiohlhaaMore
import Derived.Deep.RegionHeld3
namespace Go.Proofs.Ytafccnkeiohlhaa
open Go.ChangeShapes Go.WideShapes Go.ChangeAt Go.RowKit Go.Deep Go.Shelf

structure Tr where
  t : Ta
  m : Ms
  r : Int
abbrev trVal (x : Tr) : Value := .tuple #[taVal x.t, msVal x.m, .int .i64 x.r]
def endTr (m : Ms) (p : Ta × Int) : Tr := if p.2 = 0 then ⟨p.1, m, 0⟩ else ⟨noTa, noMs, p.2⟩
def fstOf (t : Ta) (c : Ms × Int) (e : Bool) : Tr :=
  if c.2 = 0 then (if t.answers = true ∧ c.1.status < 200 then (if e = true then ⟨noTa, noMs, 32⟩ else ⟨t, c.1, 0⟩) else (if e = true then endTr c.1 (closeF (flowF t c.1)) else ⟨flowF t c.1, c.1, 0⟩)) else ⟨noTa, noMs, c.2⟩
def fstF (t : Ta) (l : List Fd) (e : Bool) : Tr := fstOf t (chkF (kindF t) l) e

set_option maxHeartbeats 8000000 in
set_option maxRecDepth 100000 in
theorem tally_first (t : Ta) (a : Option Addr) (cap : Nat) (l : List Fd) (e : Bool) (w w0 : World) (hm : l.length ≤ maxLen) (hw : Below w0.heap.size w0 w) (hs : SlF w0 w0.heap.size a l) (hv : ∀ f ∈ l, f.value.length ≤ 1048576) :
    Calls Try.prog 90 #[taVal t, .slice a l.length cap, .bool e] w fun e' w' => e' = .returned (trVal (fstF t l e)) ∧ ∃ j, w' = w.more j := by
  obtain ⟨ans, met, ph, may, lef⟩ := t
  have T1 : ∀ W, Calls Try.prog 96 #[taVal ⟨ans, met, ph, may, lef⟩] W fun e w' => e = .returned (.int .i64 (kindF ⟨ans, met, ph, may, lef⟩)) ∧ ∃ j, w' = W.more j := fun W => outs (tally_kind _ W)
  have T2 : ∀ W, Below w0.heap.size w0 W → Calls Try.prog 54 #[.int .i64 (kindF ⟨ans, met, ph, may, lef⟩), .slice a l.length cap] W fun e w' => e = .returned (.tuple #[msVal (chkF (kindF ⟨ans, met, ph, may, lef⟩) l).1, .int .i64 (chkF (kindF ⟨ans, met, ph, may, lef⟩) l).2]) ∧ ∃ j, w' = W.more j := fun W h => outs (message_Check (kindF ⟨ans, met, ph, may, lef⟩) a cap w0.heap.size l W hm h.size (hs.below h (Nat.le_refl _)) hv)
  have HF : Hid (fstF ⟨ans, met, ph, may, lef⟩ l e = fstOf ⟨ans, met, ph, may, lef⟩ (chkF (kindF ⟨ans, met, ph, may, lef⟩) l) e) := rfl
  generalize chkF (kindF ⟨ans, met, ph, may, lef⟩) l = c at T2 HF
  generalize kindF ⟨ans, met, ph, may, lef⟩ = K at T1 T2
  generalize fstF ⟨ans, met, ph, may, lef⟩ l e = R at HF ⊢
  obtain ⟨⟨mm, mst, mn, mto⟩, ru⟩ := c
  have TF : ∀ W, Calls Try.prog 97 #[taVal ⟨ans, met, ph, may, lef⟩, msVal ⟨mm, mst, mn, mto⟩] W fun e w' => e = .returned (taVal (flowF ⟨ans, met, ph, may, lef⟩ ⟨mm, mst, mn, mto⟩)) ∧ ∃ j, w' = W.more j := fun W => outs (tally_flow _ _ W)
  generalize hf : flowF ⟨ans, met, ph, may, lef⟩ ⟨mm, mst, mn, mto⟩ = f at TF
  have TC : ∀ W, Calls Try.prog 89 #[taVal f] W fun e w' => e = .returned (.tuple #[taVal (closeF f).1, .int .i64 (closeF f).2]) ∧ ∃ j, w' = W.more j := fun W => outs (tally_close f W)
  generalize hp : closeF f = p at TC
  obtain ⟨pt, pr⟩ := p
  have H1 := Lib.hid T1
  have H2 := Lib.hid T2
  have H3 := Lib.hid TF
  have H4 := Lib.hid TC
  have HFL := Lib.hid hf
  have HCL := Lib.hid hp
  have HW := Lib.hid hw
  clear T1 T2 TF TC hf hp hs hv hw
  by_cases hr : ru = 0
  · subst hr
    by_cases hpr : pr = 0
    · subst hpr
      cases e <;> cases ans <;> by_cases hst : mst < 200
      all_goals
        go_enter Try.func90, Try.ntmps90
        go_wp2_with (first
          | (go_at_call 96; refine (H1.out _).mono ?_; rintro e w' ⟨rfl, j, rfl⟩)
          | (go_at_call 54; refine (H2.out _ (by repeat (first | exact HW.out | refine Below.allocS ?_ _ | refine Below.moreS ?_ _))).mono ?_; rintro e w' ⟨rfl, j, rfl⟩)
          | (go_at_call 97; refine (H3.out _).mono ?_; rintro e w' ⟨rfl, j, rfl⟩)
          | (go_at_call 89; refine (H4.out _).mono ?_; rintro e w' ⟨rfl, j, rfl⟩))
        all_goals try (go_region; go_wp2_with fail)
        all_goals
          refine bodyPost_ret (res_cell_cell_tmp rfl st_Tally rfl (by repeat (first | ((with_reducible apply Blk.at_); (simp; done)) | (with_reducible apply Blk.alloc) | (with_reducible apply Blk.more) | (with_reducible apply Blk.drew))) rfl st_Message rfl (by repeat (first | ((with_reducible apply Blk.at_); (simp; done)) | (with_reducible apply Blk.alloc) | (with_reducible apply Blk.more) | (with_reducible apply Blk.drew))) rfl rfl) rfl ⟨?_, Below.junk (by repeat (first | (with_reducible exact Below.refl _ _) | (with_reducible refine Below.allocS ?_ _) | (with_reducible refine Below.moreS ?_ _) | (with_reducible refine Below.drew ?_)))⟩
          rw [HF.out]
          first | (simp [fstOf, endTr, HFL.out, HCL.out, hst]; done) | (have hst' := Int.not_lt.2 hst; simp [fstOf, endTr, HFL.out, HCL.out, hst'])
    · cases e <;> cases ans <;> by_cases hst : mst < 200
      all_goals
        go_enter Try.func90, Try.ntmps90
        go_wp2_with (first
          | (go_at_call 96; refine (H1.out _).mono ?_; rintro e w' ⟨rfl, j, rfl⟩)
          | (go_at_call 54; refine (H2.out _ (by repeat (first | exact HW.out | refine Below.allocS ?_ _ | refine Below.moreS ?_ _))).mono ?_; rintro e w' ⟨rfl, j, rfl⟩)
          | (go_at_call 97; refine (H3.out _).mono ?_; rintro e w' ⟨rfl, j, rfl⟩)
          | (go_at_call 89; refine (H4.out _).mono ?_; rintro e w' ⟨rfl, j, rfl⟩))
        all_goals try (go_region; go_wp2_with fail)
        all_goals
          refine bodyPost_ret (res_cell_cell_tmp rfl st_Tally rfl (by repeat (first | ((with_reducible apply Blk.at_); (simp; done)) | (with_reducible apply Blk.alloc) | (with_reducible apply Blk.more) | (with_reducible apply Blk.drew))) rfl st_Message rfl (by repeat (first | ((with_reducible apply Blk.at_); (simp; done)) | (with_reducible apply Blk.alloc) | (with_reducible apply Blk.more) | (with_reducible apply Blk.drew))) rfl rfl) rfl ⟨?_, Below.junk (by repeat (first | (with_reducible exact Below.refl _ _) | (with_reducible refine Below.allocS ?_ _) | (with_reducible refine Below.moreS ?_ _) | (with_reducible refine Below.drew ?_)))⟩
          rw [HF.out]
          first | (simp [fstOf, endTr, HFL.out, HCL.out, hst, hpr]; done) | (have hst' := Int.not_lt.2 hst; simp [fstOf, endTr, HFL.out, HCL.out, hst', hpr])
  · skip
    go_enter Try.func90, Try.ntmps90
    go_wp2_with (first
      | (go_at_call 96; refine (H1.out _).mono ?_; rintro e w' ⟨rfl, j, rfl⟩)
      | (go_at_call 54; refine (H2.out _ (by repeat (first | exact HW.out | refine Below.allocS ?_ _ | refine Below.moreS ?_ _))).mono ?_; rintro e w' ⟨rfl, j, rfl⟩)
      | (go_at_call 97; refine (H3.out _).mono ?_; rintro e w' ⟨rfl, j, rfl⟩)
      | (go_at_call 89; refine (H4.out _).mono ?_; rintro e w' ⟨rfl, j, rfl⟩))
    all_goals
      refine bodyPost_ret (res_cell_cell_tmp rfl st_Tally rfl (by repeat (first | ((with_reducible apply Blk.at_); (simp; done)) | (with_reducible apply Blk.alloc) | (with_reducible apply Blk.more) | (with_reducible apply Blk.drew))) rfl st_Message rfl (by repeat (first | ((with_reducible apply Blk.at_); (simp; done)) | (with_reducible apply Blk.alloc) | (with_reducible apply Blk.more) | (with_reducible apply Blk.drew))) rfl rfl) rfl ⟨?_, Below.junk (by repeat (first | (with_reducible exact Below.refl _ _) | (with_reducible refine Below.allocS ?_ _) | (with_reducible refine Below.moreS ?_ _) | (with_reducible refine Below.drew ?_)))⟩
      rw [HF.out]
      simp [fstOf, hr]
