/-
  A tally: data.
-/
import Derived.Test.YtafccnkeiohlhaaTal2
namespace Go.Proofs.Ytafccnkeiohlhaa
open Go.ChangeShapes Go.WideShapes Go.ChangeAt Go.RowKit Go.Deep Go.Shelf

def datEnd (t : Ta) (e : Bool) : Ta × Int := if e = true then closeF t else (t, 0)
def datN (t : Ta) (n : Int) (e : Bool) : Ta × Int :=
  if ¬ t.phase = 1 ∨ (t.may = 1 ∧ 0 < n) then (noTa, 32) else if t.may = 2 then (if t.left < n then (noTa, 31) else datEnd { t with left := t.left - n } e) else datEnd t e
def datF (t : Ta) (n : Int) (e : Bool) : Ta × Int := datN t (max n 0) e

set_option maxHeartbeats 8000000 in
set_option maxRecDepth 100000 in
theorem tally_Data (t : Ta) (n : Int) (e : Bool) (w : World) (hl : t.left ≤ 9223372036854775807) :
    Calls Try.prog 60 #[taVal t, .int .i64 n, .bool e] w fun e' w' => e' = .returned (.tuple #[taVal (datF t n e).1, .int .i64 (datF t n e).2]) ∧ Below w.heap.size w w' := by
  obtain ⟨ans, met, ph, may, lef⟩ := t
  simp only at hl
  have hbw : ∀ o1 o2, Below w.heap.size w ((w.alloc o1).alloc o2) := fun o1 o2 => ((Below.refl _ _).alloc (Nat.le_refl _) o1).alloc (by simp) o2
  have hF : ∀ t, datF t n e = datN t (max n 0) e := fun _ => rfl
  rw [hF]
  clear hF
  by_cases p1 : ph = 1
  case neg =>
    have HR : Hid (datN ⟨ans, met, ph, may, lef⟩ (max n 0) e = (noTa, 32)) := if_pos (.inl p1)
    have p1' : (ph == 1) = false := by simpa using p1
    go_enter Try.func60, Try.ntmps60
    go_wp2_with fail
    refine bodyPost_ret (res_cell_tmp rfl st_Tally rfl (Blk.at_ _ _ _ (by simp)) rfl rfl) rfl ⟨by first | (rw [HR.out]; rfl) | rw [HR.out], hbw _ _⟩
  subst p1
  by_cases p2 : may = 1
  · subst p2
    by_cases p3 : 0 < max n 0
    · have HR : Hid (datN ⟨ans, met, 1, 1, lef⟩ (max n 0) e = (noTa, 32)) := if_pos (.inr ⟨rfl, p3⟩)
      go_enter Try.func60, Try.ntmps60
      go_wp2_with fail
      refine bodyPost_ret (res_cell_tmp rfl st_Tally rfl (Blk.at_ _ _ _ (by simp)) rfl rfl) rfl ⟨by first | (rw [HR.out]; rfl) | rw [HR.out], hbw _ _⟩
    · have HD : Hid (datN ⟨ans, met, 1, 1, lef⟩ (max n 0) e = datEnd ⟨ans, met, 1, 1, lef⟩ e) := by
        show datN _ _ _ = _
        unfold datN
        rw [if_neg (by simp [p3]), if_neg (by simp)]
      cases e with
      | false =>
        have HR := Lib.hid (HD.out.trans (show datEnd ⟨ans, met, 1, 1, lef⟩ false = (⟨ans, met, 1, 1, lef⟩, 0) from rfl))
        go_enter Try.func60, Try.ntmps60
        go_wp2_with fail
        refine bodyPost_ret (res_cell_tmp rfl st_Tally rfl (Blk.at_ _ _ _ (by simp)) rfl rfl) rfl ⟨by first | (rw [HR.out]; rfl) | rw [HR.out], hbw _ _⟩
      | true =>
        have HR := Lib.hid (HD.out.trans (show datEnd ⟨ans, met, 1, 1, lef⟩ true = closeF ⟨ans, met, 1, 1, lef⟩ from rfl))
        have TC := tally_close ⟨ans, met, 1, 1, lef⟩
        generalize closeF ⟨ans, met, 1, 1, lef⟩ = cl at TC HR
        go_enter Try.func60, Try.ntmps60
        go_wp2_with fail
        refine (TC _).mono ?_
        rintro e1 w1 ⟨rfl, hb1⟩
        have B1 : Blk w1 (w.heap.size + 1) TaT #[.bool false, bstr [], .int .i64 0, .int .i64 0, .int .i64 0] := (Blk.at_ (w.alloc _) TaT #[.bool false, bstr [], .int .i64 0, .int .i64 0, .int .i64 0] (by simp)).below hb1 (by simp)
        have hbw1 := (hbw _ _).trans (hb1.mono (by simp; omega))
        obtain ⟨⟨c0, c1, c2, c3, c4⟩, ⟨fc0, fc1, fc2, fc3, fc4⟩, hz⟩ := B1.all5
        go_wp2_with fail
        refine bodyPost_ret (res_cell_tmp rfl st_Tally rfl B1.put5 rfl rfl) rfl ⟨by first | (rw [HR.out]; rfl) | rw [HR.out], below_put5 hbw1 (by omega)⟩
  have p2' : (may == 1) = false := by simpa using p2
  by_cases p4 : may = 2
  · subst p4
    by_cases p5 : lef < max n 0
    · have HR : Hid (datN ⟨ans, met, 1, 2, lef⟩ (max n 0) e = (noTa, 31)) := by
        show datN _ _ _ = _
        unfold datN
        rw [if_neg (by simp), if_pos rfl, if_pos p5]
      go_enter Try.func60, Try.ntmps60
      go_wp2_with fail
      refine bodyPost_ret (res_cell_tmp rfl st_Tally rfl (Blk.at_ _ _ _ (by simp)) rfl rfl) rfl ⟨by first | (rw [HR.out]; rfl) | rw [HR.out], hbw _ _⟩
    · have HD : Hid (datN ⟨ans, met, 1, 2, lef⟩ (max n 0) e = datEnd ⟨ans, met, 1, 2, lef - max n 0⟩ e) := by
        show datN _ _ _ = _
        unfold datN
        rw [if_neg (by simp), if_pos rfl, if_neg p5]
      cases e with
      | false =>
        have HR := Lib.hid (HD.out.trans (show datEnd ⟨ans, met, 1, 2, (lef - max n 0)⟩ false = (⟨ans, met, 1, 2, (lef - max n 0)⟩, 0) from rfl))
        go_enter Try.func60, Try.ntmps60
        go_wp2_with fail
        refine bodyPost_ret (res_cell_tmp rfl st_Tally rfl (Blk.at_ _ _ _ (by simp)) rfl rfl) rfl ⟨by first | (rw [HR.out]; rfl) | rw [HR.out], hbw _ _⟩
      | true =>
        have HR := Lib.hid (HD.out.trans (show datEnd ⟨ans, met, 1, 2, (lef - max n 0)⟩ true = closeF ⟨ans, met, 1, 2, (lef - max n 0)⟩ from rfl))
        have TC := tally_close ⟨ans, met, 1, 2, (lef - max n 0)⟩
        generalize closeF ⟨ans, met, 1, 2, (lef - max n 0)⟩ = cl at TC HR
        go_enter Try.func60, Try.ntmps60
        go_wp2_with fail
        refine (TC _).mono ?_
        rintro e1 w1 ⟨rfl, hb1⟩
        have B1 : Blk w1 (w.heap.size + 1) TaT #[.bool false, bstr [], .int .i64 0, .int .i64 0, .int .i64 0] := (Blk.at_ (w.alloc _) TaT #[.bool false, bstr [], .int .i64 0, .int .i64 0, .int .i64 0] (by simp)).below hb1 (by simp)
        have hbw1 := (hbw _ _).trans (hb1.mono (by simp; omega))
        obtain ⟨⟨c0, c1, c2, c3, c4⟩, ⟨fc0, fc1, fc2, fc3, fc4⟩, hz⟩ := B1.all5
        go_wp2_with fail
        refine bodyPost_ret (res_cell_tmp rfl st_Tally rfl B1.put5 rfl rfl) rfl ⟨by first | (rw [HR.out]; rfl) | rw [HR.out], below_put5 hbw1 (by omega)⟩
  · have p4' : (may == 2) = false := by simpa using p4
    have HD : Hid (datN ⟨ans, met, 1, may, lef⟩ (max n 0) e = datEnd ⟨ans, met, 1, may, lef⟩ e) := by
      show datN _ _ _ = _
      unfold datN
      rw [if_neg (by simp [p2]), if_neg p4]
    cases e with
    | false =>
      have HR := Lib.hid (HD.out.trans (show datEnd ⟨ans, met, 1, may, lef⟩ false = (⟨ans, met, 1, may, lef⟩, 0) from rfl))
      go_enter Try.func60, Try.ntmps60
      go_wp2_with fail
      refine bodyPost_ret (res_cell_tmp rfl st_Tally rfl (Blk.at_ _ _ _ (by simp)) rfl rfl) rfl ⟨by first | (rw [HR.out]; rfl) | rw [HR.out], hbw _ _⟩
    | true =>
      have HR := Lib.hid (HD.out.trans (show datEnd ⟨ans, met, 1, may, lef⟩ true = closeF ⟨ans, met, 1, may, lef⟩ from rfl))
      have TC := tally_close ⟨ans, met, 1, may, lef⟩
      generalize closeF ⟨ans, met, 1, may, lef⟩ = cl at TC HR
      go_enter Try.func60, Try.ntmps60
      go_wp2_with fail
      refine (TC _).mono ?_
      rintro e1 w1 ⟨rfl, hb1⟩
      have B1 : Blk w1 (w.heap.size + 1) TaT #[.bool false, bstr [], .int .i64 0, .int .i64 0, .int .i64 0] := (Blk.at_ (w.alloc _) TaT #[.bool false, bstr [], .int .i64 0, .int .i64 0, .int .i64 0] (by simp)).below hb1 (by simp)
      have hbw1 := (hbw _ _).trans (hb1.mono (by simp; omega))
      obtain ⟨⟨c0, c1, c2, c3, c4⟩, ⟨fc0, fc1, fc2, fc3, fc4⟩, hz⟩ := B1.all5
      go_wp2_with fail
      refine bodyPost_ret (res_cell_tmp rfl st_Tally rfl B1.put5 rfl rfl) rfl ⟨by first | (rw [HR.out]; rfl) | rw [HR.out], below_put5 hbw1 (by omega)⟩
