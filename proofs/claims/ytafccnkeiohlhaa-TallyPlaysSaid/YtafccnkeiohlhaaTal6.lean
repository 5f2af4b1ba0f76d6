/-
  A tally: fields that come, the program's and the document's; data, the document's.
-/
import Derived.Test.YtafccnkeiohlhaaTal5
namespace Go.Proofs.Ytafccnkeiohlhaa
set_option linter.unusedSimpArgs false
set_option linter.unusedVariables false
open Go.ChangeShapes Go.WideShapes Go.ChangeAt Go.RowKit Go.Deep Go.Shelf

def headF (t : Ta) (l : List Fd) (e : Bool) : Tr :=
  if t.phase = 0 then fstF t l e else if t.phase = 2 ∨ e = false then ⟨noTa, noMs, 33⟩ else if (chkF 2 l).2 = 0 then endTr (chkF 2 l).1 (closeF t) else ⟨noTa, noMs, (chkF 2 l).2⟩

set_option maxHeartbeats 8000000 in
set_option maxRecDepth 100000 in
theorem tally_Head (t : Ta) (a : Option Addr) (cap : Nat) (l : List Fd) (e : Bool) (w w0 : World) (hm : l.length ≤ maxLen) (hw : Below w0.heap.size w0 w) (hs : SlF w0 w0.heap.size a l) (hv : ∀ f ∈ l, f.value.length ≤ 1048576) :
    Calls Try.prog 62 #[taVal t, .slice a l.length cap, .bool e] w fun e' w' => e' = .returned (trVal (headF t l e)) ∧ ∃ j, w' = w.more j := by
  obtain ⟨ans, met, ph, may, lef⟩ := t
  have T1 : ∀ W, Below w0.heap.size w0 W → Calls Try.prog 90 #[taVal ⟨ans, met, ph, may, lef⟩, .slice a l.length cap, .bool e] W fun e' w' => e' = .returned (trVal (fstF ⟨ans, met, ph, may, lef⟩ l e)) ∧ ∃ j, w' = W.more j := fun W h => tally_first _ a cap l e W w0 hm h hs hv
  have T2 : ∀ W, Below w0.heap.size w0 W → Calls Try.prog 54 #[.int .i64 2, .slice a l.length cap] W fun e w' => e = .returned (.tuple #[msVal (chkF 2 l).1, .int .i64 (chkF 2 l).2]) ∧ ∃ j, w' = W.more j := fun W h => outs (message_Check 2 a cap w0.heap.size l W hm h.size (hs.below h (Nat.le_refl _)) hv)
  have T3 : ∀ W, Calls Try.prog 89 #[taVal ⟨ans, met, ph, may, lef⟩] W fun e w' => e = .returned (.tuple #[taVal (closeF ⟨ans, met, ph, may, lef⟩).1, .int .i64 (closeF ⟨ans, met, ph, may, lef⟩).2]) ∧ ∃ j, w' = W.more j := fun W => outs (tally_close _ W)
  have HF : Hid (headF ⟨ans, met, ph, may, lef⟩ l e = if ph = 0 then fstF ⟨ans, met, ph, may, lef⟩ l e else if ph = 2 ∨ e = false then ⟨noTa, noMs, 33⟩ else if (chkF 2 l).2 = 0 then endTr (chkF 2 l).1 (closeF ⟨ans, met, ph, may, lef⟩) else ⟨noTa, noMs, (chkF 2 l).2⟩) := rfl
  generalize headF ⟨ans, met, ph, may, lef⟩ l e = R at HF ⊢
  generalize fstF ⟨ans, met, ph, may, lef⟩ l e = c1 at T1 HF
  generalize chkF 2 l = c2 at T2 HF
  generalize closeF ⟨ans, met, ph, may, lef⟩ = c3 at T3 HF
  obtain ⟨⟨t1, t2, t3, t4, t5⟩, ⟨m1, m2, m3, m4⟩, r1⟩ := c1
  obtain ⟨⟨n1, n2, n3, n4⟩, r2⟩ := c2
  obtain ⟨⟨u1, u2, u3, u4, u5⟩, r3⟩ := c3
  have H1 := Lib.hid T1
  have H2 := Lib.hid T2
  have H3 := Lib.hid T3
  have HW := Lib.hid hw
  clear T1 T2 T3 hs hv hw
  go_enter Try.func62, Try.ntmps62
  go_wp2_with (first
    | (go_at_call 90; refine (H1.out _ (by repeat (first | exact HW.out | (with_reducible refine Below.allocS ?_ _) | (with_reducible refine Below.moreS ?_ _) | (with_reducible refine Below.drew ?_)))).mono ?_; rintro e w' ⟨rfl, j, rfl⟩)
    | (go_at_call 54; refine (H2.out _ (by repeat (first | exact HW.out | (with_reducible refine Below.allocS ?_ _) | (with_reducible refine Below.moreS ?_ _) | (with_reducible refine Below.drew ?_)))).mono ?_; rintro e w' ⟨rfl, j, rfl⟩)
    | (go_at_call 89; refine (H3.out _).mono ?_; rintro e w' ⟨rfl, j, rfl⟩))
  all_goals try (go_region; go_wp2_with fail)
  all_goals first
    | (exfalso; omega)
    | refine bodyPost_ret (res_cell_cell_tmp rfl st_Tally rfl (by repeat (first | ((with_reducible apply Blk.at_); (simp; done)) | (with_reducible apply Blk.alloc) | (with_reducible apply Blk.more) | (with_reducible apply Blk.drew))) rfl st_Message rfl (by repeat (first | ((with_reducible apply Blk.at_); (simp; done)) | (with_reducible apply Blk.alloc) | (with_reducible apply Blk.more) | (with_reducible apply Blk.drew))) rfl rfl) rfl ⟨?_, Below.junk (by repeat (first | (with_reducible exact Below.refl _ _) | (with_reducible refine Below.allocS ?_ _) | (with_reducible refine Below.moreS ?_ _) | (with_reducible refine Below.drew ?_)))⟩
  all_goals (refine ret1d ?_; rw [HF.out]; clear H1 H2 H3 HF HW; simp_all [endTr, -Int.not_lt, ← Int.not_lt])

structure Rr where
  s : St
  m : Ms
  r : Int
abbrev rrVal (x : Rr) : Value := .tuple #[stVal x.s, msVal x.m, .int .i64 x.r]
def rfstEnd (b : St) (m : Ms) (e : Bool) : Rr :=
  if e = true then (if b.may = 2 ∧ 0 < b.want then ⟨noSt, noMs, 31⟩ else ⟨{ b with phase := 2 }, m, 0⟩) else ⟨b, m, 0⟩
def rfstOf (s : St) (c : Ms × Int) (e : Bool) : Rr :=
  if c.2 = 0 then (if s.answers = true ∧ c.1.status < 200 then (if e = true then ⟨noSt, noMs, 32⟩ else ⟨s, c.1, 0⟩) else rfstEnd (rbegF s c.1) c.1 e) else ⟨noSt, noMs, c.2⟩
def rfstF (s : St) (l : List Fd) (e : Bool) : Rr := rfstOf s (chkF (if s.answers = true then 1 else 0) l) e

set_option maxHeartbeats 8000000 in
set_option maxRecDepth 100000 in
theorem ref29_first (s : St) (a : Option Addr) (cap : Nat) (l : List Fd) (e : Bool) (w w0 : World) (hm : l.length ≤ 1048576) (hw : Below w0.heap.size w0 w) (hs : SlF w0 w0.heap.size a l) (hv : ∀ f ∈ l, f.value.length ≤ 1048576) :
    Calls Try.prog 91 #[stVal s, .slice a l.length cap, .bool e] w fun e' w' => e' = .returned (rrVal (rfstF s l e)) ∧ ∃ j, w' = w.more j := by
  obtain ⟨ans, met, ph, may, wa, ca⟩ := s
  have T2 : ∀ K W, Below w0.heap.size w0 W → Calls Try.prog 55 #[.int .i64 K, .slice a l.length cap] W fun e w' => e = .returned (.tuple #[msVal (chkF K l).1, .int .i64 (chkF K l).2]) ∧ ∃ j, w' = W.more j := fun K W h => outs (ref28_Check K a cap w0.heap.size l W hm h.size (hs.below h (Nat.le_refl _)) hv)
  have HF : Hid (rfstF ⟨ans, met, ph, may, wa, ca⟩ l e = rfstOf ⟨ans, met, ph, may, wa, ca⟩ (chkF (if ans = true then 1 else 0) l) e) := rfl
  generalize rfstF ⟨ans, met, ph, may, wa, ca⟩ l e = R at HF ⊢
  cases ans with
  | true =>
    have HF2 : Hid (R = rfstOf ⟨true, met, ph, may, wa, ca⟩ (chkF 1 l) e) := HF
    have T3 := T2 1
    clear T2 HF
    generalize chkF 1 l = c2 at T3 HF2
    obtain ⟨⟨n1, n2, n3, n4⟩, r2⟩ := c2
    have T4 : ∀ W, Calls Try.prog 98 #[stVal ⟨true, met, ph, may, wa, ca⟩, msVal ⟨n1, n2, n3, n4⟩] W fun e w' => e = .returned (stVal (rbegF ⟨true, met, ph, may, wa, ca⟩ ⟨n1, n2, n3, n4⟩)) ∧ ∃ j, w' = W.more j := fun W => ref29_begun _ _ W
    simp only [Hid, rfstOf] at HF2
    generalize rbegF ⟨true, met, ph, may, wa, ca⟩ ⟨n1, n2, n3, n4⟩ = b at T4 HF2
    obtain ⟨b1, b2, b3, b4, b5, b6⟩ := b
    have HF2 := Lib.hid HF2
    have H2 := Lib.hid T3
    have H4 := Lib.hid T4
    have HW := Lib.hid hw
    clear T3 T4 hs hv hw
    go_enter Try.func91, Try.ntmps91
    go_wp2_with (first
      | (go_at_call 55; refine (H2.out _ (by repeat (first | exact HW.out | (with_reducible refine Below.allocS ?_ _) | (with_reducible refine Below.moreS ?_ _) | (with_reducible refine Below.drew ?_)))).mono ?_; rintro e w' ⟨rfl, j, rfl⟩)
      | (go_at_call 98; refine (H4.out _).mono ?_; rintro e w' ⟨rfl, j, rfl⟩))
    all_goals try (go_region; go_wp2_with fail)
    all_goals first
      | (exfalso; omega)
      | refine bodyPost_ret (res_cell_cell_tmp rfl st_State rfl (by repeat (first | ((with_reducible apply Blk.at_); (simp; done)) | (with_reducible apply Blk.alloc) | (with_reducible apply Blk.more) | (with_reducible apply Blk.drew))) rfl st_Message28 rfl (by repeat (first | ((with_reducible apply Blk.at_); (simp; done)) | (with_reducible apply Blk.alloc) | (with_reducible apply Blk.more) | (with_reducible apply Blk.drew))) rfl rfl) rfl ⟨?_, Below.junk (by repeat (first | (with_reducible exact Below.refl _ _) | (with_reducible refine Below.allocS ?_ _) | (with_reducible refine Below.moreS ?_ _) | (with_reducible refine Below.drew ?_)))⟩
    all_goals (refine ret1d ?_; rw [HF2.out]; clear H2 H4 HF2 HW; simp_all [rfstEnd, -Int.not_lt, ← Int.not_lt])
  | false =>
    have HF2 : Hid (R = rfstOf ⟨false, met, ph, may, wa, ca⟩ (chkF 0 l) e) := HF
    have T3 := T2 0
    clear T2 HF
    generalize chkF 0 l = c2 at T3 HF2
    obtain ⟨⟨n1, n2, n3, n4⟩, r2⟩ := c2
    have T4 : ∀ W, Calls Try.prog 98 #[stVal ⟨false, met, ph, may, wa, ca⟩, msVal ⟨n1, n2, n3, n4⟩] W fun e w' => e = .returned (stVal (rbegF ⟨false, met, ph, may, wa, ca⟩ ⟨n1, n2, n3, n4⟩)) ∧ ∃ j, w' = W.more j := fun W => ref29_begun _ _ W
    simp only [Hid, rfstOf] at HF2
    generalize rbegF ⟨false, met, ph, may, wa, ca⟩ ⟨n1, n2, n3, n4⟩ = b at T4 HF2
    obtain ⟨b1, b2, b3, b4, b5, b6⟩ := b
    have HF2 := Lib.hid HF2
    have H2 := Lib.hid T3
    have H4 := Lib.hid T4
    have HW := Lib.hid hw
    clear T3 T4 hs hv hw
    go_enter Try.func91, Try.ntmps91
    go_wp2_with (first
      | (go_at_call 55; refine (H2.out _ (by repeat (first | exact HW.out | (with_reducible refine Below.allocS ?_ _) | (with_reducible refine Below.moreS ?_ _) | (with_reducible refine Below.drew ?_)))).mono ?_; rintro e w' ⟨rfl, j, rfl⟩)
      | (go_at_call 98; refine (H4.out _).mono ?_; rintro e w' ⟨rfl, j, rfl⟩))
    all_goals try (go_region; go_wp2_with fail)
    all_goals first
      | (exfalso; omega)
      | refine bodyPost_ret (res_cell_cell_tmp rfl st_State rfl (by repeat (first | ((with_reducible apply Blk.at_); (simp; done)) | (with_reducible apply Blk.alloc) | (with_reducible apply Blk.more) | (with_reducible apply Blk.drew))) rfl st_Message28 rfl (by repeat (first | ((with_reducible apply Blk.at_); (simp; done)) | (with_reducible apply Blk.alloc) | (with_reducible apply Blk.more) | (with_reducible apply Blk.drew))) rfl rfl) rfl ⟨?_, Below.junk (by repeat (first | (with_reducible exact Below.refl _ _) | (with_reducible refine Below.allocS ?_ _) | (with_reducible refine Below.moreS ?_ _) | (with_reducible refine Below.drew ?_)))⟩
    all_goals (refine ret1d ?_; rw [HF2.out]; clear H2 H4 HF2 HW; simp_all [rfstEnd, -Int.not_lt, ← Int.not_lt])

def rheadF (s : St) (l : List Fd) (e : Bool) : Rr :=
  if s.phase = 0 then rfstF s l e else if s.phase = 2 ∨ e = false then ⟨noSt, noMs, 33⟩ else if (chkF 2 l).2 = 0 then (if s.may = 2 ∧ s.came ≠ s.want then ⟨noSt, noMs, 31⟩ else ⟨{ s with phase := 2 }, (chkF 2 l).1, 0⟩) else ⟨noSt, noMs, (chkF 2 l).2⟩

set_option maxHeartbeats 8000000 in
set_option maxRecDepth 100000 in
theorem ref29_Head (s : St) (a : Option Addr) (cap : Nat) (l : List Fd) (e : Bool) (w w0 : World) (hm : l.length ≤ 1048576) (hw : Below w0.heap.size w0 w) (hs : SlF w0 w0.heap.size a l) (hv : ∀ f ∈ l, f.value.length ≤ 1048576) :
    Calls Try.prog 63 #[stVal s, .slice a l.length cap, .bool e] w fun e' w' => e' = .returned (rrVal (rheadF s l e)) ∧ ∃ j, w' = w.more j := by
  obtain ⟨ans, met, ph, may, wa, ca⟩ := s
  have T1 : ∀ W, Below w0.heap.size w0 W → Calls Try.prog 91 #[stVal ⟨ans, met, ph, may, wa, ca⟩, .slice a l.length cap, .bool e] W fun e' w' => e' = .returned (rrVal (rfstF ⟨ans, met, ph, may, wa, ca⟩ l e)) ∧ ∃ j, w' = W.more j := fun W h => ref29_first _ a cap l e W w0 hm h hs hv
  have T2 : ∀ W, Below w0.heap.size w0 W → Calls Try.prog 55 #[.int .i64 2, .slice a l.length cap] W fun e w' => e = .returned (.tuple #[msVal (chkF 2 l).1, .int .i64 (chkF 2 l).2]) ∧ ∃ j, w' = W.more j := fun W h => outs (ref28_Check 2 a cap w0.heap.size l W hm h.size (hs.below h (Nat.le_refl _)) hv)
  have HF : Hid (rheadF ⟨ans, met, ph, may, wa, ca⟩ l e = if ph = 0 then rfstF ⟨ans, met, ph, may, wa, ca⟩ l e else if ph = 2 ∨ e = false then ⟨noSt, noMs, 33⟩ else if (chkF 2 l).2 = 0 then (if may = 2 ∧ ca ≠ wa then ⟨noSt, noMs, 31⟩ else ⟨⟨ans, met, 2, may, wa, ca⟩, (chkF 2 l).1, 0⟩) else ⟨noSt, noMs, (chkF 2 l).2⟩) := rfl
  generalize rheadF ⟨ans, met, ph, may, wa, ca⟩ l e = R at HF ⊢
  generalize rfstF ⟨ans, met, ph, may, wa, ca⟩ l e = c1 at T1 HF
  generalize chkF 2 l = c2 at T2 HF
  obtain ⟨⟨t1, t2, t3, t4, t5, t6⟩, ⟨m1, m2, m3, m4⟩, r1⟩ := c1
  obtain ⟨⟨n1, n2, n3, n4⟩, r2⟩ := c2
  have H1 := Lib.hid T1
  have H2 := Lib.hid T2
  have HW := Lib.hid hw
  clear T1 T2 hs hv hw
  go_enter Try.func63, Try.ntmps63
  go_wp2_with (first
    | (go_at_call 91; refine (H1.out _ (by repeat (first | exact HW.out | (with_reducible refine Below.allocS ?_ _) | (with_reducible refine Below.moreS ?_ _) | (with_reducible refine Below.drew ?_)))).mono ?_; rintro e w' ⟨rfl, j, rfl⟩)
    | (go_at_call 55; refine (H2.out _ (by repeat (first | exact HW.out | (with_reducible refine Below.allocS ?_ _) | (with_reducible refine Below.moreS ?_ _) | (with_reducible refine Below.drew ?_)))).mono ?_; rintro e w' ⟨rfl, j, rfl⟩))
  all_goals try (go_region; go_wp2_with fail)
  all_goals first
    | (exfalso; omega)
    | refine bodyPost_ret (res_cell_cell_tmp rfl st_State rfl (by repeat (first | ((with_reducible apply Blk.at_); (simp; done)) | (with_reducible apply Blk.alloc) | (with_reducible apply Blk.more) | (with_reducible apply Blk.drew))) rfl st_Message28 rfl (by repeat (first | ((with_reducible apply Blk.at_); (simp; done)) | (with_reducible apply Blk.alloc) | (with_reducible apply Blk.more) | (with_reducible apply Blk.drew))) rfl rfl) rfl ⟨?_, Below.junk (by repeat (first | (with_reducible exact Below.refl _ _) | (with_reducible refine Below.allocS ?_ _) | (with_reducible refine Below.moreS ?_ _) | (with_reducible refine Below.drew ?_)))⟩
  all_goals (refine ret1d ?_; rw [HF.out]; clear H1 H2 HF HW; simp_all [-Int.not_lt, ← Int.not_lt])

def rdatN (s : St) (n : Int) (e : Bool) : St × Int :=
  if ¬ s.phase = 1 ∨ (s.may = 1 ∧ 0 < n) then (noSt, 32) else if s.may = 2 then (if s.want - s.came < n then (noSt, 31) else if e = true ∧ s.came + n < s.want then (noSt, 31) else (⟨s.answers, s.method, if e = true then 2 else s.phase, s.may, s.want, s.came + n⟩, 0))
  else (⟨s.answers, s.method, if e = true then 2 else s.phase, s.may, s.want, s.came⟩, 0)
def rdatF (s : St) (n : Int) (e : Bool) : St × Int := rdatN s (if n < 0 then 0 else n) e

set_option maxHeartbeats 8000000 in
set_option maxRecDepth 100000 in
theorem ref29_Data (s : St) (n : Int) (e : Bool) (w : World) (h1 : 0 ≤ s.came) (h2 : s.came ≤ s.want) (h3 : s.want ≤ 9223372036854775807) :
    Calls Try.prog 61 #[stVal s, .int .i64 n, .bool e] w fun e' w' => e' = .returned (.tuple #[stVal (rdatF s n e).1, .int .i64 (rdatF s n e).2]) ∧ ∃ j, w' = w.more j := by
  obtain ⟨ans, met, ph, may, wa, ca⟩ := s
  simp only at h1 h2 h3
  have HF : Hid (rdatF ⟨ans, met, ph, may, wa, ca⟩ n e = rdatN ⟨ans, met, ph, may, wa, ca⟩ (if n < 0 then 0 else n) e) := rfl
  generalize rdatF ⟨ans, met, ph, may, wa, ca⟩ n e = R at HF ⊢
  by_cases hn : n < 0
  · go_enter Try.func61, Try.ntmps61
    go_wp2_with fail
    all_goals first
      | (exfalso; omega)
      | refine bodyPost_ret (res_cell_tmp rfl st_State rfl (by repeat (first | ((with_reducible apply Blk.at_); (simp; done)) | (with_reducible apply Blk.alloc) | (with_reducible apply Blk.more) | (with_reducible apply Blk.drew))) rfl rfl) rfl ⟨?_, Below.junk (by repeat (first | (with_reducible exact Below.refl _ _) | (with_reducible refine Below.allocS ?_ _) | (with_reducible refine Below.moreS ?_ _) | (with_reducible refine Below.drew ?_)))⟩
    all_goals (refine ret1d ?_; rw [HF.out, if_pos hn]; clear HF; have hc0 : ¬ wa - ca < 0 := (by omega); simp_all [rdatN, -Int.not_lt, ← Int.not_lt])
    all_goals (try omega)
  · go_enter Try.func61, Try.ntmps61
    go_wp2_with fail
    all_goals first
      | (exfalso; omega)
      | refine bodyPost_ret (res_cell_tmp rfl st_State rfl (by repeat (first | ((with_reducible apply Blk.at_); (simp; done)) | (with_reducible apply Blk.alloc) | (with_reducible apply Blk.more) | (with_reducible apply Blk.drew))) rfl rfl) rfl ⟨?_, Below.junk (by repeat (first | (with_reducible exact Below.refl _ _) | (with_reducible refine Below.allocS ?_ _) | (with_reducible refine Below.moreS ?_ _) | (with_reducible refine Below.drew ?_)))⟩
    all_goals (refine ret1d ?_; rw [HF.out, if_neg (by omega)]; clear HF; simp_all [rdatN, -Int.not_lt, ← Int.not_lt])
    all_goals (try omega)
