/-
  Parts of the proof, one behind the other: contracts of the program and plain laws; no condition of their own.
-/
import Derived.Test.YtfloijkagfabpaaGreatDoorMf
/-
  Kinds of frames: which flags a frame has, to which streams it belongs; the program's and the document's; the document's numbers of bytes.
-/
namespace Go.Proofs.YtfloijkagfabpaaGreatDoor
set_option linter.unusedSimpArgs false
set_option linter.unusedVariables false
set_option linter.unusedSectionVars false
open Go.ChangeShapes Go.WideShapes Go.ChangeAt Go.RowKit Go.Deep Go.Shelf

def usedF (t : Int) : Int := if t = 0 then 9 else if t = 1 then 45 else if t = 4 then 1 else if t = 6 then 1 else if t = 5 then 12 else if t = 9 then 4 else 0
def usesF (t g : Int) : Bool := decide (usedF t / g % 2 = 1)
def hasF (t fl g : Int) : Bool := usesF t g && decide (fl / g % 2 = 1)
theorem usedF_mem (t : Int) : usedF t ∈ [0, 9, 45, 1, 12, 4] := by unfold usedF; repeat' split
                                                                   all_goals simp
theorem has_bits0 : ∀ u ∈ ([0, 9, 45, 1, 12, 4] : List Int), ∀ g ∈ ([1, 4, 8, 32] : List Int), ∀ f : Fin 256, (bits .and .i64 (bits .and .i64 u (f.val : Int)) g != 0) = (decide (u / g % 2 = 1) && decide ((f.val : Int) / g % 2 = 1)) := by decide +kernel
theorem has_bits (t g : Int) (hg : g ∈ ([1, 4, 8, 32] : List Int)) (fl : Int) (h0 : 0 ≤ fl) (h1 : fl ≤ 255) : (bits .and .i64 (bits .and .i64 (usedF t) fl) g != 0) = hasF t fl g := by
  obtain ⟨n, rfl⟩ := Int.eq_ofNat_of_zero_le h0
  exact has_bits0 _ (usedF_mem t) g hg ⟨n, by omega⟩
set_option maxRecDepth 100000 in
theorem kinds_Used (t : Int) (w : World) : Calls Tryz.prog 210 #[.int .i64 t] w fun e w' => e = .returned (.int .i64 (usedF t)) ∧ w = w' := by
  have hc : t = 0 ∨ t = 1 ∨ t = 4 ∨ t = 6 ∨ t = 5 ∨ t = 9 ∨ (¬ t = 0 ∧ ¬ t = 1 ∧ ¬ t = 4 ∧ ¬ t = 6 ∧ ¬ t = 5 ∧ ¬ t = 9) := by omega
  rcases hc with rfl | rfl | rfl | rfl | rfl | rfl | ⟨h0, h1, h4, h6, h5, h9⟩
  all_goals
    go_enter Tryz.func210, Tryz.ntmps210
    go_wp2_with fail
    go_ret
    exact ⟨by simp [usedF, *], rfl⟩
set_option maxRecDepth 100000 in
theorem kinds_Has (t fl g : Int) (hg : g ∈ ([1, 4, 8, 32] : List Int)) (h0 : 0 ≤ fl) (h1 : fl ≤ 255) (w : World) : Calls Tryz.prog 146 #[.int .i64 t, .int .i64 fl, .int .i64 g] w fun e w' => e = .returned (.bool (hasF t fl g)) ∧ w = w' := by
  have HU : Hid (∀ W, Calls Tryz.prog 210 #[.int .i64 t] W fun e w' => e = .returned (.int .i64 (usedF t)) ∧ W = w') := kinds_Used t
  have hb := has_bits t g hg fl h0 h1
  generalize usedF t = U at HU hb
  generalize hasF t fl g = R at hb ⊢
  have hf : fl ≥ 0 := h0
  clear h0 h1
  simp only [List.mem_cons, List.not_mem_nil, or_false] at hg
  rcases hg with rfl | rfl | rfl | rfl
  all_goals
    have HB := Lib.hid hb
    clear hb
    go_enter Tryz.func146, Tryz.ntmps146
    go_wp2_with (go_at_call 210; (with_reducible refine (HU.out _).mono ?_); rintro e w' ⟨rfl, rfl⟩)
    go_ret
    refine ⟨?_, rfl⟩
    rw [← HB.out]
    rfl
set_option maxRecDepth 100000 in
theorem ref08_Uses (t g : Int) (hg : g ∈ ([1, 4, 8, 32] : List Int)) (w : World) : Calls Tryz.prog 136 #[.int .i64 t, .int .i64 g] w fun e w' => e = .returned (.bool (usesF t g)) ∧ w = w' := by
  simp only [List.mem_cons, List.not_mem_nil, or_false] at hg
  have hc : t = 0 ∨ t = 1 ∨ t = 4 ∨ t = 6 ∨ t = 5 ∨ t = 9 ∨ (¬ t = 0 ∧ ¬ t = 1 ∧ ¬ t = 4 ∧ ¬ t = 6 ∧ ¬ t = 5 ∧ ¬ t = 9) := by omega
  rcases hc with rfl | rfl | rfl | rfl | rfl | rfl | ⟨h0, h1, h4, h6, h5, h9⟩ <;> rcases hg with rfl | rfl | rfl | rfl
  all_goals
    go_enter Tryz.func136, Tryz.ntmps136
    go_wp2_with fail
    go_ret
    exact ⟨by simp [usesF, usedF, *], rfl⟩
set_option maxRecDepth 100000 in
theorem ref08_Has (t fl g : Int) (hg : g ∈ ([1, 4, 8, 32] : List Int)) (h0 : 0 ≤ fl) (h1 : fl ≤ 255) (w : World) : Calls Tryz.prog 64 #[.int .i64 t, .int .i64 fl, .int .i64 g] w fun e w' => e = .returned (.bool (hasF t fl g)) ∧ w = w' := by
  have HU : Hid (∀ W, Calls Tryz.prog 136 #[.int .i64 t, .int .i64 g] W fun e w' => e = .returned (.bool (usesF t g)) ∧ W = w') := ref08_Uses t g hg
  have hr : hasF t fl g = (usesF t g && decide (fl / g % 2 = 1)) := rfl
  generalize usesF t g = U at HU hr
  generalize hasF t fl g = R at hr ⊢
  have HR := Lib.hid hr
  clear hr
  have hf : fl ≥ 0 := h0
  simp only [List.mem_cons, List.not_mem_nil, or_false] at hg
  rcases hg with rfl | rfl | rfl | rfl <;> cases U
  all_goals
    go_enter Tryz.func64, Tryz.ntmps64
    go_wp2_with (go_at_call 136; (with_reducible refine (HU.out _).mono ?_); rintro e w' ⟨rfl, rfl⟩)
    go_ret
    exact ⟨by rw [HR.out]; first | rfl | (rw [Int.ediv_one]; rfl), rfl⟩
def strF (t : Int) : Int := if t = 4 ∨ t = 6 ∨ t = 7 then 0 else if 0 ≤ t ∧ t < 10 ∧ ¬ t = 8 then 1 else 2
set_option maxRecDepth 100000 in
theorem kinds_Streams (t : Int) (w : World) : Calls Tryz.prog 145 #[.int .i64 t] w fun e w' => e = .returned (.int .i64 (strF t)) ∧ w = w' := by
  have hc : t = 0 ∨ t = 1 ∨ t = 2 ∨ t = 3 ∨ t = 4 ∨ t = 5 ∨ t = 6 ∨ t = 7 ∨ t = 9 ∨ (¬ t = 0 ∧ ¬ t = 1 ∧ ¬ t = 2 ∧ ¬ t = 3 ∧ ¬ t = 4 ∧ ¬ t = 5 ∧ ¬ t = 6 ∧ ¬ t = 7 ∧ ¬ t = 9) := by omega
  have hs : strF t = strF t := rfl
  rcases hc with rfl | rfl | rfl | rfl | rfl | rfl | rfl | rfl | rfl | ⟨h0, h1, h2, h3, h4, h5, h6, h7, h9⟩
  all_goals
    go_enter Tryz.func145, Tryz.ntmps145
    go_wp2_with fail
    go_ret
    exact ⟨by first | rfl | (unfold strF; rw [if_neg (by omega), if_neg (by omega)]; rfl), rfl⟩
set_option maxRecDepth 100000 in
theorem ref08_Streams (t : Int) (w : World) : Calls Tryz.prog 190 #[.int .i64 t] w fun e w' => e = .returned (.int .i64 (strF t)) ∧ w = w' := by
  by_cases h4 : t = 4
  · subst h4
    go_enter Tryz.func190, Tryz.ntmps190
    go_wp2_with fail
    go_ret
    exact ⟨rfl, rfl⟩
  by_cases h6 : t = 6
  · subst h6
    go_enter Tryz.func190, Tryz.ntmps190
    go_wp2_with fail
    go_ret
    exact ⟨rfl, rfl⟩
  by_cases h7 : t = 7
  · subst h7
    go_enter Tryz.func190, Tryz.ntmps190
    go_wp2_with fail
    go_ret
    exact ⟨rfl, rfl⟩
  by_cases h0 : t ≥ 0 <;> by_cases h1 : t < 10 <;> by_cases h8 : t = 8
  all_goals
    first
      | (exfalso; omega)
      | (go_enter Tryz.func190, Tryz.ntmps190
         go_wp2_with fail
         go_ret
         exact ⟨by unfold strF; rw [if_neg (by omega)]; first | (rw [if_pos (by omega)]; done) | (rw [if_neg (by omega)]; done) | (rw [if_pos (by omega)]; rfl) | (rw [if_neg (by omega)]; rfl), rfl⟩)
set_option maxRecDepth 100000 in
theorem ref01_Low (n : Int) (h0 : 0 ≤ n) (h1 : n < 4294967296) (w : World) : Calls Tryz.prog 194 #[.int .i64 n] w fun e w' => e = .returned (.tuple #[.int .i64 (lowF n).1, .bool (lowF n).2]) ∧ w = w' := by
  have g0 : ¬ n < 0 := by omega
  have g1 : ¬ n ≥ 4294967296 := by omega
  by_cases h : n ≥ 2147483648
  · have hl : lowF n = (n - 2147483648, true) := by unfold lowF; rw [if_pos ⟨h0, h1⟩, if_pos h]
    rw [hl]
    clear hl
    go_enter Tryz.func194, Tryz.ntmps194
    go_wp2_with fail
    go_ret2
    exact ⟨rfl, rfl⟩
  · have hl : lowF n = (n, false) := by unfold lowF; rw [if_pos ⟨h0, h1⟩, if_neg h]
    rw [hl]
    clear hl
    go_enter Tryz.func194, Tryz.ntmps194
    go_wp2_with fail
    go_ret2
    exact ⟨rfl, rfl⟩
end Go.Proofs.YtfloijkagfabpaaGreatDoor
/-
  The numbers of a frame, by its type.
-/
namespace Go.Proofs.YtfloijkagfabpaaGreatDoor
set_option linter.unusedSimpArgs false
set_option linter.unusedVariables false
set_option linter.unusedSectionVars false
open Go.ChangeShapes Go.WideShapes Go.ChangeAt Go.RowKit Go.Deep Go.Shelf

abbrev FrmT : TypeId := 109
abbrev fmC (ty fl st pad : Int) (da : Option Addr) (dn dc : Nat) (sa : Option Addr) (sn sc : Nat) (wt pa : Int) (al : Bool) (pr la co sp : Int) : Array Value :=
  #[.int .i64 ty, .int .i64 fl, .int .i64 st, .int .i64 pad, .slice da dn dc, .slice sa sn sc, .int .i64 wt, .int .i64 pa, .bool al, .int .i64 pr, .int .i64 la, .int .i64 co, .int .i64 sp]
theorem fm_cells {ty fl st pad : Int} {da : Option Addr} {dn dc : Nat} {sa : Option Addr} {sn sc : Nat} {wt pa : Int} {al : Bool} {pr la co sp : Int} : ∀ (i : Nat) (y : UInt8), (fmC ty fl st pad da dn dc sa sn sc wt pa al pr la co sp)[i]? ≠ some (.int .u8 (y.toNat : Int))
  | 0, y => by simp
  | 1, y => by simp
  | 2, y => by simp
  | 3, y => by simp
  | 4, y => by simp
  | 5, y => by simp
  | 6, y => by simp
  | 7, y => by simp
  | 8, y => by simp
  | 9, y => by simp
  | 10, y => by simp
  | 11, y => by simp
  | 12, y => by simp
  | i + 13, y => by simp
structure Nm where
  wt : Int
  pa : Int
  al : Bool
  pr : Int
  la : Int
  co : Int
  sp : Int
  n : Nat
  sh : Bool
def weiF (l : List UInt8) (n : Nat) (sh : Bool) : Nm := ⟨(numF 1 l (nxtN 4 l n)).1, (lowF (numF 4 l n).1).1, (lowF (numF 4 l n).1).2, 0, 0, 0, 0, nxtN 1 l (nxtN 4 l n), nxtS 1 l (nxtN 4 l n) (nxtS 4 l n sh)⟩
def numsF (ty fl : Int) (l : List UInt8) (n : Nat) (sh : Bool) : Nm :=
  if ty = 1 ∧ hasF 1 fl 32 = true ∨ ty = 2 then weiF l n sh
  else if ty = 3 then ⟨0, 0, false, 0, 0, (numF 4 l n).1, 0, nxtN 4 l n, nxtS 4 l n sh⟩
  else if ty = 5 then ⟨0, 0, false, (lowF (numF 4 l n).1).1, 0, 0, 0, nxtN 4 l n, nxtS 4 l n sh⟩
  else if ty = 7 then ⟨0, 0, false, 0, (lowF (numF 4 l n).1).1, (numF 4 l (nxtN 4 l n)).1, 0, nxtN 4 l (nxtN 4 l n), nxtS 4 l (nxtN 4 l n) (nxtS 4 l n sh)⟩
  else if ty = 8 then ⟨0, 0, false, 0, 0, 0, (lowF (numF 4 l n).1).1, nxtN 4 l n, nxtS 4 l n sh⟩
  else ⟨0, 0, false, 0, 0, 0, 0, n, sh⟩
def P3 (g h i : Nat) (k : Nat) : Prop := k = g ∨ k = h ∨ k = i
theorem p2_3 {g h i k : Nat} (e : P2 g h k) : P3 g h i k := e.elim .inl (fun e => .inr (.inl e))
def NmsP (C R F : Nat) (ty fl st pad : Int) (l : List UInt8) (m : Nm) (w : World) (e : Ending) (w' : World) : Prop :=
  e = .returned (.tuple #[]) ∧ Rdr w' C R l m.n m.sh ∧ Blk w' F FrmT (fmC ty fl st pad none 0 0 none 0 0 m.wt m.pa m.al m.pr m.la m.co m.sp) ∧ Gp (P3 C R F) w w'
set_option maxHeartbeats 2000000 in
set_option maxRecDepth 100000 in
theorem reader_weighed (C R F : Nat) (ty fl st pad : Int) (l : List UInt8) (n : Nat) (sh : Bool) (w : World) (h : Rdr w C R l n sh) (hF : Blk w F FrmT (fmC ty fl st pad none 0 0 none 0 0 0 0 false 0 0 0 0)) (hC : F ≠ C) (hR : F ≠ R) :
    Calls Tryz.prog 212 #[.pointer (some ⟨R, 0, none⟩), .pointer (some ⟨F, 0, none⟩)] w (NmsP C R F ty fl st pad l (weiF l n sh) w) := by
  have HL := Lib.hid (reader_low C R l n sh w h)
  have HN : Hid (∀ W, Rdr W C R l (nxtN 4 l n) (nxtS 4 l n sh) → Calls Tryz.prog 148 #[.pointer (some ⟨R, 0, none⟩), .int .i64 1] W (NumP C R 1 l (nxtN 4 l n) (nxtS 4 l n sh) W)) := fun W hW => reader_number C R l _ 1 _ (by decide) (by decide) W hW
  have HF := Lib.hid hF
  have HNC : Hid (¬ P2 C R F) := fun e => e.elim hC hR
  have HNR : Hid (C ≠ F ∧ R ≠ F) := ⟨fun e => hC e.symm, fun e => hR e.symm⟩
  unfold NmsP weiF
  unfold NumP at HN
  generalize nxtS 1 l (nxtN 4 l n) (nxtS 4 l n sh) = S2 at HN ⊢
  generalize nxtN 1 l (nxtN 4 l n) = N2 at HN ⊢
  generalize (numF 1 l (nxtN 4 l n)).1 = V2 at HN ⊢
  generalize nxtS 4 l n sh = S1 at HL HN
  generalize nxtN 4 l n = N1 at HL HN
  generalize lowF (numF 4 l n).1 = V1 at HL ⊢
  clear h hF hC hR
  go_enter Tryz.func212, Tryz.ntmps212
  go_wp2_with fail
  refine HL.out.mono ?_
  rintro e w1 ⟨rfl, hr1, hg1⟩
  have hf1 := hg1.blk HF.out HNC.out
  have d1 := hf1.frozen 7
  have d2 := hf1.frozen 8
  have d4 : w1.cell? ⟨F, 7, none⟩ = some (.int .i64 0) := hf1.cell 7
  have d5 : w1.cell? ⟨F, 8, none⟩ = some (.bool false) := hf1.cell 8
  have d3 := hf1.lt
  have HF1 := Lib.hid hf1
  have HR1 := Lib.hid hr1
  have HG1 := Lib.hid hg1
  clear hf1 hr1 hg1
  go_wp2_with fail
  obtain ⟨w2, hw2⟩ : ∃ w2, w2 = (w1.setCell ⟨F, 7, none⟩ (.int .i64 V1.1)).setCell ⟨F, 8, none⟩ (.bool V1.2) := ⟨_, rfl⟩
  rw [← hw2]
  have hg2 : Gp (fun q => q = F) w1 w2 := by rw [hw2]; exact (Gp.set (p := fun q => q = F) _ rfl).trans (Gp.set _ rfl)
  have hf2 : Blk w2 F FrmT (fmC ty fl st pad none 0 0 none 0 0 0 V1.1 V1.2 0 0 0 0) := by rw [hw2]; exact (HF1.out.set_ 7 _).set_ 8 _
  have hr2 : Rdr w2 C R l N1 S1 := HR1.out.gp hg2 HNR.out.1 HNR.out.2 (fun q hq => ⟨_, _, hq ▸ HF1.out, fm_cells⟩)
  have HF2 := Lib.hid hf2
  have HR2 := Lib.hid hr2
  have HG2 : Hid (Gp (P3 C R F) w w2) := (HG1.out.imp fun _ => p2_3).trans (hg2.imp fun _ e => .inr (.inr e))
  clear hw2 hg2 hf2 hr2 d1 d2 d3 d4 d5
  refine (HN.out w2 HR2.out).mono ?_
  rintro e w3 ⟨rfl, hr3, hg3⟩
  have hf3 := hg3.blk HF2.out HNC.out
  have d1 := hf3.frozen 6
  have d4 : w3.cell? ⟨F, 6, none⟩ = some (.int .i64 0) := hf3.cell 6
  have d3 := hf3.lt
  have HF3 := Lib.hid hf3
  have HR3 := Lib.hid hr3
  have HG3 := Lib.hid hg3
  clear hf3 hr3 hg3
  go_wp2_with fail
  go_end0
  have hg4 : Gp (fun q => q = F) w3 (w3.setCell ⟨F, 6, none⟩ (.int .i64 V2)) := Gp.set _ rfl
  exact ⟨rfl, HR3.out.gp hg4 HNR.out.1 HNR.out.2 (fun q hq => ⟨_, _, hq ▸ HF3.out, fm_cells⟩), HF3.out.set_ 6 _, (HG2.out.trans (HG3.out.imp fun _ => p2_3)).trans (hg4.imp fun _ e => .inr (.inr e))⟩
end Go.Proofs.YtfloijkagfabpaaGreatDoor
