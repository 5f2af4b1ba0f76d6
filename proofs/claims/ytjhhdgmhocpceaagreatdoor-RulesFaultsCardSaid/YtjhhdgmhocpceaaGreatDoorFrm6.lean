/-
  The numbers of a frame, by its type.
-/
import Derived.Test.YtjhhdgmhocpceaaGreatDoorMe
namespace Go.Proofs.YtjhhdgmhocpceaaGreatDoor
set_option linter.unusedSimpArgs false
set_option linter.unusedVariables false
set_option linter.unusedSectionVars false
open Go.ChangeShapes Go.WideShapes Go.ChangeAt Go.RowKit Go.Deep Go.Shelf

abbrev FrmT : TypeId := 53
abbrev fmC (ty fl st pad : Int) (da : Option Addr) (dn dc : Nat) (sa : Option Addr) (sn sc : Nat) (wt pa : Int) (al : Bool) (pr la co sp : Int) : Array Value :=
  #[.int .i64 ty, .int .i64 fl, .int .i64 st, .int .i64 pad, .slice da dn dc, .slice sa sn sc, .int .i64 wt, .int .i64 pa, .bool al, .int .i64 pr, .int .i64 la, .int .i64 co, .int .i64 sp]
theorem fm_cells {ty fl st pad : Int} {da : Option Addr} {dn dc : Nat} {sa : Option Addr} {sn sc : Nat} {wt pa : Int} {al : Bool} {pr la co sp : Int} : ∀ (i : Nat) (y : UInt8), (fmC ty fl st pad da dn dc sa sn sc wt pa al pr la co sp)[i]? ≠ some (.int .u8 (y.toNat : Int))
  | 0, y => by simp
  | 1, y => by simp
  | 2, y => by simp
  | 3, y => by simp
  | 4, y => by simp
  | 5, y => by simp
  | 6, y => by simp
  | 7, y => by simp
  | 8, y => by simp
  | 9, y => by simp
  | 10, y => by simp
  | 11, y => by simp
  | 12, y => by simp
  | i + 13, y => by simp
structure Nm where
  wt : Int
  pa : Int
  al : Bool
  pr : Int
  la : Int
  co : Int
  sp : Int
  n : Nat
  sh : Bool
def weiF (l : List UInt8) (n : Nat) (sh : Bool) : Nm := ⟨(numF 1 l (nxtN 4 l n)).1, (lowF (numF 4 l n).1).1, (lowF (numF 4 l n).1).2, 0, 0, 0, 0, nxtN 1 l (nxtN 4 l n), nxtS 1 l (nxtN 4 l n) (nxtS 4 l n sh)⟩
def numsF (ty fl : Int) (l : List UInt8) (n : Nat) (sh : Bool) : Nm :=
  if ty = 1 ∧ hasF 1 fl 32 = true ∨ ty = 2 then weiF l n sh
  else if ty = 3 then ⟨0, 0, false, 0, 0, (numF 4 l n).1, 0, nxtN 4 l n, nxtS 4 l n sh⟩
  else if ty = 5 then ⟨0, 0, false, (lowF (numF 4 l n).1).1, 0, 0, 0, nxtN 4 l n, nxtS 4 l n sh⟩
  else if ty = 7 then ⟨0, 0, false, 0, (lowF (numF 4 l n).1).1, (numF 4 l (nxtN 4 l n)).1, 0, nxtN 4 l (nxtN 4 l n), nxtS 4 l (nxtN 4 l n) (nxtS 4 l n sh)⟩
  else if ty = 8 then ⟨0, 0, false, 0, 0, 0, (lowF (numF 4 l n).1).1, nxtN 4 l n, nxtS 4 l n sh⟩
  else ⟨0, 0, false, 0, 0, 0, 0, n, sh⟩
def P3 (g h i : Nat) (k : Nat) : Prop := k = g ∨ k = h ∨ k = i
theorem p2_3 {g h i k : Nat} (e : P2 g h k) : P3 g h i k := e.elim .inl (fun e => .inr (.inl e))
def NmsP (C R F : Nat) (ty fl st pad : Int) (l : List UInt8) (m : Nm) (w : World) (e : Ending) (w' : World) : Prop :=
  e = .returned (.tuple #[]) ∧ Rdr w' C R l m.n m.sh ∧ Blk w' F FrmT (fmC ty fl st pad none 0 0 none 0 0 m.wt m.pa m.al m.pr m.la m.co m.sp) ∧ Gp (P3 C R F) w w'
set_option maxHeartbeats 2000000 in
set_option maxRecDepth 100000 in
theorem reader_weighed (C R F : Nat) (ty fl st pad : Int) (l : List UInt8) (n : Nat) (sh : Bool) (w : World) (h : Rdr w C R l n sh) (hF : Blk w F FrmT (fmC ty fl st pad none 0 0 none 0 0 0 0 false 0 0 0 0)) (hC : F ≠ C) (hR : F ≠ R) :
    Calls Tryz.prog 114 #[.pointer (some ⟨R, 0, none⟩), .pointer (some ⟨F, 0, none⟩)] w (NmsP C R F ty fl st pad l (weiF l n sh) w) := by
  have HL := Lib.hid (reader_low C R l n sh w h)
  have HN : Hid (∀ W, Rdr W C R l (nxtN 4 l n) (nxtS 4 l n sh) → Calls Tryz.prog 81 #[.pointer (some ⟨R, 0, none⟩), .int .i64 1] W (NumP C R 1 l (nxtN 4 l n) (nxtS 4 l n sh) W)) := fun W hW => reader_number C R l _ 1 _ (by decide) (by decide) W hW
  have HF := Lib.hid hF
  have HNC : Hid (¬ P2 C R F) := fun e => e.elim hC hR
  have HNR : Hid (C ≠ F ∧ R ≠ F) := ⟨fun e => hC e.symm, fun e => hR e.symm⟩
  unfold NmsP weiF
  unfold NumP at HN
  generalize nxtS 1 l (nxtN 4 l n) (nxtS 4 l n sh) = S2 at HN ⊢
  generalize nxtN 1 l (nxtN 4 l n) = N2 at HN ⊢
  generalize (numF 1 l (nxtN 4 l n)).1 = V2 at HN ⊢
  generalize nxtS 4 l n sh = S1 at HL HN
  generalize nxtN 4 l n = N1 at HL HN
  generalize lowF (numF 4 l n).1 = V1 at HL ⊢
  clear h hF hC hR
  go_enter Tryz.func114, Tryz.ntmps114
  go_wp2_with fail
  refine HL.out.mono ?_
  rintro e w1 ⟨rfl, hr1, hg1⟩
  have hf1 := hg1.blk HF.out HNC.out
  have d1 := hf1.frozen 7
  have d2 := hf1.frozen 8
  have d4 : w1.cell? ⟨F, 7, none⟩ = some (.int .i64 0) := hf1.cell 7
  have d5 : w1.cell? ⟨F, 8, none⟩ = some (.bool false) := hf1.cell 8
  have d3 := hf1.lt
  have HF1 := Lib.hid hf1
  have HR1 := Lib.hid hr1
  have HG1 := Lib.hid hg1
  clear hf1 hr1 hg1
  go_wp2_with fail
  obtain ⟨w2, hw2⟩ : ∃ w2, w2 = (w1.setCell ⟨F, 7, none⟩ (.int .i64 V1.1)).setCell ⟨F, 8, none⟩ (.bool V1.2) := ⟨_, rfl⟩
  rw [← hw2]
  have hg2 : Gp (fun q => q = F) w1 w2 := by rw [hw2]; exact (Gp.set (p := fun q => q = F) _ rfl).trans (Gp.set _ rfl)
  have hf2 : Blk w2 F FrmT (fmC ty fl st pad none 0 0 none 0 0 0 V1.1 V1.2 0 0 0 0) := by rw [hw2]; exact (HF1.out.set_ 7 _).set_ 8 _
  have hr2 : Rdr w2 C R l N1 S1 := HR1.out.gp hg2 HNR.out.1 HNR.out.2 (fun q hq => ⟨_, _, hq ▸ HF1.out, fm_cells⟩)
  have HF2 := Lib.hid hf2
  have HR2 := Lib.hid hr2
  have HG2 : Hid (Gp (P3 C R F) w w2) := (HG1.out.imp fun _ => p2_3).trans (hg2.imp fun _ e => .inr (.inr e))
  clear hw2 hg2 hf2 hr2 d1 d2 d3 d4 d5
  refine (HN.out w2 HR2.out).mono ?_
  rintro e w3 ⟨rfl, hr3, hg3⟩
  have hf3 := hg3.blk HF2.out HNC.out
  have d1 := hf3.frozen 6
  have d4 : w3.cell? ⟨F, 6, none⟩ = some (.int .i64 0) := hf3.cell 6
  have d3 := hf3.lt
  have HF3 := Lib.hid hf3
  have HR3 := Lib.hid hr3
  have HG3 := Lib.hid hg3
  clear hf3 hr3 hg3
  go_wp2_with fail
  go_end0
  have hg4 : Gp (fun q => q = F) w3 (w3.setCell ⟨F, 6, none⟩ (.int .i64 V2)) := Gp.set _ rfl
  exact ⟨rfl, HR3.out.gp hg4 HNR.out.1 HNR.out.2 (fun q hq => ⟨_, _, hq ▸ HF3.out, fm_cells⟩), HF3.out.set_ 6 _, (HG2.out.trans (HG3.out.imp fun _ => p2_3)).trans (hg4.imp fun _ e => .inr (.inr e))⟩
end Go.Proofs.YtjhhdgmhocpceaaGreatDoor
