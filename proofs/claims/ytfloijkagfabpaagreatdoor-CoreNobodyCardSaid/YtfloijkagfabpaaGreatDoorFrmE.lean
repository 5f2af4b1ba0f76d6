/-
  What a frame says, inside: the program's.
-/
import Derived.Test.YtfloijkagfabpaaGreatDoorFrm7
import Derived.Test.YtfloijkagfabpaaGreatDoorFrm8
import Derived.Test.YtfloijkagfabpaaGreatDoorMi
namespace Go.Proofs.YtfloijkagfabpaaGreatDoor
set_option linter.unusedSimpArgs false
set_option linter.unusedVariables false
set_option linter.unusedSectionVars false
open Go.ChangeShapes Go.WideShapes Go.ChangeAt Go.RowKit Go.Deep Go.Shelf

theorem cnm {P : Program} {f : FuncId} {args : Array Value} {Q : Ending → World → Prop} {w : World} (h : ∀ wz, wz = w → Calls P f args wz Q) : Calls P f args w Q := h w rfl
theorem blk_row {w : World} {g : Nat} {t : TypeId} {old : Array Value} (h : Blk w g t old) (cs : Array Value) : Blk (w.setRow g cs) g t cs := by
  unfold Blk at h ⊢
  simp [World.setRow, Array.getElem?_modify, h]
theorem gp_row (w : World) (g : Nat) (cs : Array Value) : Gp (fun q => q = g) w (w.setRow g cs) :=
  ⟨rfl, rfl, rfl, by simp [World.setRow], fun k _ hn => by simp only [World.setRow, Array.getElem?_modify]; rw [if_neg (fun e => hn e.symm)]⟩
theorem below_row {B : Nat} {a w : World} (h : Below B a w) {g : Nat} (hg : B ≤ g) (cs : Array Value) : Below B a (w.setRow g cs) :=
  ⟨h.os, h.tape, h.output, Nat.le_trans h.size (by simp [World.setRow]), fun k hk => by
    have : (w.setRow g cs).heap[k]? = w.heap[k]? := by simp only [World.setRow, Array.getElem?_modify]; rw [if_neg (by omega)]
    rw [this]; exact h.block k hk⟩
section
variable {P : Program} {fn : Func} {p q : Tmp} {ty ty' n n' g g' : Nat} {t t' : TypeId} {cs cs' : Array Value} {w : World} {tmps : Array Value}
theorem res_cell2 (h : fn.results = #[.cell p ty, .cell q ty']) (hs : StructTy P ty n) (hp : tmps.getD p undef = .pointer (some ⟨g, 0, none⟩)) (hb : Blk w g t cs) (hn : cs.size = n)
    (hs' : StructTy P ty' n') (hq : tmps.getD q undef = .pointer (some ⟨g', 0, none⟩)) (hb' : Blk w g' t' cs') (hn' : cs'.size = n') :
    (results fn tmps).run P w = .ok (.tuple #[.agg cs, .agg cs']) w := by
  have hp' : tmps[p]?.getD undef = .pointer (some ⟨g, 0, none⟩) := by simpa using hp
  have hq' : tmps[q]?.getD undef = .pointer (some ⟨g', 0, none⟩) := by simpa using hq
  simp [results, h, hp', hq', asAddr, hs.load hb hn, hs'.load hb' hn']
end
theorem fm_one {ty fl st pad : Int} {da : Option Addr} {dn dc : Nat} {sa : Option Addr} {sn sc : Nat} {wt pa : Int} {al : Bool} {pr la co sp : Int} : (fmC ty fl st pad da dn dc sa sn sc wt pa al pr la co sp).all (·.oneCell') = true := by simp [Value.oneCell']
theorem fu_one {x y : Int} : (#[.int .i64 x, .int .i64 y] : Array Value).all (·.oneCell') = true := by simp [Value.oneCell']
theorem SlR.gpN {α : Type} {p : Nat → Prop} {N size : Nat} {R : α → List Value → Prop} {w w' : World} {a : Option Addr} {l : List α} (h : SlR w w.heap.size size R a l) (hn : ∀ q, a = some q → N ≤ q.block) (hp : ∀ k, p k → k < N) (hg : Gp p w w') : SlR w' w'.heap.size size R a l := by
  intro k hk
  obtain ⟨b, o, cs, ha, hb, hR, hc⟩ := h k hk
  have hnb := hn _ ha
  refine ⟨b, o, cs, ha, Nat.lt_of_lt_of_le hb hg.size, hR, fun j v hj => (hg.cell b _ hb (fun e => ?_)).trans (hc j v hj)⟩
  have := hp b e
  simp only at hnb
  omega
/-- All blocks but two stay, and one cell of the second. -/
def GcF (C F : Nat) (w w' : World) : Prop := Gp (fun q => q = C ∨ q = F) w w' ∧ w'.cell? ⟨F, 3, none⟩ = w.cell? ⟨F, 3, none⟩
theorem gcF_refl (C F : Nat) (w : World) : GcF C F w w := ⟨Gp.refl _, rfl⟩
theorem GcF.tr {C F : Nat} (a b c : World) (h : GcF C F a b) (h2 : GcF C F b c) : GcF C F a c := ⟨h.1.trans h2.1, h2.2.trans h.2⟩
theorem GcF.at {C F b : Nat} {w w' : World} (h : GcF C F w w') (hb : b < w.heap.size) (hn : ¬ (b = C ∨ b = F)) : ∀ o, w'.cell? ⟨b, o, none⟩ = w.cell? ⟨b, o, none⟩ := fun o => h.1.cell b o hb hn
theorem GcF.two {C F : Nat} {w w' : World} (h : GcF C F w w') : w'.cell? ⟨F, 3, none⟩ = w.cell? ⟨F, 3, none⟩ := h.2
structure Fm where
  ty : Int
  fl : Int
  st : Int
  pad : Int
  data : List UInt8
  sets : List (Int × Int)
  wt : Int
  pa : Int
  al : Bool
  pr : Int
  la : Int
  co : Int
  sp : Int
def zFm : Fm := ⟨0, 0, 0, 0, [], [], 0, 0, false, 0, 0, 0, 0⟩
theorem st_Fm : StructTy Tryz.prog FrmT 13 := ⟨_, Tryz.underlying109, rfl, by kernel_rfl⟩
/-- A frame's cells: its rows lie in the world, made at B or later. -/
def FmIs (w : World) (B : Nat) (f : Fm) (cs : Array Value) : Prop :=
  ∃ da dc sa sc, cs = fmC f.ty f.fl f.st f.pad da f.data.length dc sa f.sets.length sc f.wt f.pa f.al f.pr f.la f.co f.sp ∧ SlB w w.heap.size da f.data ∧ f.data.length ≤ dc ∧ (∀ p, da = some p → B ≤ p.block) ∧
    SlG w w.heap.size sa f.sets ∧ f.sets.length ≤ sc ∧ (∀ p, sa = some p → B ≤ p.block)
theorem FmIs.below {w w' : World} {B : Nat} {f : Fm} {cs : Array Value} (h : FmIs w B f cs) (hb : Below w.heap.size w w') : FmIs w' B f cs := by
  obtain ⟨da, dc, sa, sc, h1, h2, h3, h4, h5, h6, h7⟩ := h
  exact ⟨da, dc, sa, sc, h1, h2.grow hb, h3, h4, h5.grow' hb, h6, h7⟩
theorem zFm_is (w : World) (B : Nat) : FmIs w B zFm (fmC 0 0 0 0 none 0 0 none 0 0 0 0 false 0 0 0 0) := ⟨none, 0, none, 0, rfl, .nil, Nat.le_refl _, (fun p hp => by cases hp), .nil, Nat.le_refl _, (fun p hp => by cases hp)⟩
def padN (ty fl : Int) (l : List UInt8) : Nm × Int := (numsF ty fl l (if hasF ty fl 8 = true then nxtN 1 l 0 else 0) (if hasF ty fl 8 = true then nxtS 1 l 0 false else false), if hasF ty fl 8 = true then (numF 1 l 0).1 else -1)
def insF (ty fl st : Int) (l : List UInt8) : Fm × (Int × Int) :=
  let m := (padN ty fl l).1
  let pad := (padN ty fl l).2
  if m.sh = true then (zFm, (if ty = 0 ∨ ty = 2 then 1 else 2, 6))
  else if pad > ((l.length - m.n : Nat) : Int) then (zFm, (2, 1))
  else if ty = 4 then (⟨ty, fl, st, pad, [], setsF l, m.wt, m.pa, m.al, m.pr, m.la, m.co, m.sp⟩, (0, 0))
  else (⟨ty, fl, st, pad, (l.drop m.n).take (l.length - m.n - pad.toNat), [], m.wt, m.pa, m.al, m.pr, m.la, m.co, m.sp⟩, (0, 0))
def InsP (p : Fm × (Int × Int)) (w : World) (e : Ending) (w' : World) : Prop := ∃ cs, e = .returned (.tuple #[.agg cs, fuV p.2]) ∧ FmIs w' w.heap.size p.1 cs ∧ Below w.heap.size w w'
theorem numF_small (k : Nat) (hk : k ≤ 4) (l : List UInt8) (n : Nat) : 0 ≤ (numF k l n).1 ∧ (numF k l n).1 < 4294967296 := by
  unfold numF getF
  split
  · have := beN_small (l := (l.drop n).take k) (by simp; omega)
    simp only
    omega
  · simp
set_option maxHeartbeats 8000000 in
set_option maxRecDepth 100000 in
theorem frame_inside (fr ty fl st : Int) (rs : Bool) (a : Option Addr) (c : Nat) (l : List UInt8) (h0 : 0 ≤ fl) (h1 : fl ≤ 255) (hlen : lenOk ty fl l.length = true) (hl : l.length ≤ 1048576) (w : World) (h : SlB w w.heap.size a l) :
    Calls Tryz.prog 80 #[rawV fr ty fl st rs a l.length c] w (InsP (insF ty fl st l) w) := by
  have HS := Lib.hid h
  have H8 : Hid (∀ W, Calls Tryz.prog 146 #[.int .i64 ty, .int .i64 fl, .int .i64 8] W fun e w' => e = .returned (.bool (hasF ty fl 8)) ∧ W = w') := kinds_Has ty fl 8 (by simp) h0 h1
  have HC : Hid (∀ W, Below w.heap.size w W → Calls Tryz.prog 147 #[.slice a l.length c] W fun e w' => ∃ C A, e = .returned (.pointer (some ⟨C, 0, none⟩)) ∧ Cur w' C A l 0 ∧ W.heap.size ≤ C ∧ Below W.heap.size W w') := fun W hW => cursor_New a c l W (HS.out.grow hW) (by omega)
  have HP : Hid (ty = 4 → ∀ W, Below w.heap.size w W → Calls Tryz.prog 151 #[.slice a l.length c] W (StpP W.heap.size l W)) := fun e W hW => setting_Parse a c l W (HS.out.grow hW) (by
    subst e
    unfold lenOk at hlen
    rw [if_neg (by decide), if_neg (by decide), if_neg (by decide), if_neg (by decide), if_pos rfl] at hlen
    split at hlen
    · have := of_decide_eq_true hlen; omega
    · exact of_decide_eq_true hlen) hl
  have HSP : Hid (∀ W, Calls Tryz.prog 79 #[.int .i64 ty] W fun e w' => e = .returned (.int .i64 (if ty = 0 ∨ ty = 2 then 1 else 2)) ∧ W = w') := frame_scope ty
  obtain ⟨sc, hsc⟩ : ∃ sc : Int, sc = if ty = 0 ∨ ty = 2 then 1 else 2 := ⟨_, rfl⟩
  rw [← hsc] at HSP
  have HSC := Lib.hid hsc
  clear hsc
  have HFU : Hid (∀ s c W, Calls Tryz.prog 77 #[.int .i64 s, .int .i64 c] W fun e w' => e = .returned (.agg #[.int .i64 s, .int .i64 c]) ∧ ∃ j, w' = W.more j) := frame_fault
  obtain ⟨R, hR⟩ : ∃ R, R = insF ty fl st l := ⟨_, rfl⟩
  rw [← hR]
  have HIN := Lib.hid hR
  clear hR
  have HPD : Hid (padN ty fl l = (numsF ty fl l (if hasF ty fl 8 = true then nxtN 1 l 0 else 0) (if hasF ty fl 8 = true then nxtS 1 l 0 false else false), if hasF ty fl 8 = true then (numF 1 l 0).1 else -1)) := rfl
  have HRG : Hid (0 ≤ fl ∧ fl ≤ 255 ∧ l.length ≤ 1048576) := ⟨h0, h1, hl⟩
  generalize hasF ty fl 8 = b at H8 HPD
  clear h h0 h1 hlen
  cases b
  all_goals
    go_enter Tryz.func80, Tryz.ntmps80
    go_wp2_with fail
    refine (HC.out _ bel).mono ?_
    rintro e w1 ⟨C, A, rfl, hc, hC, hb⟩
    have hbC : w.heap.size + 4 ≤ C := by simpa using hC
    have hB1 : Below w.heap.size w w1 := Below.trans (B := w.heap.size) bel (hb.mono (by simp; omega))
    have hF1 : Blk w1 (w.heap.size + 3) FrmT (fmC ty fl st (-1) none 0 0 none 0 0 0 0 false 0 0 0 0) := Blk.below (B := w.heap.size + 4) blk (hb.mono (by simp)) (by omega)
    have hk0 : Blk w1 w.heap.size 56 #[.int .i64 fr, .int .i64 ty, .int .i64 fl, .int .i64 st, .bool rs, .slice a l.length c] := Blk.below (B := w.heap.size + 4) blk (hb.mono (by simp)) (by omega)
    have hk1 : Blk w1 (w.heap.size + 1) FrmT (fmC 0 0 0 0 none 0 0 none 0 0 0 0 false 0 0 0 0) := Blk.below (B := w.heap.size + 4) blk (hb.mono (by simp)) (by omega)
    have hk2 : Blk w1 (w.heap.size + 2) FuT #[.int .i64 0, .int .i64 0] := Blk.below (B := w.heap.size + 4) blk (hb.mono (by simp)) (by omega)
    have HB1 := Lib.hid hB1
    have HK0 := Lib.hid hk0
    have HK1 := Lib.hid hk1
    have HK2 := Lib.hid hk2
    have HF1 := Lib.hid hF1
    have HC1 := Lib.hid hc
    have HCC : Hid (w.heap.size + 4 ≤ C ∧ C < w1.heap.size) := ⟨hbC, hc.2.1.lt⟩
    have k5 : w1.cell? ⟨w.heap.size, 5, none⟩ = some (.slice a l.length c) := hk0.cell 5
    have k1 : w1.cell? ⟨w.heap.size, 1, none⟩ = some (.int .i64 ty) := hk0.cell 1
    have k2 : w1.cell? ⟨w.heap.size, 2, none⟩ = some (.int .i64 fl) := hk0.cell 2
    have kl := hk0.lt
    clear hbC hB1 hF1 hk0 hk1 hk2 hc hC hb
    go_wp2_with (go_at_call 146; (with_reducible refine (H8.out _).mono ?_); rintro e w' ⟨rfl, rfl⟩)
    refine cnm fun w2 hw2 => ?_
    have HR2 : Hid (Rdr w2 C w1.heap.size l 0 false) := ⟨⟨A, hw2 ▸ HC1.out.below bel⟩, by rw [hw2]; exact blk, Nat.ne_of_lt HCC.out.2, by have := HRG.out; omega⟩
    have HB2 : Hid (Below w1.heap.size w1 w2) := by show Below _ _ _; rw [hw2]; exact bel
    have HZ2 : Hid (w2.heap.size = w1.heap.size + 1) := by show _ = _; rw [hw2]; simp
    have HF2 := Lib.hid (HF1.out.below HB2.out HF1.out.lt)
    clear hw2 k5 k1 k2 kl
  rotate_left
  refine (reader_number C w1.heap.size l 0 1 false (by decide) (by decide) w2 HR2.out).mono ?_
  obtain ⟨pd, hpd⟩ : ∃ pd : Int, pd = (numF 1 l 0).1 := ⟨_, rfl⟩
  have HP0 : Hid (pd = -1 ∨ 0 ≤ pd) := .inr (by rw [hpd]; exact (numF_small 1 (by decide) l 0).1)
  have HPD2 : Hid (padN ty fl l = (numsF ty fl l (nxtN 1 l 0) (nxtS 1 l 0 false), pd)) := by show _ = _; rw [hpd]; exact HPD.out
  unfold NumP
  rw [← hpd]
  rintro e w3 ⟨rfl, hr3, hg3⟩
  have hf3 := hg3.blk HF2.out (fun e => e.elim (fun e => by have := HCC.out; omega) (fun e => by have := HCC.out; omega))
  have d3 : w3.cell? ⟨w.heap.size + 3, 3, none⟩ = some (.int .i64 (-1)) := hf3.cell 3
  have e3 := hf3.frozen 3
  have l3 := hf3.lt
  have HF3 := Lib.hid hf3
  have HR3 := Lib.hid hr3
  have HG3 := Lib.hid hg3
  clear hpd hf3 hr3 hg3
  go_wp2_with fail
  refine cnm fun w4 hw4 => ?_
  have HF4 : Hid (Blk w4 (w.heap.size + 3) FrmT (fmC ty fl st pd none 0 0 none 0 0 0 0 false 0 0 0 0)) := by show Blk _ _ _ _; rw [hw4]; exact HF3.out.set_ 3 _
  have hg4 : Gp (fun q => q = w.heap.size + 3) w3 w4 := by rw [hw4]; exact Gp.set (p := fun q => q = w.heap.size + 3) _ rfl
  have HR4 : Hid (Rdr w4 C w1.heap.size l (nxtN 1 l 0) (nxtS 1 l 0 false)) := HR3.out.gp hg4 (by have := HCC.out; omega) (by have := HCC.out; omega) (fun q hq => ⟨_, _, hq ▸ HF3.out, fm_cells⟩)
  have HG4 : Hid (Gp (P3 C w1.heap.size (w.heap.size + 3)) w2 w4) := (HG3.out.imp fun _ => p2_3).trans (hg4.imp fun _ e => .inr (.inr e))
  clear hw4 hg4 d3 e3 l3
  refine (reader_numbers C w1.heap.size (w.heap.size + 3) ty fl st pd l _ _ w4 HR4.out HF4.out (by have := HCC.out; omega) (by have := HCC.out; omega) HRG.out.1 HRG.out.2.1).mono ?_
  obtain ⟨M, hM⟩ : ∃ M, M = numsF ty fl l (nxtN 1 l 0) (nxtS 1 l 0 false) := ⟨_, rfl⟩
  have HM : Hid (padN ty fl l = (M, pd)) := by show _ = _; rw [hM]; exact HPD2.out
  rw [← hM]
  rintro e w5 ⟨rfl, hr5, hf5, hg5⟩
  have hg5 := HG4.out.trans hg5
  clear hM HPD2
  rotate_left
  refine (reader_numbers C w1.heap.size (w.heap.size + 3) ty fl st (-1) l 0 false w2 HR2.out HF2.out (by have := HCC.out; omega) (by have := HCC.out; omega) HRG.out.1 HRG.out.2.1).mono ?_
  obtain ⟨M, hM⟩ : ∃ M, M = numsF ty fl l 0 false := ⟨_, rfl⟩
  obtain ⟨pd, hpd⟩ : ∃ pd : Int, pd = -1 := ⟨_, rfl⟩
  have HM : Hid (padN ty fl l = (M, pd)) := by show _ = _; rw [hM, hpd]; exact HPD.out
  have HP0 : Hid (pd = -1 ∨ 0 ≤ pd) := .inl hpd
  rw [← hM, ← hpd]
  rintro e w5 ⟨rfl, hr5, hf5, hg5⟩
  clear hM hpd
  rotate_left
  all_goals
    have hg05 : Gp (P3 C w1.heap.size (w.heap.size + 3)) w1 w5 := (Gp.of_below HB2.out).trans hg5
    have hk0 := hg05.blk HK0.out (fun e => by rcases e with e | e | e <;> have := HCC.out <;> omega)
    have hk1 := hg05.blk HK1.out (fun e => by rcases e with e | e | e <;> have := HCC.out <;> omega)
    have hk2 := hg05.blk HK2.out (fun e => by rcases e with e | e | e <;> have := HCC.out <;> omega)
    have HB5 : Hid (Below w.heap.size w w5) := HB1.out.trans (hg05.below (fun q hq => by rcases hq with e | e | e <;> have := HCC.out <;> omega) HB1.out.size)
    have HK10 := Lib.hid hk0
    have HK11 := Lib.hid hk1
    have HK12 := Lib.hid hk2
    have HR5 := Lib.hid hr5
    have HF5 := Lib.hid hf5
    have HI : Hid (R = if M.sh = true then (zFm, (sc, 6)) else if pd > ((l.length - M.n : Nat) : Int) then (zFm, (2, 1)) else if ty = 4 then (⟨ty, fl, st, pd, [], setsF l, M.wt, M.pa, M.al, M.pr, M.la, M.co, M.sp⟩, (0, 0))
        else (⟨ty, fl, st, pd, (l.drop M.n).take (l.length - M.n - pd.toNat), [], M.wt, M.pa, M.al, M.pr, M.la, M.co, M.sp⟩, (0, 0))) := by show _ = _; rw [HIN.out, HSC.out]; unfold insF; rw [HM.out]
    clear HIN
    obtain ⟨wt, pa, al, pr, la, co, sp, n, sh⟩ := M
    have k1 : w5.cell? ⟨w.heap.size, 1, none⟩ = some (.int .i64 ty) := hk0.cell 1
    have k5 : w5.cell? ⟨w.heap.size, 5, none⟩ = some (.slice a l.length c) := hk0.cell 5
    have kl := hk0.lt
    have r1 : w5.cell? ⟨w1.heap.size, 1, none⟩ = some (.bool sh) := hr5.2.1.cell 1
    have r0 : w5.cell? ⟨w1.heap.size, 0, none⟩ = some (.pointer (some ⟨C, 0, none⟩)) := hr5.2.1.cell 0
    have rl := hr5.2.1.lt
    clear hk0 hk1 hk2 hr5 hf5 hg5 hg05 HM
    cases sh
    rotate_left
    · have HI2 : Hid (R = (zFm, (sc, 6))) := HI.out
      clear HI
      go_wp2_with (first | (go_at_call 79; (with_reducible refine (HSP.out _).mono ?_); rintro e w' ⟨rfl, rfl⟩) | (go_at_call 77; (with_reducible refine (HFU.out _ _ _).mono ?_); rintro e w' ⟨rfl, j, rfl⟩) | (refine wpList_store_row rfl FrmT _ _ rfl (w.heap.size + 1) _ rfl rfl FrmT _ (HK11.out.more _) (by kernel_rfl) rfl fm_one ?_) | (refine wpList_store_row rfl FuT _ _ rfl (w.heap.size + 2) _ rfl rfl FuT _ ((gp_row _ _ _).blk (HK12.out.more _) (by omega)) (by kernel_rfl) rfl fu_one ?_))
      refine bodyPost_ret (res_cell2 rfl st_Fm rfl ((gp_row _ (w.heap.size + 2) _).blk (blk_row (HK11.out.more _) _) (by omega)) rfl st_Fu rfl (blk_row ((gp_row _ (w.heap.size + 1) _).blk (HK12.out.more _) (by omega)) _) rfl) rfl ⟨_, by rw [HI2.out], by rw [HI2.out]; exact zFm_is _ _, below_row (below_row (HB5.out.ofMore HB5.out.size _) (by omega) _) (by omega) _⟩
    · have HI2 : Hid (R = if pd > ((l.length - n : Nat) : Int) then (zFm, (2, 1)) else if ty = 4 then (⟨ty, fl, st, pd, [], setsF l, wt, pa, al, pr, la, co, sp⟩, (0, 0))
          else (⟨ty, fl, st, pd, (l.drop n).take (l.length - n - pd.toNat), [], wt, pa, al, pr, la, co, sp⟩, (0, 0))) := HI.out
      clear HI
      obtain ⟨A5, hA5⟩ := HR5.out.1
      have HA5 := Lib.hid hA5
      have HL : Hid (∀ W, Below w5.heap.size w5 W → Calls Tryz.prog 150 #[.pointer (some ⟨C, 0, none⟩)] W fun e w' => e = .returned (.int .i64 ((l.length - n : Nat) : Int)) ∧ ∃ j, w' = W.more j) := fun W hW => cursor_Left C A5 l n W (hA5.below hW)
      have HLN : Hid (l.length - n ≤ 1048576) := by show _ ≤ _; have := HRG.out; omega
      have HNL : Hid (n ≤ l.length) := hA5.1
      clear hA5
      obtain ⟨r, hr⟩ : ∃ r, r = l.length - n := ⟨_, rfl⟩
      rw [← hr] at HL HI2 HLN
      have HRR := Lib.hid hr
      clear hr
      have f3 : w5.cell? ⟨w.heap.size + 3, 3, none⟩ = some (.int .i64 pd) := HF5.out.cell 3
      have f4 : w5.cell? ⟨w.heap.size + 3, 4, none⟩ = some (.slice none 0 0) := HF5.out.cell 4
      have f5 : w5.cell? ⟨w.heap.size + 3, 5, none⟩ = some (.slice none 0 0) := HF5.out.cell 5
      have fl0 := HF5.out.lt
      go_wp2_with fail
      refine wp_region_more (by kernel_rfl) (by kernel_rfl) ?_
      repeat (quiet_step (first | (go_at_call 150; exact more_of (HL.out _ (Below.moreS (Below.refl _ _) _)))))
      refine wpQuiet_nil ?_
      intro w' hw'
      obtain ⟨j, rfl⟩ := hw'
      rcases Decidable.em (pd > (r : Int)) with hp | hp
      · have HI3 : Hid (R = (zFm, (2, 1))) := by show _ = _; rw [HI2.out, if_pos hp]
        clear HI2
        go_wp2_with (first | (go_at_call 77; (with_reducible refine (HFU.out _ _ _).mono ?_); rintro e w' ⟨rfl, j, rfl⟩) | (refine wpList_store_row rfl FrmT _ _ rfl (w.heap.size + 1) _ rfl rfl FrmT _ (HK11.out.more _) (by kernel_rfl) rfl fm_one ?_) | (refine wpList_store_row rfl FuT _ _ rfl (w.heap.size + 2) _ rfl rfl FuT _ ((gp_row _ _ _).blk (HK12.out.more _) (by omega)) (by kernel_rfl) rfl fu_one ?_))
        refine bodyPost_ret (res_cell2 rfl st_Fm rfl ((gp_row _ (w.heap.size + 2) _).blk (blk_row (HK11.out.more _) _) (by omega)) rfl st_Fu rfl (blk_row ((gp_row _ (w.heap.size + 1) _).blk (HK12.out.more _) (by omega)) _) rfl) rfl ⟨_, by rw [HI3.out], by rw [HI3.out]; exact zFm_is _ _, below_row (below_row (HB5.out.ofMore HB5.out.size _) (by omega) _) (by omega) _⟩
      have HI3 : Hid (R = if ty = 4 then (⟨ty, fl, st, pd, [], setsF l, wt, pa, al, pr, la, co, sp⟩, (0, 0)) else (⟨ty, fl, st, pd, (l.drop n).take (r - pd.toNat), [], wt, pa, al, pr, la, co, sp⟩, (0, 0))) := by show _ = _; rw [HI2.out, if_neg hp]
      clear HI2
      rcases Decidable.em (ty = 4) with rfl | h4
      · have HI4 : Hid (R = (⟨4, fl, st, pd, [], setsF l, wt, pa, al, pr, la, co, sp⟩, (0, 0))) := HI3.out
        clear HI3
        go_wp2_with fail
        refine (HP.out trivial _ (HB5.out.ofMore HB5.out.size _)).mono ?_
        rintro e w6 ⟨sa, sc6, rfl, hsl, hss, hsn, hsb⟩
        have hj6 : Below w5.heap.size w5 w6 := Below.trans (Below.moreS (Below.refl _ _) _) (hsb.mono (by simp))
        have HF6 : Hid (Blk w6 (w.heap.size + 3) FrmT (fmC 4 fl st pd none 0 0 none 0 0 wt pa al pr la co sp)) := HF5.out.below hj6 HF5.out.lt
        have HK61 := Lib.hid (HK11.out.below hj6 HK11.out.lt)
        have HK62 := Lib.hid (HK12.out.below hj6 HK12.out.lt)
        have HB6 : Hid (Below w.heap.size w w6) := HB5.out.trans (hj6.mono HB5.out.size)
        have HSS := Lib.hid hss
        have HSN := Lib.hid hsn
        have HSL := Lib.hid hsl
        have s5 : w6.cell? ⟨w.heap.size + 3, 5, none⟩ = some (.slice none 0 0) := HF6.out.cell 5
        have s5f := HF6.out.frozen 5
        have s5l := HF6.out.lt
        have s5z := HB5.out.size
        clear hj6 hss hsn hsl hsb
        go_wp2_with (first | (refine wpList_load_row rfl FrmT _ rfl (w.heap.size + 3) rfl FrmT _ (0, 0) _ (HF6.out.set_ 5 _) Tryz.underlying109 rfl (by kernel_rfl) ?_) | (refine wpList_store_row rfl FrmT _ _ rfl (w.heap.size + 1) _ rfl rfl FrmT _ (HK61.out.far (by simp) _) (by kernel_rfl) rfl fm_one ?_) | (refine wpList_store_row rfl FuT _ _ rfl (w.heap.size + 2) _ rfl rfl FuT _ ((gp_row _ _ _).blk (HK62.out.far (by simp) _) (by omega)) (by kernel_rfl) rfl fu_one ?_))
        refine bodyPost_ret (res_cell2 rfl st_Fm rfl ((gp_row _ (w.heap.size + 2) _).blk (blk_row (HK61.out.far (by simp) _) _) (by omega)) rfl st_Fu rfl (blk_row ((gp_row _ (w.heap.size + 1) _).blk (HK62.out.far (by simp) _) (by omega)) _) rfl) rfl ⟨_, by rw [HI4.out], by rw [HI4.out]; exact ⟨none, 0, sa, sc6, rfl, .nil, Nat.le_refl _, (fun p hp => by cases hp), SlR.gpN (p := fun q => q ≤ w.heap.size + 3) (N := w5.heap.size) HSS.out (fun p hp => by have := HSN.out p hp; simp at this; omega) (fun k hk => by have := HF5.out.lt; omega) (((Gp.set (p := fun q => q ≤ w.heap.size + 3) _ (Nat.le_refl _)).trans ((gp_row _ _ _).imp (fun k hk => by omega))).trans ((gp_row _ _ _).imp (fun k hk => by omega))), HSL.out, fun p hp => by have := HSN.out p hp; simp at this; have := HB5.out.size; omega⟩, below_row (below_row (HB6.out.setCell (p := ⟨w.heap.size + 3, 5, none⟩) (by simp) _) (by omega) _) (by omega) _⟩
      · have HI4 : Hid (R = (⟨ty, fl, st, pd, (l.drop n).take (r - pd.toNat), [], wt, pa, al, pr, la, co, sp⟩, (0, 0))) := by show _ = _; rw [HI3.out, if_neg h4]
        clear HI3
        obtain ⟨q, hq⟩ : ∃ q, q = pd.toNat := ⟨_, rfl⟩
        rw [← hq] at HI4
        have hmx : max pd 0 = (q : Int) := by omega
        have hqr : q ≤ r := by omega
        obtain ⟨kk, hkk⟩ : ∃ kk, kk = r - q := ⟨_, rfl⟩
        rw [← hkk] at HI4
        have hwk : IntKind.i64.wrap ((r : Int) - q) = (kk : Int) := by rw [IntWalk.i64_in _ (by have := HLN.out; omega)]; omega
        have hwk3 : IntKind.i64.wrap (kk : Int) = (kk : Int) := IntWalk.i64_in _ (by have := HLN.out; omega)
        have HKL : Hid (n + kk ≤ l.length) := by show _ ≤ _; have := HRR.out; have := HNL.out; omega
        have HBY : Hid (∀ W, Below w5.heap.size w5 W → Calls Tryz.prog 152 #[.pointer (some ⟨C, 0, none⟩), .int .i64 (kk : Int)] W fun e w' => ∃ a c, e = .returned (.tuple #[.slice a kk c, .int .i64 0]) ∧ SlB w' w'.heap.size a ((l.drop n).take kk) ∧ kk ≤ c ∧ (∀ p, a = some p → W.heap.size ≤ p.block) ∧ Cur w' C A5 l (n + kk) ∧ Gp (fun q => q = C) W w') := fun W hW => cursor_Bytes C A5 l n kk HKL.out W (HA5.out.below hW) (by have := HRG.out; omega)
        clear hq hkk hqr
        go_wp2_with fail
        refine gg_start (GcF C (w.heap.size + 3)) (fun _ => gcF_refl _ _ _) (h := ?_)
        obtain ⟨wd, hwd⟩ : ∃ wd, wd = (w5.more j).drew := ⟨_, rfl⟩
        rw [← hwd]
        have HD : Hid (Below w5.heap.size w5 wd) := by show Below _ _ _; rw [hwd]; exact bel
        have z3 : wd.cell? ⟨w.heap.size + 3, 3, none⟩ = some (.int .i64 pd) := (HF5.out.below HD.out HF5.out.lt).cell 3
        have zr0 : wd.cell? ⟨w1.heap.size, 0, none⟩ = some (.pointer (some ⟨C, 0, none⟩)) := (HD.out.cell (p := ⟨w1.heap.size, 0, none⟩) rl).trans r0
        have zl : w1.heap.size < wd.heap.size := Nat.lt_of_lt_of_le rl HD.out.size
        have zl3 : w.heap.size + 3 < wd.heap.size := Nat.lt_of_lt_of_le HF5.out.lt HD.out.size
        have zne : ¬ (w1.heap.size = C ∨ w1.heap.size = w.heap.size + 3) := by have := HCC.out; omega
        clear hwd
        refine tk 0 ?_ (hS := gcF_refl _ _ _)
        refine tk 1 ?_ (hS := gcF_refl _ _ _)
        refine tk 2 ?_ (hS := gcF_refl _ _ _)
        refine tke 3 (fun wS h => GcF.at h zl zne) ?_ (hS := gcF_refl _ _ _)
        refine tk 4 ?_ (hS := gcF_refl _ _ _)
        refine tk 5 ?_ (hS := gcF_refl _ _ _)
        refine tk 6 ?_ (hS := gcF_refl _ _ _)
        refine tke 7 (fun wS h => GcF.at h zl zne) ?_ (hS := gcF_refl _ _ _)
        refine tk 9 ?_ (hS := gcF_refl _ _ _)
        refine tke 10 (fun wS h => GcF.two h) ?_ (hS := gcF_refl _ _ _)
        refine tk 11 ?_ (hS := gcF_refl _ _ _)
        refine gg_step GcF.tr 8 (by kernel_rfl) rfl (fun K hK => ?_)
        go_simp
        go_wp2_with fail
        refine (HL.out wd HD.out).mono ?_
        rintro e w6 ⟨rfl, j6, hj6⟩
        have HB6 : Hid (Below wd.heap.size wd w6) := by show Below _ _ _; rw [hj6]; exact bel
        have y3 : w6.cell? ⟨w.heap.size + 3, 3, none⟩ = wd.cell? ⟨w.heap.size + 3, 3, none⟩ := HB6.out.cell (p := ⟨w.heap.size + 3, 3, none⟩) zl3
        clear hj6
        go_wp2_with fail
        refine hK.out _ _ ⟨Gp.of_below HB6.out, y3⟩ ?_
        clear hK K
        try simp only [Act.put, nfa, nfb, nfc, nfd, List.set_cons_zero, List.set_cons_succ]
        have HD6 : Hid (Below w5.heap.size w5 w6) := HD.out.trans (HB6.out.mono HD.out.size)
        have zl6 : w.heap.size + 3 < w6.heap.size := Nat.lt_of_lt_of_le zl3 HB6.out.size
        refine tk 12 ?_ (hS := gcF_refl _ _ _)
        refine gg_step GcF.tr 13 (by kernel_rfl) rfl (fun K hK => ?_)
        go_simp
        go_wp2_with fail
        refine (HBY.out w6 HD6.out).mono ?_
        rintro e w7 ⟨ba, bc, rfl, hbs, hbl, hbn, hbc, hbg⟩
        have HBS := Lib.hid hbs
        have HBL := Lib.hid hbl
        have HBN := Lib.hid hbn
        have HBG := Lib.hid hbg
        have y7 : w7.cell? ⟨w.heap.size + 3, 3, none⟩ = w6.cell? ⟨w.heap.size + 3, 3, none⟩ := hbg.cell _ 3 zl6 (by have := HCC.out; omega)
        clear hbs hbl hbn hbc hbg
        go_wp2_with fail
        refine hK.out _ _ ⟨HBG.out.imp (fun _ e => .inl e), y7⟩ ?_
        clear hK K
        try simp only [Act.put, nfa, nfb, nfc, nfd, List.set_cons_zero, List.set_cons_succ]
        have HF7 : Hid (Blk w7 (w.heap.size + 3) FrmT (fmC ty fl st pd none 0 0 none 0 0 wt pa al pr la co sp)) := HBG.out.blk (HF5.out.below HD6.out HF5.out.lt) (by have := HCC.out; omega)
        have x4 : w7.cell? ⟨w.heap.size + 3, 4, none⟩ = some (.slice none 0 0) := HF7.out.cell 4
        have x4f := HF7.out.frozen 4
        have x4l := HF7.out.lt
        refine tk 14 ?_ (hS := gcF_refl _ _ _)
        refine tk 15 ?_ (hS := gcF_refl _ _ _)
        refine tk 16 ?_ (hS := gcF_refl _ _ _)
        refine tk 17 ?_ (hS := gcF_refl _ _ _)
        refine gg_step GcF.tr 18 (by kernel_rfl) rfl (fun K hK => ?_)
        go_simp
        go_wp2_with fail
        have HK71 : Hid (Blk w7 (w.heap.size + 1) FrmT (fmC 0 0 0 0 none 0 0 none 0 0 0 0 false 0 0 0 0)) := HBG.out.blk (HK11.out.below HD6.out HK11.out.lt) (by have := HCC.out; omega)
        have HK72 : Hid (Blk w7 (w.heap.size + 2) FuT #[.int .i64 0, .int .i64 0]) := HBG.out.blk (HK12.out.below HD6.out HK12.out.lt) (by have := HCC.out; omega)
        have HB7 : Hid (Below w.heap.size w w7) := HB5.out.trans ((HD6.out.mono HB5.out.size).trans (HBG.out.below (fun q hq => by have := HCC.out; omega) (Nat.le_trans HB5.out.size HD6.out.size)))
        obtain ⟨w8, hw8⟩ : ∃ w8, w8 = w7.setCell ⟨w.heap.size + 3, 4, none⟩ (.slice ba kk bc) := ⟨_, rfl⟩
        rw [← hw8]
        have hg8 : Gp (fun q => q = w.heap.size + 3) w7 w8 := by rw [hw8]; exact Gp.set (p := fun q => q = w.heap.size + 3) _ rfl
        have HF8 : Hid (Blk w8 (w.heap.size + 3) FrmT (fmC ty fl st pd ba kk bc none 0 0 wt pa al pr la co sp)) := by show Blk _ _ _ _; rw [hw8]; exact HF7.out.set_ 4 _
        have y8 : w8.cell? ⟨w.heap.size + 3, 3, none⟩ = w7.cell? ⟨w.heap.size + 3, 3, none⟩ := (HF8.out.cell 3).trans (HF7.out.cell 3).symm
        refine hK.out _ _ ⟨hg8.imp (fun _ e => .inr e), y8⟩ ?_
        clear hK K hw8
        try simp only [Act.put, nfa, nfb, nfc, nfd, List.set_cons_zero, List.set_cons_succ]
        have HG8 := Lib.hid hg8
        have s5z := HB5.out.size
        clear hg8 y8 y7 y3 z3 zr0 zl zl3 zne zl6 x4 x4f x4l
        have hle : ((l.drop n).take kk).length = kk := by have := HKL.out; simp; omega
        have HLE := Lib.hid hle
        clear hle
        refine wpAnyH_done (by kernel_rfl) ?_ _
        go_wp2_with (first | (refine wpList_load_row rfl FrmT _ rfl (w.heap.size + 3) rfl FrmT _ (0, 0) _ (HF8.out) Tryz.underlying109 rfl (by kernel_rfl) ?_) | (refine wpList_store_row rfl FrmT _ _ rfl (w.heap.size + 1) _ rfl rfl FrmT _ (HG8.out.blk HK71.out (by omega)) (by kernel_rfl) rfl fm_one ?_) | (refine wpList_store_row rfl FuT _ _ rfl (w.heap.size + 2) _ rfl rfl FuT _ ((gp_row _ _ _).blk (HG8.out.blk HK72.out (by omega)) (by omega)) (by kernel_rfl) rfl fu_one ?_))
        have hle := HLE.out
        refine bodyPost_ret (res_cell2 rfl st_Fm rfl ((gp_row _ (w.heap.size + 2) _).blk (blk_row (HG8.out.blk HK71.out (by omega)) _) (by omega)) rfl st_Fu rfl (blk_row ((gp_row _ (w.heap.size + 1) _).blk (HG8.out.blk HK72.out (by omega)) (by omega)) _) rfl) rfl ⟨_, by rw [HI4.out], by rw [HI4.out]; exact ⟨ba, bc, none, 0, by simp only [hle]; rfl, SlR.gpN (p := fun q => q ≤ w.heap.size + 3) (N := w5.heap.size) HBS.out (fun p hp => Nat.le_trans HD6.out.size (HBN.out p hp)) (fun k hk => by have := HF5.out.lt; omega) (((HG8.out.imp (fun k hk => by omega)).trans ((gp_row _ _ _).imp (fun k hk => by omega))).trans ((gp_row _ _ _).imp (fun k hk => by omega))), by simp only [hle]; exact HBL.out, fun p hp => by have := HBN.out p hp; have := HD6.out.size; have := HB5.out.size; omega, .nil, Nat.le_refl _, fun p hp => by cases hp⟩, below_row (below_row (HB7.out.trans (HG8.out.below (fun q hq => by omega) HB7.out.size)) (by omega) _) (by omega) _⟩
end Go.Proofs.YtfloijkagfabpaaGreatDoor
