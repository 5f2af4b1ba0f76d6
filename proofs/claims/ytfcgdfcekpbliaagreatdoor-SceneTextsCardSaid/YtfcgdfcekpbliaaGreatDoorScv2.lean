/-
  Scenarios: the program's reader of a step: kinds without rows.
-/
import Derived.Test.YtfcgdfcekpbliaaGreatDoorScv1
namespace Go.Proofs.YtfcgdfcekpbliaaGreatDoor
set_option linter.unusedSimpArgs false
set_option linter.unusedVariables false
set_option linter.unusedSectionVars false
open Go.ChangeShapes Go.WideShapes Go.ChangeAt Go.RowKit Go.Deep Go.Shelf

theorem rdW_sub {L : List (List UInt8)} {b : Bool} {p1 : List UInt8} {p2 : List (List UInt8)} {p3 : Bool} (h : rdW L b = (p1, p2, p3)) : ∀ x ∈ p2, x ∈ L := by
  cases L with
  | nil => simp only [rdW, Prod.mk.injEq] at h; intro x hx; rw [← h.2.1] at hx; simp at hx
  | cons y r => simp only [rdW, Prod.mk.injEq] at h; intro x hx; rw [← h.2.1] at hx; simp [hx]
theorem putR_raw {B : Nat} {w W : World} {g r : Nat} {L : List (List UInt8)} {b : Bool} (hr : Rd B W g L b) (hs : Blk W r PtT #[.int .i64 0, .int .i64 0, .int .i64 0, .bool false, .slice none 0 0, .slice none 0 0]) (hg : Gm g w W) (hne : g ≠ r) (hl : w.heap.size ≤ r) :
    Rd B (putR W r 0 0 0 false none 0 0 none 0 0) g L b ∧ Gm g w (putR W r 0 0 0 false none 0 0 none 0 0) ∧ Blk (putR W r 0 0 0 false none 0 0 none 0 0) r PtT #[.int .i64 0, .int .i64 0, .int .i64 0, .bool false, .slice none 0 0, .slice none 0 0] := by
  have h1 := hs.set_ 0 (.int .i64 0)
  have h2 := h1.set_ 1 (.int .i64 0)
  have h3 := h2.set_ 2 (.int .i64 0)
  have h4 := h3.set_ 3 (.bool false)
  have h5 := h4.set_ 4 (.slice none 0 0)
  exact ⟨(((((hr.far hs ps_nt (gm_set _) hne).far h1 ps_nt (gm_set _) hne).far h2 ps_nt (gm_set _) hne).far h3 ps_nt (gm_set _) hne).far h4 ps_nt (gm_set _) hne).far h5 ps_nt (gm_set _) hne,
    (((((hg.over (gm_set _) hl).over (gm_set _) hl).over (gm_set _) hl).over (gm_set _) hl).over (gm_set _) hl).over (gm_set _) hl, h5.set_ 5 _⟩
theorem rdN_sub {L : List (List UInt8)} {b : Bool} {n : Int} {p2 : List (List UInt8)} {p3 : Bool} (h : rdN L b = (n, p2, p3)) : p2.length ≤ L.length ∧ ∀ x ∈ p2, x ∈ L := by
  have h2 : (rdW L b).2.1 = p2 := (congrArg (fun q => q.2.1) h)
  subst h2
  exact ⟨by have := rdW_len L b; omega, rdW_sub (p1 := (rdW L b).1) (p3 := (rdW L b).2.2) rfl⟩
theorem rdE_sub {x y : List UInt8} {L : List (List UInt8)} {b e : Bool} {p2 : List (List UInt8)} {p3 : Bool} (h : rdE x y L b = (e, p2, p3)) : p2.length ≤ L.length ∧ ∀ x ∈ p2, x ∈ L := by
  have h2 : (rdW L b).2.1 = p2 := (congrArg (fun q => q.2.1) h)
  subst h2
  exact ⟨by have := rdW_len L b; omega, rdW_sub (p1 := (rdW L b).1) (p3 := (rdW L b).2.2) rfl⟩
set_option maxHeartbeats 16000000 in
set_option maxRecDepth 100000 in
theorem rd_step_zero {B : Nat} (g : Nat) (L : List (List UInt8)) (b : Bool) (hL : L.length ≤ 100000) (hLl : ∀ x ∈ L, x.length ≤ 90000) (w0 w : World) (hb : Rb w0 g w) (hd : Hd w0) (hS : Rd B w g L b)
    (p1 : List UInt8) (p2 : List (List UInt8)) (p3 : Bool) (hp : rdW L b = (p1, p2, p3)) (hk : kindW p1 = 0) :
    Calls Tryz.prog 31 #[.pointer (some ⟨g, 0, none⟩)] w (RsP B g ⟨0, 0, 0, false, [], []⟩ p2 (p3 || decide ((0 : Int) = 0)) w) := by
  have hgl := hS.lt
  have HS := Lib.hid hS
  have HP := Lib.hid hp
  have HKK := Lib.hid hk
  have HB := Lib.hid hb
  have HHD : Hid (∀ W, Gm g w W → Hd W) := fun W hW => hd.below (hb.bl.trans (hW.below hb.lo hb.bl.size))
  have hp2 : p2.length ≤ 100000 := by have := rdW_len L b; rw [hp] at this; simp only at this; omega
  have HLL : Hid (∀ x ∈ p2, x.length ≤ 90000) := fun x hx => hLl x (rdW_sub hp x hx)
  clear hb hd hS hp hk hLl
  go_enter Tryz.func31, Tryz.ntmps31
  go_wp2_with fail
  refine (rd_word g L b (by omega) _ (HS.out.grow bel)).mono ?_
  rintro e w1 ⟨rfl, hr1, hg1⟩
  rw [HP.out] at hr1 ⊢
  have hrs1 : Blk w1 w.heap.size PtT #[.int .i64 0, .int .i64 0, .int .i64 0, .bool false, .slice none 0 0, .slice none 0 0] := (Blk.new w PtT _).grown hg1 (by simp; omega)
  have HG1 : Hid (Gm g w w1) := (gm_below bel).trans hg1
  have HR1 := Lib.hid hr1
  have HT1 := Lib.hid hrs1
  clear hr1 hg1 hrs1
  go_wp2_with fail
  refine (rd_kind g p1 p2 p3 w1 (HHD.out _ HG1.out) HR1.out).mono ?_
  rintro e w2 ⟨rfl, hr2, hg2⟩
  rw [HKK.out] at hr2 ⊢
  have hrs2 : Blk w2 w.heap.size PtT #[.int .i64 0, .int .i64 0, .int .i64 0, .bool false, .slice none 0 0, .slice none 0 0] := HT1.out.grown hg2 (by simp; omega)
  have HG2 : Hid (Gm g w w2) := HG1.out.trans hg2
  have HT2 := Lib.hid hrs2
  have HR2 := Lib.hid hr2
  have hw2l := hrs2.lt
  clear hr2 hg2 hrs2 HG1 HR1 HT1
  have r0 := HT2.out.cell 0
  have s0 := HT2.out.frozen 0
  have r1 := HT2.out.cell 1
  have s1 := HT2.out.frozen 1
  have r2 := HT2.out.cell 2
  have s2 := HT2.out.frozen 2
  have r3 := HT2.out.cell 3
  have s3 := HT2.out.frozen 3
  have r4 := HT2.out.cell 4
  have s4 := HT2.out.frozen 4
  have r5 := HT2.out.cell 5
  have s5 := HT2.out.frozen 5
  simp only [List.getElem?_toArray, List.getElem?_cons_succ, List.getElem?_cons_zero] at r0 r1 r2 r3 r4 r5
  have hne : ¬ w2.heap.size = w.heap.size := by omega
  have HRW := Lib.hid (putR_raw HR2.out HT2.out HG2.out (by omega) (Nat.le_refl _))
  clear HR2 HT2 HG2
  go_wp2_with fail
  refine bodyPost_ret (res_cell rfl st_Pt rfl (Blk.alloc HRW.out.2.2 _) rfl) rfl ?_
  exact ⟨_, _, _, _, rfl, World.ownsRow_nil _ _ _ _, World.ownsRow_nil _ _ _ _, HRW.out.1.grow ((Below.refl _ _).alloc (Nat.le_refl _) _), HRW.out.2.1.trans (gm_below ((Below.refl _ _).alloc (Nat.le_refl _) _))⟩
set_option maxHeartbeats 16000000 in
set_option maxRecDepth 100000 in
theorem rd_step_one6 {B : Nat} (g : Nat) (L : List (List UInt8)) (b : Bool) (hL : L.length ≤ 100000) (hLl : ∀ x ∈ L, x.length ≤ 90000) (w0 w : World) (hb : Rb w0 g w) (hd : Hd w0) (hS : Rd B w g L b)
    (p1 : List UInt8) (p2 : List (List UInt8)) (p3 : Bool) (hp : rdW L b = (p1, p2, p3)) (hk : kindW p1 = 6) (n1 : Int) (q2 : List (List UInt8)) (q3 : Bool) (hn : rdN p2 (p3 || decide ((6 : Int) = 0)) = (n1, q2, q3)) :
    Calls Tryz.prog 31 #[.pointer (some ⟨g, 0, none⟩)] w (RsP B g ⟨6, 0, n1, false, [], []⟩ q2 q3 w) := by
  have hgl := hS.lt
  have HS := Lib.hid hS
  have HP := Lib.hid hp
  have HKK := Lib.hid hk
  have HB := Lib.hid hb
  have HHD : Hid (∀ W, Gm g w W → Hd W) := fun W hW => hd.below (hb.bl.trans (hW.below hb.lo hb.bl.size))
  have hp2 : p2.length ≤ 100000 := by have := rdW_len L b; rw [hp] at this; simp only at this; omega
  have HLL : Hid (∀ x ∈ p2, x.length ≤ 90000) := fun x hx => hLl x (rdW_sub hp x hx)
  clear hb hd hS hp hk hLl
  have HN := Lib.hid hn
  clear hn
  go_enter Tryz.func31, Tryz.ntmps31
  go_wp2_with fail
  refine (rd_word g L b (by omega) _ (HS.out.grow bel)).mono ?_
  rintro e w1 ⟨rfl, hr1, hg1⟩
  rw [HP.out] at hr1 ⊢
  have hrs1 : Blk w1 w.heap.size PtT #[.int .i64 0, .int .i64 0, .int .i64 0, .bool false, .slice none 0 0, .slice none 0 0] := (Blk.new w PtT _).grown hg1 (by simp; omega)
  have HG1 : Hid (Gm g w w1) := (gm_below bel).trans hg1
  have HR1 := Lib.hid hr1
  have HT1 := Lib.hid hrs1
  clear hr1 hg1 hrs1
  go_wp2_with fail
  refine (rd_kind g p1 p2 p3 w1 (HHD.out _ HG1.out) HR1.out).mono ?_
  rintro e w2 ⟨rfl, hr2, hg2⟩
  rw [HKK.out] at hr2 ⊢
  have hrs2 : Blk w2 w.heap.size PtT #[.int .i64 0, .int .i64 0, .int .i64 0, .bool false, .slice none 0 0, .slice none 0 0] := HT1.out.grown hg2 (by simp; omega)
  have HG2 : Hid (Gm g w w2) := HG1.out.trans hg2
  have HT2 := Lib.hid hrs2
  have HR2 := Lib.hid hr2
  have hw2l := hrs2.lt
  clear hr2 hg2 hrs2 HG1 HR1 HT1
  have HX3 : Hid (RxS B w g w2.heap.size 6 0 0 false none 0 0 none 0 0 p2 (p3 || decide ((6 : Int) = 0)) (w2.alloc (.cells #[.int .i64 6, .int .i64 0, .int .i64 0, .bool false, .slice none 0 0, .slice none 0 0] PtT))) :=
    ⟨HR2.out.grow bel, Blk.new _ _ _, HT2.out.alloc _, HG2.out.trans (gm_below bel), hw2l, hgl⟩
  clear HG2 HT2 HR2
  go_wp2_with fail
  obtain ⟨w3, hw3⟩ : ∃ w3, w3 = w2.alloc (.cells #[.int .i64 6, .int .i64 0, .int .i64 0, .bool false, .slice none 0 0, .slice none 0 0] PtT) := ⟨_, rfl⟩
  rw [← hw3] at HX3 ⊢
  clear hw3
  obtain ⟨bx, hbx⟩ : ∃ bx, bx = w2.heap.size := ⟨_, rfl⟩
  rw [← hbx] at HX3 hw2l ⊢
  clear hbx
  have hne1 : ¬ bx = w.heap.size := by omega
  have hne2 : ¬ w.heap.size = bx := by omega
  refine (rd_number g p2 _ (by omega) HLL.out w0 _ (HX3.out.env HB.out) HX3.out.rd).mono ?_
  rintro e w4 ⟨rfl, hr4, hg4⟩
  rw [HN.out] at hr4 ⊢
  have HX4 := Lib.hid (HX3.out.call hr4 hg4)
  clear hr4 hg4 HX3
  obtain ⟨⟨z0, z1, z2, z3, z4, z5⟩, ⟨y1, y2, y3, y4, y5⟩, zl⟩ := HX4.out.fields
  obtain ⟨⟨r0, r1, r2, r3, r4, r5⟩, ⟨s0, s1, s2, s3, s4, s5⟩, rl⟩ := HX4.out.results
  have HX5 := Lib.hid (HX4.out.put2 n1)
  clear HX4
  go_wp2_with fail
  refine bodyPost_ret (res_cell rfl st_Pt rfl (putR_blk HX5.out) rfl) rfl ?_
  exact ⟨_, _, _, _, rfl, putR_own HX5.out (World.ownsRow_nil _ _ _ _) (by decide), putR_own HX5.out (World.ownsRow_nil _ _ _ _) (by decide), putR_rd HX5.out⟩
set_option maxHeartbeats 16000000 in
set_option maxRecDepth 100000 in
theorem rd_step_one7 {B : Nat} (g : Nat) (L : List (List UInt8)) (b : Bool) (hL : L.length ≤ 100000) (hLl : ∀ x ∈ L, x.length ≤ 90000) (w0 w : World) (hb : Rb w0 g w) (hd : Hd w0) (hS : Rd B w g L b)
    (p1 : List UInt8) (p2 : List (List UInt8)) (p3 : Bool) (hp : rdW L b = (p1, p2, p3)) (hk : kindW p1 = 7) (n1 : Int) (q2 : List (List UInt8)) (q3 : Bool) (hn : rdN p2 (p3 || decide ((7 : Int) = 0)) = (n1, q2, q3)) :
    Calls Tryz.prog 31 #[.pointer (some ⟨g, 0, none⟩)] w (RsP B g ⟨7, 0, n1, false, [], []⟩ q2 q3 w) := by
  have hgl := hS.lt
  have HS := Lib.hid hS
  have HP := Lib.hid hp
  have HKK := Lib.hid hk
  have HB := Lib.hid hb
  have HHD : Hid (∀ W, Gm g w W → Hd W) := fun W hW => hd.below (hb.bl.trans (hW.below hb.lo hb.bl.size))
  have hp2 : p2.length ≤ 100000 := by have := rdW_len L b; rw [hp] at this; simp only at this; omega
  have HLL : Hid (∀ x ∈ p2, x.length ≤ 90000) := fun x hx => hLl x (rdW_sub hp x hx)
  clear hb hd hS hp hk hLl
  have HN := Lib.hid hn
  clear hn
  go_enter Tryz.func31, Tryz.ntmps31
  go_wp2_with fail
  refine (rd_word g L b (by omega) _ (HS.out.grow bel)).mono ?_
  rintro e w1 ⟨rfl, hr1, hg1⟩
  rw [HP.out] at hr1 ⊢
  have hrs1 : Blk w1 w.heap.size PtT #[.int .i64 0, .int .i64 0, .int .i64 0, .bool false, .slice none 0 0, .slice none 0 0] := (Blk.new w PtT _).grown hg1 (by simp; omega)
  have HG1 : Hid (Gm g w w1) := (gm_below bel).trans hg1
  have HR1 := Lib.hid hr1
  have HT1 := Lib.hid hrs1
  clear hr1 hg1 hrs1
  go_wp2_with fail
  refine (rd_kind g p1 p2 p3 w1 (HHD.out _ HG1.out) HR1.out).mono ?_
  rintro e w2 ⟨rfl, hr2, hg2⟩
  rw [HKK.out] at hr2 ⊢
  have hrs2 : Blk w2 w.heap.size PtT #[.int .i64 0, .int .i64 0, .int .i64 0, .bool false, .slice none 0 0, .slice none 0 0] := HT1.out.grown hg2 (by simp; omega)
  have HG2 : Hid (Gm g w w2) := HG1.out.trans hg2
  have HT2 := Lib.hid hrs2
  have HR2 := Lib.hid hr2
  have hw2l := hrs2.lt
  clear hr2 hg2 hrs2 HG1 HR1 HT1
  have HX3 : Hid (RxS B w g w2.heap.size 7 0 0 false none 0 0 none 0 0 p2 (p3 || decide ((7 : Int) = 0)) (w2.alloc (.cells #[.int .i64 7, .int .i64 0, .int .i64 0, .bool false, .slice none 0 0, .slice none 0 0] PtT))) :=
    ⟨HR2.out.grow bel, Blk.new _ _ _, HT2.out.alloc _, HG2.out.trans (gm_below bel), hw2l, hgl⟩
  clear HG2 HT2 HR2
  go_wp2_with fail
  obtain ⟨w3, hw3⟩ : ∃ w3, w3 = w2.alloc (.cells #[.int .i64 7, .int .i64 0, .int .i64 0, .bool false, .slice none 0 0, .slice none 0 0] PtT) := ⟨_, rfl⟩
  rw [← hw3] at HX3 ⊢
  clear hw3
  obtain ⟨bx, hbx⟩ : ∃ bx, bx = w2.heap.size := ⟨_, rfl⟩
  rw [← hbx] at HX3 hw2l ⊢
  clear hbx
  have hne1 : ¬ bx = w.heap.size := by omega
  have hne2 : ¬ w.heap.size = bx := by omega
  refine (rd_number g p2 _ (by omega) HLL.out w0 _ (HX3.out.env HB.out) HX3.out.rd).mono ?_
  rintro e w4 ⟨rfl, hr4, hg4⟩
  rw [HN.out] at hr4 ⊢
  have HX4 := Lib.hid (HX3.out.call hr4 hg4)
  clear hr4 hg4 HX3
  obtain ⟨⟨z0, z1, z2, z3, z4, z5⟩, ⟨y1, y2, y3, y4, y5⟩, zl⟩ := HX4.out.fields
  obtain ⟨⟨r0, r1, r2, r3, r4, r5⟩, ⟨s0, s1, s2, s3, s4, s5⟩, rl⟩ := HX4.out.results
  have HX5 := Lib.hid (HX4.out.put2 n1)
  clear HX4
  go_wp2_with fail
  refine bodyPost_ret (res_cell rfl st_Pt rfl (putR_blk HX5.out) rfl) rfl ?_
  exact ⟨_, _, _, _, rfl, putR_own HX5.out (World.ownsRow_nil _ _ _ _) (by decide), putR_own HX5.out (World.ownsRow_nil _ _ _ _) (by decide), putR_rd HX5.out⟩
set_option maxHeartbeats 16000000 in
set_option maxRecDepth 100000 in
theorem rd_step_one8 {B : Nat} (g : Nat) (L : List (List UInt8)) (b : Bool) (hL : L.length ≤ 100000) (hLl : ∀ x ∈ L, x.length ≤ 90000) (w0 w : World) (hb : Rb w0 g w) (hd : Hd w0) (hS : Rd B w g L b)
    (p1 : List UInt8) (p2 : List (List UInt8)) (p3 : Bool) (hp : rdW L b = (p1, p2, p3)) (hk : kindW p1 = 8) (n1 : Int) (q2 : List (List UInt8)) (q3 : Bool) (hn : rdN p2 (p3 || decide ((8 : Int) = 0)) = (n1, q2, q3)) :
    Calls Tryz.prog 31 #[.pointer (some ⟨g, 0, none⟩)] w (RsP B g ⟨8, 0, n1, false, [], []⟩ q2 q3 w) := by
  have hgl := hS.lt
  have HS := Lib.hid hS
  have HP := Lib.hid hp
  have HKK := Lib.hid hk
  have HB := Lib.hid hb
  have HHD : Hid (∀ W, Gm g w W → Hd W) := fun W hW => hd.below (hb.bl.trans (hW.below hb.lo hb.bl.size))
  have hp2 : p2.length ≤ 100000 := by have := rdW_len L b; rw [hp] at this; simp only at this; omega
  have HLL : Hid (∀ x ∈ p2, x.length ≤ 90000) := fun x hx => hLl x (rdW_sub hp x hx)
  clear hb hd hS hp hk hLl
  have HN := Lib.hid hn
  clear hn
  go_enter Tryz.func31, Tryz.ntmps31
  go_wp2_with fail
  refine (rd_word g L b (by omega) _ (HS.out.grow bel)).mono ?_
  rintro e w1 ⟨rfl, hr1, hg1⟩
  rw [HP.out] at hr1 ⊢
  have hrs1 : Blk w1 w.heap.size PtT #[.int .i64 0, .int .i64 0, .int .i64 0, .bool false, .slice none 0 0, .slice none 0 0] := (Blk.new w PtT _).grown hg1 (by simp; omega)
  have HG1 : Hid (Gm g w w1) := (gm_below bel).trans hg1
  have HR1 := Lib.hid hr1
  have HT1 := Lib.hid hrs1
  clear hr1 hg1 hrs1
  go_wp2_with fail
  refine (rd_kind g p1 p2 p3 w1 (HHD.out _ HG1.out) HR1.out).mono ?_
  rintro e w2 ⟨rfl, hr2, hg2⟩
  rw [HKK.out] at hr2 ⊢
  have hrs2 : Blk w2 w.heap.size PtT #[.int .i64 0, .int .i64 0, .int .i64 0, .bool false, .slice none 0 0, .slice none 0 0] := HT1.out.grown hg2 (by simp; omega)
  have HG2 : Hid (Gm g w w2) := HG1.out.trans hg2
  have HT2 := Lib.hid hrs2
  have HR2 := Lib.hid hr2
  have hw2l := hrs2.lt
  clear hr2 hg2 hrs2 HG1 HR1 HT1
  have HX3 : Hid (RxS B w g w2.heap.size 8 0 0 false none 0 0 none 0 0 p2 (p3 || decide ((8 : Int) = 0)) (w2.alloc (.cells #[.int .i64 8, .int .i64 0, .int .i64 0, .bool false, .slice none 0 0, .slice none 0 0] PtT))) :=
    ⟨HR2.out.grow bel, Blk.new _ _ _, HT2.out.alloc _, HG2.out.trans (gm_below bel), hw2l, hgl⟩
  clear HG2 HT2 HR2
  go_wp2_with fail
  obtain ⟨w3, hw3⟩ : ∃ w3, w3 = w2.alloc (.cells #[.int .i64 8, .int .i64 0, .int .i64 0, .bool false, .slice none 0 0, .slice none 0 0] PtT) := ⟨_, rfl⟩
  rw [← hw3] at HX3 ⊢
  clear hw3
  obtain ⟨bx, hbx⟩ : ∃ bx, bx = w2.heap.size := ⟨_, rfl⟩
  rw [← hbx] at HX3 hw2l ⊢
  clear hbx
  have hne1 : ¬ bx = w.heap.size := by omega
  have hne2 : ¬ w.heap.size = bx := by omega
  refine (rd_number g p2 _ (by omega) HLL.out w0 _ (HX3.out.env HB.out) HX3.out.rd).mono ?_
  rintro e w4 ⟨rfl, hr4, hg4⟩
  rw [HN.out] at hr4 ⊢
  have HX4 := Lib.hid (HX3.out.call hr4 hg4)
  clear hr4 hg4 HX3
  obtain ⟨⟨z0, z1, z2, z3, z4, z5⟩, ⟨y1, y2, y3, y4, y5⟩, zl⟩ := HX4.out.fields
  obtain ⟨⟨r0, r1, r2, r3, r4, r5⟩, ⟨s0, s1, s2, s3, s4, s5⟩, rl⟩ := HX4.out.results
  have HX5 := Lib.hid (HX4.out.put2 n1)
  clear HX4
  go_wp2_with fail
  refine bodyPost_ret (res_cell rfl st_Pt rfl (putR_blk HX5.out) rfl) rfl ?_
  exact ⟨_, _, _, _, rfl, putR_own HX5.out (World.ownsRow_nil _ _ _ _) (by decide), putR_own HX5.out (World.ownsRow_nil _ _ _ _) (by decide), putR_rd HX5.out⟩
set_option maxHeartbeats 16000000 in
set_option maxRecDepth 100000 in
theorem rd_step_two4 {B : Nat} (g : Nat) (L : List (List UInt8)) (b : Bool) (hL : L.length ≤ 100000) (hLl : ∀ x ∈ L, x.length ≤ 90000) (w0 w : World) (hb : Rb w0 g w) (hd : Hd w0) (hS : Rd B w g L b)
    (p1 : List UInt8) (p2 : List (List UInt8)) (p3 : Bool) (hp : rdW L b = (p1, p2, p3)) (hk : kindW p1 = 4) (n1 : Int) (q2 : List (List UInt8)) (q3 : Bool) (hn : rdN p2 (p3 || decide ((4 : Int) = 0)) = (n1, q2, q3)) (n2 : Int) (m2 : List (List UInt8)) (m3 : Bool) (hm : rdN q2 q3 = (n2, m2, m3)) :
    Calls Tryz.prog 31 #[.pointer (some ⟨g, 0, none⟩)] w (RsP B g ⟨4, n1, n2, false, [], []⟩ m2 m3 w) := by
  have hgl := hS.lt
  have HS := Lib.hid hS
  have HP := Lib.hid hp
  have HKK := Lib.hid hk
  have HB := Lib.hid hb
  have HHD : Hid (∀ W, Gm g w W → Hd W) := fun W hW => hd.below (hb.bl.trans (hW.below hb.lo hb.bl.size))
  have hp2 : p2.length ≤ 100000 := by have := rdW_len L b; rw [hp] at this; simp only at this; omega
  have HLL : Hid (∀ x ∈ p2, x.length ≤ 90000) := fun x hx => hLl x (rdW_sub hp x hx)
  clear hb hd hS hp hk hLl
  have HN := Lib.hid hn
  have HM := Lib.hid hm
  have hq2 : q2.length ≤ 100000 := by have := (rdN_sub hn).1; omega
  have HLQ : Hid (∀ x ∈ q2, x.length ≤ 90000) := fun x hx => HLL.out x ((rdN_sub hn).2 x hx)
  clear hn hm
  go_enter Tryz.func31, Tryz.ntmps31
  go_wp2_with fail
  refine (rd_word g L b (by omega) _ (HS.out.grow bel)).mono ?_
  rintro e w1 ⟨rfl, hr1, hg1⟩
  rw [HP.out] at hr1 ⊢
  have hrs1 : Blk w1 w.heap.size PtT #[.int .i64 0, .int .i64 0, .int .i64 0, .bool false, .slice none 0 0, .slice none 0 0] := (Blk.new w PtT _).grown hg1 (by simp; omega)
  have HG1 : Hid (Gm g w w1) := (gm_below bel).trans hg1
  have HR1 := Lib.hid hr1
  have HT1 := Lib.hid hrs1
  clear hr1 hg1 hrs1
  go_wp2_with fail
  refine (rd_kind g p1 p2 p3 w1 (HHD.out _ HG1.out) HR1.out).mono ?_
  rintro e w2 ⟨rfl, hr2, hg2⟩
  rw [HKK.out] at hr2 ⊢
  have hrs2 : Blk w2 w.heap.size PtT #[.int .i64 0, .int .i64 0, .int .i64 0, .bool false, .slice none 0 0, .slice none 0 0] := HT1.out.grown hg2 (by simp; omega)
  have HG2 : Hid (Gm g w w2) := HG1.out.trans hg2
  have HT2 := Lib.hid hrs2
  have HR2 := Lib.hid hr2
  have hw2l := hrs2.lt
  clear hr2 hg2 hrs2 HG1 HR1 HT1
  have HX3 : Hid (RxS B w g w2.heap.size 4 0 0 false none 0 0 none 0 0 p2 (p3 || decide ((4 : Int) = 0)) (w2.alloc (.cells #[.int .i64 4, .int .i64 0, .int .i64 0, .bool false, .slice none 0 0, .slice none 0 0] PtT))) :=
    ⟨HR2.out.grow bel, Blk.new _ _ _, HT2.out.alloc _, HG2.out.trans (gm_below bel), hw2l, hgl⟩
  clear HG2 HT2 HR2
  go_wp2_with fail
  obtain ⟨w3, hw3⟩ : ∃ w3, w3 = w2.alloc (.cells #[.int .i64 4, .int .i64 0, .int .i64 0, .bool false, .slice none 0 0, .slice none 0 0] PtT) := ⟨_, rfl⟩
  rw [← hw3] at HX3 ⊢
  clear hw3
  obtain ⟨bx, hbx⟩ : ∃ bx, bx = w2.heap.size := ⟨_, rfl⟩
  rw [← hbx] at HX3 hw2l ⊢
  clear hbx
  have hne1 : ¬ bx = w.heap.size := by omega
  have hne2 : ¬ w.heap.size = bx := by omega
  refine (rd_number g p2 _ (by omega) HLL.out w0 _ (HX3.out.env HB.out) HX3.out.rd).mono ?_
  rintro e w4 ⟨rfl, hr4, hg4⟩
  rw [HN.out] at hr4 ⊢
  have HX4 := Lib.hid (HX3.out.call hr4 hg4)
  clear hr4 hg4 HX3
  go_wp2_with fail
  refine (rd_number g q2 q3 (by omega) HLQ.out w0 _ (HX4.out.env HB.out) HX4.out.rd).mono ?_
  rintro e w5 ⟨rfl, hr5, hg5⟩
  rw [HM.out] at hr5 ⊢
  have HX5 := Lib.hid (HX4.out.call hr5 hg5)
  clear hr5 hg5 HX4
  obtain ⟨⟨z0, z1, z2, z3, z4, z5⟩, ⟨y1, y2, y3, y4, y5⟩, zl⟩ := HX5.out.fields
  obtain ⟨⟨r0, r1, r2, r3, r4, r5⟩, ⟨s0, s1, s2, s3, s4, s5⟩, rl⟩ := HX5.out.results
  have HX6 := Lib.hid ((HX5.out.put1 n1).put2 n2)
  clear HX5
  go_wp2_with fail
  refine bodyPost_ret (res_cell rfl st_Pt rfl (putR_blk HX6.out) rfl) rfl ?_
  exact ⟨_, _, _, _, rfl, putR_own HX6.out (World.ownsRow_nil _ _ _ _) (by decide), putR_own HX6.out (World.ownsRow_nil _ _ _ _) (by decide), putR_rd HX6.out⟩
set_option maxHeartbeats 16000000 in
set_option maxRecDepth 100000 in
theorem rd_step_two5 {B : Nat} (g : Nat) (L : List (List UInt8)) (b : Bool) (hL : L.length ≤ 100000) (hLl : ∀ x ∈ L, x.length ≤ 90000) (w0 w : World) (hb : Rb w0 g w) (hd : Hd w0) (hS : Rd B w g L b)
    (p1 : List UInt8) (p2 : List (List UInt8)) (p3 : Bool) (hp : rdW L b = (p1, p2, p3)) (hk : kindW p1 = 5) (n1 : Int) (q2 : List (List UInt8)) (q3 : Bool) (hn : rdN p2 (p3 || decide ((5 : Int) = 0)) = (n1, q2, q3)) (n2 : Int) (m2 : List (List UInt8)) (m3 : Bool) (hm : rdN q2 q3 = (n2, m2, m3)) :
    Calls Tryz.prog 31 #[.pointer (some ⟨g, 0, none⟩)] w (RsP B g ⟨5, n1, n2, false, [], []⟩ m2 m3 w) := by
  have hgl := hS.lt
  have HS := Lib.hid hS
  have HP := Lib.hid hp
  have HKK := Lib.hid hk
  have HB := Lib.hid hb
  have HHD : Hid (∀ W, Gm g w W → Hd W) := fun W hW => hd.below (hb.bl.trans (hW.below hb.lo hb.bl.size))
  have hp2 : p2.length ≤ 100000 := by have := rdW_len L b; rw [hp] at this; simp only at this; omega
  have HLL : Hid (∀ x ∈ p2, x.length ≤ 90000) := fun x hx => hLl x (rdW_sub hp x hx)
  clear hb hd hS hp hk hLl
  have HN := Lib.hid hn
  have HM := Lib.hid hm
  have hq2 : q2.length ≤ 100000 := by have := (rdN_sub hn).1; omega
  have HLQ : Hid (∀ x ∈ q2, x.length ≤ 90000) := fun x hx => HLL.out x ((rdN_sub hn).2 x hx)
  clear hn hm
  go_enter Tryz.func31, Tryz.ntmps31
  go_wp2_with fail
  refine (rd_word g L b (by omega) _ (HS.out.grow bel)).mono ?_
  rintro e w1 ⟨rfl, hr1, hg1⟩
  rw [HP.out] at hr1 ⊢
  have hrs1 : Blk w1 w.heap.size PtT #[.int .i64 0, .int .i64 0, .int .i64 0, .bool false, .slice none 0 0, .slice none 0 0] := (Blk.new w PtT _).grown hg1 (by simp; omega)
  have HG1 : Hid (Gm g w w1) := (gm_below bel).trans hg1
  have HR1 := Lib.hid hr1
  have HT1 := Lib.hid hrs1
  clear hr1 hg1 hrs1
  go_wp2_with fail
  refine (rd_kind g p1 p2 p3 w1 (HHD.out _ HG1.out) HR1.out).mono ?_
  rintro e w2 ⟨rfl, hr2, hg2⟩
  rw [HKK.out] at hr2 ⊢
  have hrs2 : Blk w2 w.heap.size PtT #[.int .i64 0, .int .i64 0, .int .i64 0, .bool false, .slice none 0 0, .slice none 0 0] := HT1.out.grown hg2 (by simp; omega)
  have HG2 : Hid (Gm g w w2) := HG1.out.trans hg2
  have HT2 := Lib.hid hrs2
  have HR2 := Lib.hid hr2
  have hw2l := hrs2.lt
  clear hr2 hg2 hrs2 HG1 HR1 HT1
  have HX3 : Hid (RxS B w g w2.heap.size 5 0 0 false none 0 0 none 0 0 p2 (p3 || decide ((5 : Int) = 0)) (w2.alloc (.cells #[.int .i64 5, .int .i64 0, .int .i64 0, .bool false, .slice none 0 0, .slice none 0 0] PtT))) :=
    ⟨HR2.out.grow bel, Blk.new _ _ _, HT2.out.alloc _, HG2.out.trans (gm_below bel), hw2l, hgl⟩
  clear HG2 HT2 HR2
  go_wp2_with fail
  obtain ⟨w3, hw3⟩ : ∃ w3, w3 = w2.alloc (.cells #[.int .i64 5, .int .i64 0, .int .i64 0, .bool false, .slice none 0 0, .slice none 0 0] PtT) := ⟨_, rfl⟩
  rw [← hw3] at HX3 ⊢
  clear hw3
  obtain ⟨bx, hbx⟩ : ∃ bx, bx = w2.heap.size := ⟨_, rfl⟩
  rw [← hbx] at HX3 hw2l ⊢
  clear hbx
  have hne1 : ¬ bx = w.heap.size := by omega
  have hne2 : ¬ w.heap.size = bx := by omega
  refine (rd_number g p2 _ (by omega) HLL.out w0 _ (HX3.out.env HB.out) HX3.out.rd).mono ?_
  rintro e w4 ⟨rfl, hr4, hg4⟩
  rw [HN.out] at hr4 ⊢
  have HX4 := Lib.hid (HX3.out.call hr4 hg4)
  clear hr4 hg4 HX3
  go_wp2_with fail
  refine (rd_number g q2 q3 (by omega) HLQ.out w0 _ (HX4.out.env HB.out) HX4.out.rd).mono ?_
  rintro e w5 ⟨rfl, hr5, hg5⟩
  rw [HM.out] at hr5 ⊢
  have HX5 := Lib.hid (HX4.out.call hr5 hg5)
  clear hr5 hg5 HX4
  obtain ⟨⟨z0, z1, z2, z3, z4, z5⟩, ⟨y1, y2, y3, y4, y5⟩, zl⟩ := HX5.out.fields
  obtain ⟨⟨r0, r1, r2, r3, r4, r5⟩, ⟨s0, s1, s2, s3, s4, s5⟩, rl⟩ := HX5.out.results
  have HX6 := Lib.hid ((HX5.out.put1 n1).put2 n2)
  clear HX5
  go_wp2_with fail
  refine bodyPost_ret (res_cell rfl st_Pt rfl (putR_blk HX6.out) rfl) rfl ?_
  exact ⟨_, _, _, _, rfl, putR_own HX6.out (World.ownsRow_nil _ _ _ _) (by decide), putR_own HX6.out (World.ownsRow_nil _ _ _ _) (by decide), putR_rd HX6.out⟩
set_option maxHeartbeats 16000000 in
set_option maxRecDepth 100000 in
theorem rd_step_data {B : Nat} (g : Nat) (L : List (List UInt8)) (b : Bool) (hL : L.length ≤ 100000) (hLl : ∀ x ∈ L, x.length ≤ 90000) (w0 w : World) (hb : Rb w0 g w) (hd : Hd w0) (hS : Rd B w g L b)
    (p1 : List UInt8) (p2 : List (List UInt8)) (p3 : Bool) (hp : rdW L b = (p1, p2, p3)) (hk : kindW p1 = 2) (n1 : Int) (q2 : List (List UInt8)) (q3 : Bool) (hn : rdN p2 (p3 || decide ((2 : Int) = 0)) = (n1, q2, q3)) (n2 : Int) (m2 : List (List UInt8)) (m3 : Bool) (hm : rdN q2 q3 = (n2, m2, m3)) (en : Bool) (e2 : List (List UInt8)) (e3 : Bool) (he : rdE [101, 110, 100] [111, 112, 101, 110] m2 m3 = (en, e2, e3)) :
    Calls Tryz.prog 31 #[.pointer (some ⟨g, 0, none⟩)] w (RsP B g ⟨2, n1, n2, en, [], []⟩ e2 e3 w) := by
  have hgl := hS.lt
  have HS := Lib.hid hS
  have HP := Lib.hid hp
  have HKK := Lib.hid hk
  have HB := Lib.hid hb
  have HHD : Hid (∀ W, Gm g w W → Hd W) := fun W hW => hd.below (hb.bl.trans (hW.below hb.lo hb.bl.size))
  have hp2 : p2.length ≤ 100000 := by have := rdW_len L b; rw [hp] at this; simp only at this; omega
  have HLL : Hid (∀ x ∈ p2, x.length ≤ 90000) := fun x hx => hLl x (rdW_sub hp x hx)
  clear hb hd hS hp hk hLl
  have HN := Lib.hid hn
  have HM := Lib.hid hm
  have HE := Lib.hid he
  have hm2 : m2.length ≤ 100000 := by have := (rdN_sub hn).1; have := (rdN_sub hm).1; omega
  have hq2 : q2.length ≤ 100000 := by have := (rdN_sub hn).1; omega
  have HLQ : Hid (∀ x ∈ q2, x.length ≤ 90000) := fun x hx => HLL.out x ((rdN_sub hn).2 x hx)
  clear hn hm he
  go_enter Tryz.func31, Tryz.ntmps31
  go_wp2_with fail
  refine (rd_word g L b (by omega) _ (HS.out.grow bel)).mono ?_
  rintro e w1 ⟨rfl, hr1, hg1⟩
  rw [HP.out] at hr1 ⊢
  have hrs1 : Blk w1 w.heap.size PtT #[.int .i64 0, .int .i64 0, .int .i64 0, .bool false, .slice none 0 0, .slice none 0 0] := (Blk.new w PtT _).grown hg1 (by simp; omega)
  have HG1 : Hid (Gm g w w1) := (gm_below bel).trans hg1
  have HR1 := Lib.hid hr1
  have HT1 := Lib.hid hrs1
  clear hr1 hg1 hrs1
  go_wp2_with fail
  refine (rd_kind g p1 p2 p3 w1 (HHD.out _ HG1.out) HR1.out).mono ?_
  rintro e w2 ⟨rfl, hr2, hg2⟩
  rw [HKK.out] at hr2 ⊢
  have hrs2 : Blk w2 w.heap.size PtT #[.int .i64 0, .int .i64 0, .int .i64 0, .bool false, .slice none 0 0, .slice none 0 0] := HT1.out.grown hg2 (by simp; omega)
  have HG2 : Hid (Gm g w w2) := HG1.out.trans hg2
  have HT2 := Lib.hid hrs2
  have HR2 := Lib.hid hr2
  have hw2l := hrs2.lt
  clear hr2 hg2 hrs2 HG1 HR1 HT1
  have HX3 : Hid (RxS B w g w2.heap.size 2 0 0 false none 0 0 none 0 0 p2 (p3 || decide ((2 : Int) = 0)) (w2.alloc (.cells #[.int .i64 2, .int .i64 0, .int .i64 0, .bool false, .slice none 0 0, .slice none 0 0] PtT))) :=
    ⟨HR2.out.grow bel, Blk.new _ _ _, HT2.out.alloc _, HG2.out.trans (gm_below bel), hw2l, hgl⟩
  clear HG2 HT2 HR2
  go_wp2_with fail
  obtain ⟨w3, hw3⟩ : ∃ w3, w3 = w2.alloc (.cells #[.int .i64 2, .int .i64 0, .int .i64 0, .bool false, .slice none 0 0, .slice none 0 0] PtT) := ⟨_, rfl⟩
  rw [← hw3] at HX3 ⊢
  clear hw3
  obtain ⟨bx, hbx⟩ : ∃ bx, bx = w2.heap.size := ⟨_, rfl⟩
  rw [← hbx] at HX3 hw2l ⊢
  clear hbx
  have hne1 : ¬ bx = w.heap.size := by omega
  have hne2 : ¬ w.heap.size = bx := by omega
  refine (rd_number g p2 _ (by omega) HLL.out w0 _ (HX3.out.env HB.out) HX3.out.rd).mono ?_
  rintro e w4 ⟨rfl, hr4, hg4⟩
  rw [HN.out] at hr4 ⊢
  have HX4 := Lib.hid (HX3.out.call hr4 hg4)
  clear hr4 hg4 HX3
  go_wp2_with fail
  refine (rd_number g q2 q3 (by omega) HLQ.out w0 _ (HX4.out.env HB.out) HX4.out.rd).mono ?_
  rintro e w5 ⟨rfl, hr5, hg5⟩
  rw [HM.out] at hr5 ⊢
  have HX5 := Lib.hid (HX4.out.call hr5 hg5)
  clear hr5 hg5 HX4
  obtain ⟨⟨z0, z1, z2, z3, z4, z5⟩, ⟨y1, y2, y3, y4, y5⟩, zl⟩ := HX5.out.fields
  obtain ⟨⟨r0, r1, r2, r3, r4, r5⟩, ⟨s0, s1, s2, s3, s4, s5⟩, rl⟩ := HX5.out.results
  have HX6 := Lib.hid ((HX5.out.put1 n1).put2 n2)
  clear HX5
  go_wp2_with fail
  refine (rd_either g [101, 110, 100] [111, 112, 101, 110] m2 m3 (by omega) _ HX6.out.rd).mono ?_
  rintro e w7 ⟨rfl, hr7, hg7⟩
  rw [HE.out] at hr7 ⊢
  have HX7 := Lib.hid (HX6.out.call hr7 hg7)
  clear hr7 hg7 HX6
  clear z0 z1 z2 z3 z4 z5 y1 y2 y3 y4 y5 zl r0 r1 r2 r3 r4 r5 s0 s1 s2 s3 s4 s5 rl
  obtain ⟨⟨z0, z1, z2, z3, z4, z5⟩, ⟨y1, y2, y3, y4, y5⟩, zl⟩ := HX7.out.fields
  obtain ⟨⟨r0, r1, r2, r3, r4, r5⟩, ⟨s0, s1, s2, s3, s4, s5⟩, rl⟩ := HX7.out.results
  have HX8 := Lib.hid (HX7.out.put3 en)
  clear HX7
  go_wp2_with fail
  refine bodyPost_ret (res_cell rfl st_Pt rfl (putR_blk HX8.out) rfl) rfl ?_
  exact ⟨_, _, _, _, rfl, putR_own HX8.out (World.ownsRow_nil _ _ _ _) (by decide), putR_own HX8.out (World.ownsRow_nil _ _ _ _) (by decide), putR_rd HX8.out⟩
end Go.Proofs.YtfcgdfcekpbliaaGreatDoor
