/-
  The first frame of a side is a ping: the look at it is kept.
-/
import Derived.Test.YtfloijkagfabpaaGreatDoorMj
namespace Go.Proofs.YtfloijkagfabpaaGreatDoor
set_option linter.unusedSimpArgs false
set_option linter.unusedVariables false
set_option linter.unusedSectionVars false
open Go.ChangeShapes Go.WideShapes Go.ChangeAt Go.RowKit Go.Deep Go.Shelf

def LkP (c : Nat) (w : World) (e : Ending) (w' : World) : Prop := ∃ x a' k', e = .returned (.int .i64 0) ∧ w.heap.size ≤ x ∧ FirstL w' c x 1 6 0 0 false a' 8 k' ∧ w'.cell? ⟨c, 32, none⟩ = some (ptr x) ∧ w'.cell? ⟨x, 43, none⟩ = some (.bool false) ∧ w'.frozen? ⟨x, 43, none⟩ = false ∧ Gp (fun q => q = c) w w'
theorem parse_ping {l : List UInt8} (hl : l.length = 8) : (parseF 6 0 0 l).1.2 = (0, 0) ∧ (parseF 6 0 0 l).2 = 0 := by
  have h8 : hasF 6 0 8 = false := by decide
  unfold parseF
  rw [hl, if_neg (by decide), if_neg (by decide), if_neg (by decide)]
  unfold insF padN numsF
  simp [h8]
  have : ¬ ((l.length : Int) < -1) := by omega
  simp [this]
theorem may_ping : mayF 1 6 0 0 8 false = true := by decide
set_option maxHeartbeats 8000000 in
set_option maxRecDepth 100000 in
theorem core_Look_ping (c : Nat) (g s b q p t : Int) (a0 d0 s0 k0 q0 a1 d1 s1 k1 q1 al : Nat) (a : Option Addr) (k : Nat) (l : List UInt8) (hl : l.length = 8) (w : World) (HC : Blk w c CoreT (coreNew g s b q p t a0 d0 s0 k0 q0 a1 d1 s1 k1 q1 al)) (HA : Blk w a1 AssT (assNew b)) (hca : c < a1) (h : SlB w w.heap.size a l) :
    Calls Tryz.prog 13 #[ptr c, rawV 1 6 0 0 false a 8 k] w (LkP c w) := by
  have hlt := HC.lt
  have HMY : Hid (∀ W, Below w.heap.size w W → Calls Tryz.prog 36 #[ptr c, rawV 1 6 0 0 false a 8 k] W fun e w' => e = .returned (.bool true) ∧ ∃ j, w' = W.more j) := fun W hW => by
    have := core_may c false 1 6 0 0 false a 8 k W ((hW.cell (p := ⟨c, 6, none⟩) hlt).trans (HC.cell 6)) (Nat.lt_of_lt_of_le hlt hW.size)
    rwa [may_ping] at this
  have HCL : Hid (∀ W, Below w.heap.size w W → Calls Tryz.prog 37 #[.slice a 8 k] W fun e w' => ∃ v', e = .returned v' ∧ OwnB W.heap.size w' v' l ∧ Below W.heap.size W w') := fun W hW => by
    have := slices_CloneB a k l W (h.grow hW) (by omega)
    rwa [hl] at this
  have HP : Hid (∀ W, Below w.heap.size w W → Calls Tryz.prog 38 #[rawV 1 6 0 0 false a 8 k] W fun e w' => ∃ cs, e = .returned (.tuple #[.agg cs, fuV (0, 0), .int .i64 0]) ∧ FmIs w' W.heap.size (parseF 6 0 0 l).1.1 cs ∧ Below W.heap.size W w') := fun W hW => by
    have := frame_Parse 1 6 0 0 false a k l (by omega) W (h.grow hW)
    rw [hl] at this
    unfold ParP at this
    rwa [(parse_ping hl).1, (parse_ping hl).2] at this
  have c32 : w.cell? ⟨c, 32, none⟩ = some (.pointer none) := HC.cell 32
  have c33 : w.cell? ⟨c, 33, none⟩ = some (.bool true) := HC.cell 33
  have c34 : w.cell? ⟨c, 34, none⟩ = some (.bool false) := HC.cell 34
  have HC' := Lib.hid HC
  have HA' := Lib.hid HA
  have HLL := Lib.hid hl
  have HCA := Lib.hid hca
  clear HC HA hl hca h
  go_enter Tryz.func13, Tryz.ntmps13
  go_wp2_with (go_at_call 36; (with_reducible refine (HMY.out _ bel).mono ?_); rintro e w' ⟨rfl, j, rfl⟩)
  refine (HCL.out _ bel).mono ?_
  rintro e w1 ⟨v', rfl, ho, hb⟩
  obtain ⟨ab, cb, rfl, hcb, hsb, hnb⟩ := OwnB.full ho
  obtain ⟨jc, rfl⟩ := hb.junk
  rw [HLL.out]
  clear ho hb hcb hsb hnb
  go_wp2_with fail
  refine (HP.out _ bel).mono ?_
  rintro e w1 ⟨cs, rfl, hf, hb⟩
  obtain ⟨da, dc, sa, sc, rfl, -, -, -, -, -, -⟩ := hf
  obtain ⟨jp, rfl⟩ := hb.junk
  clear hb
  generalize (parseF 6 0 0 l).1.1 = F
  obtain ⟨ty', fl', st', pad, data, sets, wt, pa, al2, pr, la, co, sp⟩ := F
  go_wp2_with fail
  obtain ⟨gx, hgx⟩ : ∃ gx, gx = w.heap.size + 1 + j.heap.size := ⟨_, rfl⟩
  rw [← hgx]
  have hgw : w.heap.size < gx := by omega
  refine wnm fun wz hwz => ?_
  have HBZ : Hid (Below w.heap.size w wz) := by show Below _ _ _; rw [hwz]; exact bel
  have HRZ : Hid (Blk wz w.heap.size 56 #[.int .i64 1, .int .i64 6, .int .i64 0, .int .i64 0, .bool false, .slice a 8 k]) := by show Blk _ _ _ _; rw [hwz]; exact blk
  have HXZ : Hid (Blk wz gx LookT (lookA 1 6 0 0 false ab 8 cb ty' fl' st' pad da data.length dc sa sets.length sc wt pa al2 pr la co sp 0 0 false)) := by show Blk _ _ _ _; rw [hwz, hgx]; exact blk
  clear hwz hgx
  refine gg_start (Gp (fun q => q = gx)) (fun _ => Gp.refl _) (h := ?_)
  obtain ⟨wd, hwd⟩ : ∃ wd, wd = wz.drew := ⟨_, rfl⟩
  rw [← hwd]
  have HBD : Hid (Below w.heap.size w wd) := by show Below _ _ _; rw [hwd]; exact Below.drew HBZ.out
  have HRD : Hid (Blk wd w.heap.size 56 #[.int .i64 1, .int .i64 6, .int .i64 0, .int .i64 0, .bool false, .slice a 8 k]) := by show Blk _ _ _ _; rw [hwd]; exact HRZ.out
  have HXD : Hid (Blk wd gx LookT (lookA 1 6 0 0 false ab 8 cb ty' fl' st' pad da data.length dc sa sets.length sc wt pa al2 pr la co sp 0 0 false)) := by show Blk _ _ _ _; rw [hwd]; exact HXZ.out
  have HCD : Hid (Blk wd c CoreT (coreNew g s b q p t a0 d0 s0 k0 q0 a1 d1 s1 k1 q1 al)) := HC'.out.below HBD.out hlt
  have HAD : Hid (Blk wd a1 AssT (assNew b)) := HA'.out.below HBD.out HA'.out.lt
  clear hwd
  have hne1 : ¬ w.heap.size = gx := by omega
  have hne2 : ¬ c = gx := by omega
  have hlr := HRD.out.lt
  have hlc := HCD.out.lt
  refine tk 0 ?_
  refine tk 1 ?_
  refine tk 2 ?_
  refine tke 3 (E := fun wS => wS.cell? ⟨w.heap.size, 0, none⟩ = some (.int .i64 1)) (fun wS h => (h.cell _ _ hlr hne1).trans (HRD.out.cell 0)) ?_
  refine tk 4 ?_
  refine tk 5 ?_
  refine tk 6 ?_
  refine tk 7 ?_
  refine tke 8 (E := fun wS => wS.cell? ⟨c, 20, none⟩ = some (ptr a1)) (fun wS h => (h.cell _ _ hlc hne2).trans (HCD.out.cell 20)) ?_
  refine tk 9 ?_
  refine tke 10 (E := fun wS => wS.cell? ⟨w.heap.size, 1, none⟩ = some (.int .i64 6)) (fun wS h => (h.cell _ _ hlr hne1).trans (HRD.out.cell 1)) ?_
  refine tk 11 ?_
  refine tke 12 (E := fun wS => wS.cell? ⟨w.heap.size, 3, none⟩ = some (.int .i64 0)) (fun wS h => (h.cell _ _ hlr hne1).trans (HRD.out.cell 3)) ?_
  refine tk 13 ?_
  have HTK : Hid (∀ W, Below wd.heap.size wd W → Calls Tryz.prog 39 #[ptr a1, .agg (fmC 6 0 0 0 none 0 0 none 0 0 0 0 false 0 0 0 0)] W fun e w' => e = .returned (.bool true) ∧ ∃ j, w' = W.more j) := fun W hW => block_Takes a1 false 0 6 0 0 0 none 0 0 none 0 0 0 0 false 0 0 0 0 W ((hW.cell (p := ⟨a1, 1, none⟩) HAD.out.lt).trans (HAD.out.cell 1)) ((hW.cell (p := ⟨a1, 4, none⟩) HAD.out.lt).trans (HAD.out.cell 4)) (Nat.lt_of_lt_of_le HAD.out.lt hW.size)
  refine gg_step (fun _ _ _ h h2 => h.trans h2) 14 (by kernel_rfl) rfl (fun K hK => ?_)
  go_simp
  go_wp2_with fail
  refine (HTK.out _ bel).mono ?_
  rintro e w1 ⟨rfl, jt, rfl⟩
  go_wp2_with fail
  refine hK.out _ _ (Gp.of_below bel) ?_
  clear hK K
  try simp only [Act.put, nfa, nfb, nfc, nfd, List.set_cons_zero, List.set_cons_succ]
  refine tk 15 ?_
  refine tk 16 ?_
  have xg : wd.cell? ⟨gx, 21, none⟩ = some (.bool false) := HXD.out.cell 21
  have xf : wd.frozen? ⟨gx, 21, none⟩ = false := HXD.out.frozen 21
  have xl : gx < wd.heap.size := HXD.out.lt
  refine gg_step (fun _ _ _ h h2 => h.trans h2) 17 (by kernel_rfl) rfl (fun K hK => ?_)
  go_simp
  go_wp2_with fail
  refine hK.out _ _ (by rw [← World.setCell_more _ _ _ _ xl]; exact Gp.set (p := fun q => q = gx) _ rfl) ?_
  clear hK K
  try simp only [Act.put, nfa, nfb, nfc, nfd, List.set_cons_zero, List.set_cons_succ]
  obtain ⟨w9, hw9⟩ : ∃ w9, w9 = (wd.setCell ⟨gx, 21, none⟩ (.bool true)).more jt := ⟨_, rfl⟩
  rw [← hw9]
  have HX9 : Hid (Blk w9 gx LookT (lookA 1 6 0 0 false ab 8 cb ty' fl' st' pad da data.length dc sa sets.length sc wt pa al2 pr la co sp 0 0 true)) := by show Blk _ _ _ _; rw [hw9]; exact (HXD.out.set_ 21 (.bool true)).more jt
  have HC9 : Hid (Blk w9 c CoreT (coreNew g s b q p t a0 d0 s0 k0 q0 a1 d1 s1 k1 q1 al)) := by show Blk _ _ _ _; rw [hw9]; exact (HCD.out.far (p := ⟨gx, 21, none⟩) hne2 _).more jt
  have HB9 : Hid (Below w.heap.size w w9) := by
    show Below _ _ _
    rw [hw9]
    exact (HBD.out.trans ((Gp.set (p := fun q => q = gx) (o := 21) (.bool true) rfl).below (fun q hq => by omega) HBD.out.size)).ofMore (by have := HBD.out.size; simp; omega) jt
  clear hw9 xg xf xl hlr hlc
  refine wpAnyH_done (by kernel_rfl) ?_ _
  have HRD9 : Hid (∀ W, Below w9.heap.size w9 W → Calls Tryz.prog 40 #[ptr c, ptr gx] W fun e w' => e = .returned (.tuple #[]) ∧ ∃ j, w' = W.more j) := fun W hW =>
    core_read_first c gx 6 0 0 false ab 8 cb (by decide) W ⟨Nat.lt_of_lt_of_le HX9.out.lt hW.size, (HX9.out.below hW HX9.out.lt).cell 0, (HX9.out.below hW HX9.out.lt).cell 1, (HX9.out.below hW HX9.out.lt).cell 2, (HX9.out.below hW HX9.out.lt).cell 3, (HX9.out.below hW HX9.out.lt).cell 4, (HX9.out.below hW HX9.out.lt).cell 5, Nat.lt_of_lt_of_le HC9.out.lt hW.size, (HC9.out.below hW HC9.out.lt).cell 19⟩ ((HX9.out.below hW HX9.out.lt).cell 19) ((HX9.out.below hW HX9.out.lt).cell 20) ((HX9.out.below hW HX9.out.lt).cell 21)
  have e32 : w9.cell? ⟨c, 32, none⟩ = some (.pointer none) := HC9.out.cell 32
  have f32 : w9.frozen? ⟨c, 32, none⟩ = false := HC9.out.frozen 32
  have l9 : c < w9.heap.size := HC9.out.lt
  clear c32 c33 c34 hlt
  go_wp2_with (go_at_call 40; (with_reducible refine (HRD9.out _ bel).mono ?_); rintro e w' ⟨rfl, jr, rfl⟩)
  go_ret
  have hg : Gp (fun q => q = c) w9 ((w9.setCell ⟨c, 32, none⟩ (ptr gx)).more jr) := (Gp.set (p := fun q => q = c) (o := 32) (ptr gx) rfl).trans (Gp.of_below bel)
  have hx' := hg.blk HX9.out (by omega)
  have hc' : Blk ((w9.setCell ⟨c, 32, none⟩ (ptr gx)).more jr) c CoreT _ := (HC9.out.set_ 32 (ptr gx)).more jr
  exact ⟨gx, ab, cb, rfl, by omega, ⟨hx'.lt, hx'.cell 0, hx'.cell 1, hx'.cell 2, hx'.cell 3, hx'.cell 4, hx'.cell 5, hc'.lt, hc'.cell 19⟩, hc'.cell 32, hx'.cell 43, hx'.frozen 43, (Gp.of_below HB9.out).trans hg⟩
end Go.Proofs.YtfloijkagfabpaaGreatDoor
