/-
  Parts of the proof, one behind the other: contracts of the program and plain laws; no condition of their own.
-/
import Derived.Test.YtfloijkagfabpaaGreatDoorFrmE
import Derived.Test.YtfloijkagfabpaaGreatDoorFrmD
import Derived.Test.YtfloijkagfabpaaGreatDoorMc
/-
  Parsing a frame: the program's, whole.
-/
namespace Go.Proofs.YtfloijkagfabpaaGreatDoor
set_option linter.unusedSimpArgs false
set_option linter.unusedVariables false
set_option linter.unusedSectionVars false
open Go.ChangeShapes Go.WideShapes Go.ChangeAt Go.RowKit Go.Deep Go.Shelf

abbrev HdT : TypeId := 181
theorem st_Hd7 : StructTy Tryz.prog HdT 5 := ⟨_, Tryz.underlying181, rfl, by kernel_rfl⟩
set_option maxRecDepth 100000 in
theorem head_Of (fr ty fl st : Int) (rs : Bool) (a : Option Addr) (n c : Nat) (w : World) : Calls Tryz.prog 75 #[rawV fr ty fl st rs a n c] w fun e w' => e = .returned (.agg #[.int .i64 n, .int .i64 ty, .int .i64 fl, .int .i64 st, .bool rs]) ∧ ∃ j, w' = w.more j := by
  go_enter Tryz.func75, Tryz.ntmps75
  go_wp2_with fail
  refine bodyPost_ret (res_cell rfl st_Hd7 rfl blk rfl) rfl ⟨rfl, Below.junk bel⟩
theorem headR_iff {ln ty fl st : Int} : headR ln ty fl st = true ↔ (0 ≤ ln ∧ ln ≤ 16777215) ∧ (0 ≤ ty ∧ ty ≤ 255) ∧ (0 ≤ fl ∧ fl ≤ 255) ∧ (0 ≤ st ∧ st ≤ 2147483647) := by
  unfold headR
  simp only [Bool.and_eq_true, inB_iff]
/-- What a frame says: the frame, its fault, and whether it is a frame at all. -/
def parseF (ty fl st : Int) (l : List UInt8) : (Fm × (Int × Int)) × Int :=
  if headR l.length ty fl st = false then ((zFm, (0, 0)), 1) else if strOk ty st = false then ((zFm, (2, 1)), 0) else if lenOk ty fl l.length = false then ((zFm, (if ty = 0 ∨ ty = 2 then 1 else 2, 6)), 0) else (insF ty fl st l, 0)
def ParP (p : (Fm × (Int × Int)) × Int) (w : World) (e : Ending) (w' : World) : Prop := ∃ cs, e = .returned (.tuple #[.agg cs, fuV p.1.2, .int .i64 p.2]) ∧ FmIs w' w.heap.size p.1.1 cs ∧ Below w.heap.size w w'
set_option maxHeartbeats 8000000 in
set_option maxRecDepth 100000 in
theorem frame_Parse (fr ty fl st : Int) (rs : Bool) (a : Option Addr) (c : Nat) (l : List UInt8) (hl : l.length ≤ 1048576) (w : World) (h : SlB w w.heap.size a l) :
    Calls Tryz.prog 38 #[rawV fr ty fl st rs a l.length c] w (ParP (parseF ty fl st l) w) := by
  have HS := Lib.hid h
  have HO : Hid (∀ W, Calls Tryz.prog 75 #[rawV fr ty fl st rs a l.length c] W fun e w' => e = .returned (.agg #[.int .i64 (l.length : Nat), .int .i64 ty, .int .i64 fl, .int .i64 st, .bool rs]) ∧ ∃ j, w' = W.more j) := head_Of fr ty fl st rs a l.length c
  have HH : Hid (∀ W, Calls Tryz.prog 74 #[.agg #[.int .i64 (l.length : Nat), .int .i64 ty, .int .i64 fl, .int .i64 st, .bool rs]] W fun e w' => e = .returned (.bool (headR l.length ty fl st)) ∧ ∃ j, w' = W.more j) := head_Right l.length ty fl st rs
  have HT : Hid (∀ W, Calls Tryz.prog 76 #[rawV fr ty fl st rs a l.length c] W fun e w' => e = .returned (.bool (strOk ty st)) ∧ ∃ j, w' = W.more j) := frame_streamed fr ty fl st rs a l.length c
  have HSC : Hid (∀ W, Calls Tryz.prog 79 #[.int .i64 ty] W fun e w' => e = .returned (.int .i64 (if ty = 0 ∨ ty = 2 then 1 else 2)) ∧ W = w') := frame_scope ty
  have HFU : Hid (∀ s c W, Calls Tryz.prog 77 #[.int .i64 s, .int .i64 c] W fun e w' => e = .returned (.agg #[.int .i64 s, .int .i64 c]) ∧ ∃ j, w' = W.more j) := frame_fault
  obtain ⟨R, hR⟩ : ∃ R, R = parseF ty fl st l := ⟨_, rfl⟩
  rw [← hR]
  unfold parseF at hR
  by_cases hh : headR l.length ty fl st = true
  case neg =>
    have hh2 : headR l.length ty fl st = false := by simpa using hh
    rw [if_pos hh2] at hR
    rw [hh2] at HH
    have HR := Lib.hid hR
    clear hR hh hh2 h
    go_enter Tryz.func38, Tryz.ntmps38
    go_wp2_with (first | (go_at_call 75; (with_reducible refine (HO.out _).mono ?_); rintro e w' ⟨rfl, j, rfl⟩) | (go_at_call 74; (with_reducible refine (HH.out _).mono ?_); rintro e w' ⟨rfl, j, rfl⟩))
    refine bodyPost_ret (res_cell_cell_tmp rfl st_Fm rfl blk rfl st_Fu rfl blk rfl rfl) rfl ⟨_, by rw [HR.out]; rfl, by rw [HR.out]; exact zFm_is _ _, bel⟩
  have hfl : 0 ≤ fl ∧ fl ≤ 255 := by rw [headR_iff] at hh; exact hh.2.2.1
  have HZ : Hid (∀ W, Calls Tryz.prog 78 #[rawV fr ty fl st rs a l.length c] W fun e w' => e = .returned (.bool (lenOk ty fl l.length)) ∧ ∃ j, w' = W.more j) := frame_sized fr ty fl st rs a l.length c hfl.1 hfl.2
  have HI : Hid (lenOk ty fl l.length = true → ∀ W, Below w.heap.size w W → Calls Tryz.prog 80 #[rawV fr ty fl st rs a l.length c] W (InsP (insF ty fl st l) W)) := fun hlen W hW => frame_inside fr ty fl st rs a c l hfl.1 hfl.2 hlen hl W (HS.out.grow hW)
  rw [hh] at HH
  rw [if_neg (by simp [hh])] at hR
  obtain ⟨sc, hsc⟩ : ∃ sc : Int, sc = if ty = 0 ∨ ty = 2 then 1 else 2 := ⟨_, rfl⟩
  rw [← hsc] at HSC hR
  generalize strOk ty st = S at HT hR
  generalize lenOk ty fl l.length = L at HZ hR HI
  clear hsc hh h hfl
  cases S
  · have HR : Hid (R = ((zFm, (2, 1)), 0)) := hR
    clear hR
    go_enter Tryz.func38, Tryz.ntmps38
    go_wp2_with (first | (go_at_call 75; (with_reducible refine (HO.out _).mono ?_); rintro e w' ⟨rfl, j, rfl⟩) | (go_at_call 74; (with_reducible refine (HH.out _).mono ?_); rintro e w' ⟨rfl, j, rfl⟩) | (go_at_call 76; (with_reducible refine (HT.out _).mono ?_); rintro e w' ⟨rfl, j, rfl⟩) | (go_at_call 77; (with_reducible refine (HFU.out _ _ _).mono ?_); rintro e w' ⟨rfl, j, rfl⟩))
    refine bodyPost_ret (res_cell_cell_tmp rfl st_Fm rfl blk rfl st_Fu rfl blk rfl rfl) rfl ⟨_, by rw [HR.out]; rfl, by rw [HR.out]; exact zFm_is _ _, bel⟩
  cases L
  · have HR : Hid (R = ((zFm, (sc, 6)), 0)) := hR
    clear hR
    go_enter Tryz.func38, Tryz.ntmps38
    go_wp2_with (first | (go_at_call 75; (with_reducible refine (HO.out _).mono ?_); rintro e w' ⟨rfl, j, rfl⟩) | (go_at_call 74; (with_reducible refine (HH.out _).mono ?_); rintro e w' ⟨rfl, j, rfl⟩) | (go_at_call 76; (with_reducible refine (HT.out _).mono ?_); rintro e w' ⟨rfl, j, rfl⟩) | (go_at_call 78; (with_reducible refine (HZ.out _).mono ?_); rintro e w' ⟨rfl, j, rfl⟩) | (go_at_call 79; (with_reducible refine (HSC.out _).mono ?_); rintro e w' ⟨rfl, rfl⟩) | (go_at_call 77; (with_reducible refine (HFU.out _ _ _).mono ?_); rintro e w' ⟨rfl, j, rfl⟩))
    refine bodyPost_ret (res_cell_cell_tmp rfl st_Fm rfl blk rfl st_Fu rfl blk rfl rfl) rfl ⟨_, by rw [HR.out]; rfl, by rw [HR.out]; exact zFm_is _ _, bel⟩
  have HR : Hid (R = (insF ty fl st l, 0)) := hR
  have HI2 := Lib.hid (HI.out rfl)
  obtain ⟨J, hJ⟩ : ∃ J, J = insF ty fl st l := ⟨_, rfl⟩
  rw [← hJ] at HR HI2
  clear hR HI hJ
  go_enter Tryz.func38, Tryz.ntmps38
  go_wp2_with (first | (go_at_call 75; (with_reducible refine (HO.out _).mono ?_); rintro e w' ⟨rfl, j, rfl⟩) | (go_at_call 74; (with_reducible refine (HH.out _).mono ?_); rintro e w' ⟨rfl, j, rfl⟩) | (go_at_call 76; (with_reducible refine (HT.out _).mono ?_); rintro e w' ⟨rfl, j, rfl⟩) | (go_at_call 78; (with_reducible refine (HZ.out _).mono ?_); rintro e w' ⟨rfl, j, rfl⟩))
  refine (HI2.out _ bel).mono ?_
  rintro e w1 ⟨cs, rfl, hf, hb⟩
  obtain ⟨da, dc, sa, sc2, rfl, hf2, hf3, hf4, hf5, hf6, hf7⟩ := hf
  have HF2 := Lib.hid hf2
  have HF3 := Lib.hid hf3
  have HF5 := Lib.hid hf5
  have HF6 := Lib.hid hf6
  have HN : Hid ((∀ p, da = some p → w.heap.size + 3 ≤ p.block) ∧ ∀ p, sa = some p → w.heap.size + 3 ≤ p.block) := ⟨fun p hp => by have := hf4 p hp; simp at this; omega, fun p hp => by have := hf7 p hp; simp at this; omega⟩
  have HB1 : Hid (Below w.heap.size w w1) := Below.trans (B := w.heap.size) bel (hb.mono (by simp; omega))
  have HK1 : Hid (Blk w1 (w.heap.size + 1) FrmT (fmC 0 0 0 0 none 0 0 none 0 0 0 0 false 0 0 0 0)) := Blk.below (B := w.heap.size + 3) blk (hb.mono (by simp)) (by omega)
  have HK2 : Hid (Blk w1 (w.heap.size + 2) FuT #[.int .i64 0, .int .i64 0]) := Blk.below (B := w.heap.size + 3) blk (hb.mono (by simp)) (by omega)
  obtain ⟨⟨ty', fl', st', pad, data, sets, wt, pa, al, pr, la, co, sp⟩, fs, fc⟩ := J
  clear hf2 hf3 hf4 hf5 hf6 hf7 hb
  have hz1 := HK2.out.lt
  go_wp2_with fail
  refine gg_start (Gp (fun q => q = w.heap.size + 1 ∨ q = w.heap.size + 2)) (fun _ => Gp.refl _) (h := ?_)
  obtain ⟨wd, hwd⟩ : ∃ wd, wd = ((w1.alloc (.cells (fmC ty' fl' st' pad da data.length dc sa sets.length sc2 wt pa al pr la co sp) FrmT)).alloc (.cells #[.int .i64 fs, .int .i64 fc] FuT)).drew := ⟨_, rfl⟩
  rw [← hwd]
  have HD : Hid (Below w1.heap.size w1 wd) := by show Below _ _ _; rw [hwd]; exact bel
  have HKA : Hid (Blk wd w1.heap.size FrmT (fmC ty' fl' st' pad da data.length dc sa sets.length sc2 wt pa al pr la co sp)) := by show Blk _ _ _ _; rw [hwd]; exact blk
  have HKB : Hid (Blk wd (w1.heap.size + 1) FuT #[.int .i64 fs, .int .i64 fc]) := by show Blk _ _ _ _; rw [hwd]; exact blk
  clear hwd
  refine tkl 0 (fun wS h => h.blk HKA.out (by omega)) Tryz.underlying109 ?_
  refine tkl 1 (fun wS h => h.blk HKB.out (by omega)) Tryz.underlying111 ?_
  refine gg_step (fun _ _ _ h h2 => h.trans h2) 2 (by kernel_rfl) rfl (fun K hK => ?_)
  rw [if_pos (by kernel_rfl)]
  refine wp_store_row FrmT _ _ rfl (w.heap.size + 1) _ rfl rfl FrmT _ (HK1.out.below HD.out HK1.out.lt) (by kernel_rfl) rfl fm_one (hK.out _ _ ((gp_row _ _ _).imp fun _ e => .inl e) ?_)
  clear hK K
  try simp only [Act.put, nfa, nfb, nfc, nfd, List.set_cons_zero, List.set_cons_succ]
  refine gg_step (fun _ _ _ h h2 => h.trans h2) 3 (by kernel_rfl) rfl (fun K hK => ?_)
  rw [if_pos (by kernel_rfl)]
  refine wp_store_row FuT _ _ rfl (w.heap.size + 2) _ rfl rfl FuT _ ((gp_row _ _ _).blk (HK2.out.below HD.out HK2.out.lt) (by omega)) (by kernel_rfl) rfl fu_one (hK.out _ _ ((gp_row _ _ _).imp fun _ e => .inr e) ?_)
  clear hK K
  try simp only [Act.put, nfa, nfb, nfc, nfd, List.set_cons_zero, List.set_cons_succ]
  refine tk 4 ?_
  refine wpAnyH_done (by kernel_rfl) ?_ _
  go_wp2_with fail
  refine bodyPost_ret (res_cell_cell_tmp rfl st_Fm rfl ((gp_row _ (w.heap.size + 2) _).blk (blk_row (HK1.out.below HD.out HK1.out.lt) _) (by omega)) rfl st_Fu rfl (blk_row ((gp_row _ (w.heap.size + 1) _).blk (HK2.out.below HD.out HK2.out.lt) (by omega)) _) rfl rfl) rfl ⟨_, by rw [HR.out]; rfl, ?_, below_row (below_row (HB1.out.trans (HD.out.mono HB1.out.size)) (by omega) _) (by omega) _⟩
  rw [HR.out]
  have hgg : Gp (fun q => q ≤ w.heap.size + 2) wd _ := ((gp_row wd (w.heap.size + 1) (fmC ty' fl' st' pad da data.length dc sa sets.length sc2 wt pa al pr la co sp)).imp (fun k hk => by omega)).trans ((gp_row _ (w.heap.size + 2) #[.int .i64 fs, .int .i64 fc]).imp (fun k hk => by omega))
  exact ⟨da, dc, sa, sc2, rfl, SlR.gpN (N := w.heap.size + 3) (HF2.out.grow HD.out) HN.out.1 (fun k hk => by omega) hgg, HF3.out, fun p hp => by have := HN.out.1 p hp; omega, SlR.gpN (N := w.heap.size + 3) (HF5.out.grow' HD.out) HN.out.2 (fun k hk => by omega) hgg, HF6.out, fun p hp => by have := HN.out.2 p hp; omega⟩
end Go.Proofs.YtfloijkagfabpaaGreatDoor
/-
  A connection that is not there, or that nobody made; what a new one has.
-/
namespace Go.Proofs.YtfloijkagfabpaaGreatDoor
set_option linter.unusedSimpArgs false
set_option linter.unusedVariables false
set_option linter.unusedSectionVars false
open Go.ChangeShapes Go.WideShapes Go.ChangeAt Go.RowKit Go.Deep Go.Shelf

set_option maxRecDepth 100000 in
theorem core_Sent_nil (s : Int) (w : World) : Calls Tryz.prog 19 #[.pointer none, .int .i64 s] w fun e w' => e = .returned (.pointer none) ∧ w = w' := by
  go_enter Tryz.func19, Tryz.ntmps19
  go_wp2_with fail
  go_ret
  exact ⟨rfl, rfl⟩
set_option maxRecDepth 100000 in
theorem core_Memory_nil (s : Int) (w : World) : Calls Tryz.prog 20 #[.pointer none, .int .i64 s] w fun e w' => e = .returned (.pointer none) ∧ w = w' := by
  go_enter Tryz.func20, Tryz.ntmps20
  go_wp2_with fail
  go_ret
  exact ⟨rfl, rfl⟩
set_option maxRecDepth 100000 in
theorem core_Sent_out (c : Nat) (s : Int) (hs : ¬ (s = 0 ∨ s = 1)) (w : World) : Calls Tryz.prog 19 #[ptr c, .int .i64 s] w fun e w' => e = .returned (.pointer none) ∧ w = w' := by
  have HS : Hid (∀ W, Calls Tryz.prog 54 #[.int .i64 s] W fun e w' => e = .returned (.bool false) ∧ W = w') := fun W => by have := core_sided s W; rwa [decide_eq_false hs] at this
  clear hs
  go_enter Tryz.func19, Tryz.ntmps19
  go_wp2_with (go_at_call 54; (with_reducible refine (HS.out _).mono ?_); rintro e w' ⟨rfl, rfl⟩)
  go_ret
  exact ⟨rfl, rfl⟩
set_option maxRecDepth 100000 in
theorem core_Memory_out (c : Nat) (s : Int) (hs : ¬ (s = 0 ∨ s = 1)) (w : World) : Calls Tryz.prog 20 #[ptr c, .int .i64 s] w fun e w' => e = .returned (.pointer none) ∧ w = w' := by
  have HS : Hid (∀ W, Calls Tryz.prog 54 #[.int .i64 s] W fun e w' => e = .returned (.bool false) ∧ W = w') := fun W => by have := core_sided s W; rwa [decide_eq_false hs] at this
  clear hs
  go_enter Tryz.func20, Tryz.ntmps20
  go_wp2_with (go_at_call 54; (with_reducible refine (HS.out _).mono ?_); rintro e w' ⟨rfl, rfl⟩)
  go_ret
  exact ⟨rfl, rfl⟩
set_option maxRecDepth 100000 in
theorem core_Sent (c : Nat) (s : Int) (o : Nat) (hs : (s = 0 ∧ o = 12) ∨ (s = 1 ∧ o = 24)) (v : Value) (w : World) (h : w.cell? ⟨c, o, none⟩ = some v) : Calls Tryz.prog 19 #[ptr c, .int .i64 s] w fun e w' => e = .returned v ∧ w = w' := by
  have HS : Hid (∀ W, Calls Tryz.prog 54 #[.int .i64 s] W fun e w' => e = .returned (.bool true) ∧ W = w') := fun W => by have := core_sided s W; rwa [decide_eq_true (by omega)] at this
  rcases hs with ⟨rfl, rfl⟩ | ⟨rfl, rfl⟩
  all_goals
    go_enter Tryz.func19, Tryz.ntmps19
    go_wp2_with (go_at_call 54; (with_reducible refine (HS.out _).mono ?_); rintro e w' ⟨rfl, rfl⟩)
    go_ret
    exact ⟨rfl, rfl⟩
set_option maxRecDepth 100000 in
theorem core_Memory (c : Nat) (s : Int) (o : Nat) (hs : (s = 0 ∧ o = 14) ∨ (s = 1 ∧ o = 26)) (v : Value) (w : World) (h : w.cell? ⟨c, o, none⟩ = some v) : Calls Tryz.prog 20 #[ptr c, .int .i64 s] w fun e w' => e = .returned v ∧ w = w' := by
  have HS : Hid (∀ W, Calls Tryz.prog 54 #[.int .i64 s] W fun e w' => e = .returned (.bool true) ∧ W = w') := fun W => by have := core_sided s W; rwa [decide_eq_true (by omega)] at this
  rcases hs with ⟨rfl, rfl⟩ | ⟨rfl, rfl⟩
  all_goals
    go_enter Tryz.func20, Tryz.ntmps20
    go_wp2_with (go_at_call 54; (with_reducible refine (HS.out _).mono ?_); rintro e w' ⟨rfl, rfl⟩)
    go_ret
    exact ⟨rfl, rfl⟩
set_option maxRecDepth 100000 in
theorem core_Look_nil (fr ty fl st : Int) (rs : Bool) (a : Option Addr) (n k : Nat) (w : World) : Calls Tryz.prog 13 #[.pointer none, rawV fr ty fl st rs a n k] w fun e w' => e = .returned (.int .i64 2) ∧ ∃ j, w' = w.more j := by
  go_enter Tryz.func13, Tryz.ntmps13
  go_wp2_with fail
  go_ret
  exact ⟨rfl, Below.junk bel⟩
set_option maxRecDepth 100000 in
theorem core_Look_zero (c : Nat) (fr ty fl st : Int) (rs : Bool) (a : Option Addr) (n k : Nat) (w : World) (h : w.cell? ⟨c, 33, none⟩ = some (.bool false)) (hlt : c < w.heap.size) : Calls Tryz.prog 13 #[ptr c, rawV fr ty fl st rs a n k] w fun e w' => e = .returned (.int .i64 8) ∧ ∃ j, w' = w.more j := by
  go_enter Tryz.func13, Tryz.ntmps13
  go_wp2_with fail
  go_ret
  exact ⟨rfl, Below.junk bel⟩
set_option maxRecDepth 100000 in
theorem core_Do_nil (n : Int) (w : World) : Calls Tryz.prog 16 #[.pointer none, .int .i64 n] w fun e w' => e = .returned (.tuple #[.slice none 0 0, .int .i64 2]) ∧ w = w' := by
  have HL := Lib.hid core_looked_nil
  go_enter Tryz.func16, Tryz.ntmps16
  go_wp2_with (go_at_call 41; (with_reducible refine (HL.out _).mono ?_); rintro e w' ⟨rfl, rfl⟩)
  go_ret2
  exact ⟨rfl, rfl⟩
set_option maxRecDepth 100000 in
theorem core_Late_nil (w : World) : Calls Tryz.prog 18 #[.pointer none] w fun e w' => e = .returned (.tuple #[.int .i64 0, .bool false]) ∧ ∃ j, w' = w.more j := by
  have HL := Lib.hid core_looked_nil
  go_enter Tryz.func18, Tryz.ntmps18
  go_wp2_with (go_at_call 41; (with_reducible refine (HL.out _).mono ?_); rintro e w' ⟨rfl, rfl⟩)
  refine wp_region_more (by kernel_rfl) (by kernel_rfl) ?_
  repeat (go_big_quiet_step (first | fail))
  refine wpQuiet_nil ?_
  intro w' hw'
  obtain ⟨j, rfl⟩ := hw'
  go_wp2_with fail
  go_ret2
  exact ⟨rfl, Below.junk bel⟩
end Go.Proofs.YtfloijkagfabpaaGreatDoor
/-
  What may come now; which frames a side may send first; whether a frame may stand between others.
-/
namespace Go.Proofs.YtfloijkagfabpaaGreatDoor
set_option linter.unusedSimpArgs false
set_option linter.unusedVariables false
set_option linter.unusedSectionVars false
open Go.ChangeShapes Go.WideShapes Go.ChangeAt Go.RowKit Go.Deep Go.Shelf

def opensF (ty fl : Int) : Bool := decide (ty = 4) && !hasF 4 fl 1
set_option maxRecDepth 100000 in
theorem core_opens (fr ty fl st : Int) (rs : Bool) (a : Option Addr) (n c : Nat) (h0 : 0 ≤ fl) (h1 : fl ≤ 255) (w : World) : Calls Tryz.prog 81 #[rawV fr ty fl st rs a n c] w fun e w' => e = .returned (.bool (opensF ty fl)) ∧ ∃ j, w' = w.more j := by
  unfold opensF
  by_cases h : ty = 4
  · subst h
    have HK : Hid (∀ W, Calls Tryz.prog 146 #[.int .i64 4, .int .i64 fl, .int .i64 1] W fun e w' => e = .returned (.bool (hasF 4 fl 1)) ∧ W = w') := kinds_Has 4 fl 1 (by simp) h0 h1
    generalize hasF 4 fl 1 = b at HK ⊢
    go_enter Tryz.func81, Tryz.ntmps81
    go_wp2_with (go_at_call 146; (with_reducible refine (HK.out _).mono ?_); rintro e w' ⟨rfl, rfl⟩)
    go_ret
    exact ⟨rfl, Below.junk bel⟩
  · have h2 : (ty == 4) = false := by simpa using h
    rw [decide_eq_false h, Bool.false_and]
    go_enter Tryz.func81, Tryz.ntmps81
    go_wp2_with fail
    go_ret
    exact ⟨rfl, Below.junk bel⟩
set_option maxRecDepth 100000 in
theorem core_opens_not (fr ty fl st : Int) (rs : Bool) (a : Option Addr) (n c : Nat) (h : ¬ ty = 4) (w : World) : Calls Tryz.prog 81 #[rawV fr ty fl st rs a n c] w fun e w' => e = .returned (.bool false) ∧ ∃ j, w' = w.more j := by
  have h2 : (ty == 4) = false := by simpa using h
  go_enter Tryz.func81, Tryz.ntmps81
  go_wp2_with fail
  go_ret
  exact ⟨rfl, Below.junk bel⟩
def ruledF (r : Int) : Int × Int := if r = 0 then (1, 0) else (3, r)
set_option maxRecDepth 100000 in
theorem core_broken (r : Int) (w : World) : Calls Tryz.prog 86 #[.int .i64 r] w fun e w' => e = .returned (.tuple #[.int .i64 (ruledF r).1, .int .i64 (ruledF r).2]) ∧ w = w' := by
  unfold ruledF
  by_cases h : r = 0
  · subst h
    go_enter Tryz.func86, Tryz.ntmps86
    go_wp2_with fail
    go_ret2
    exact ⟨rfl, rfl⟩
  · rw [if_neg h]
    have h2 : (r == 0) = false := by simpa using h
    have h3 : (r != 0) = true := by simpa using h
    go_enter Tryz.func86, Tryz.ntmps86
    go_wp2_with fail
    go_ret2
    exact ⟨rfl, rfl⟩
/-- May a frame come, of a side that has begun, or not. -/
def mayF (fr ty fl st : Int) (n : Nat) (b0 : Bool) : Bool :=
  if fr = 0 then (if ty = -1 then !b0 else if b0 = true then headR n ty fl st else false) else if fr = 1 then (if ty = -1 then false else headR n ty fl st) else false
set_option maxHeartbeats 4000000 in
set_option maxRecDepth 100000 in
theorem core_may (c : Nat) (b0 : Bool) (fr ty fl st : Int) (rs : Bool) (a : Option Addr) (n k : Nat) (w : World) (h : w.cell? ⟨c, 6, none⟩ = some (.bool b0)) (hlt : c < w.heap.size) :
    Calls Tryz.prog 36 #[ptr c, rawV fr ty fl st rs a n k] w fun e w' => e = .returned (.bool (mayF fr ty fl st n b0)) ∧ ∃ j, w' = w.more j := by
  have HS : Hid (∀ W, Calls Tryz.prog 54 #[.int .i64 fr] W fun e w' => e = .returned (.bool (decide (fr = 0 ∨ fr = 1))) ∧ W = w') := core_sided fr
  have HO : Hid (∀ W, Calls Tryz.prog 75 #[rawV fr ty fl st rs a n k] W fun e w' => e = .returned (.agg #[.int .i64 n, .int .i64 ty, .int .i64 fl, .int .i64 st, .bool rs]) ∧ ∃ j, w' = W.more j) := head_Of fr ty fl st rs a n k
  have HH : Hid (∀ W, Calls Tryz.prog 74 #[.agg #[.int .i64 n, .int .i64 ty, .int .i64 fl, .int .i64 st, .bool rs]] W fun e w' => e = .returned (.bool (headR n ty fl st)) ∧ ∃ j, w' = W.more j) := head_Right n ty fl st rs
  have hm : mayF fr ty fl st n b0 = if fr = 0 then (if ty = -1 then !b0 else if b0 = true then headR n ty fl st else false) else if fr = 1 then (if ty = -1 then false else headR n ty fl st) else false := rfl
  generalize mayF fr ty fl st n b0 = M at hm ⊢
  generalize headR n ty fl st = R at HH hm
  have ht : (ty == -1) = decide (ty = -1) := rfl
  by_cases h0 : fr = 0
  · subst h0
    by_cases h1 : ty = -1
    · subst h1
      have HM : Hid (M = !b0) := by show _ = _; rw [hm]; rfl
      clear hm ht
      go_enter Tryz.func36, Tryz.ntmps36
      go_wp2_with (go_at_call 54; (with_reducible refine (HS.out _).mono ?_); rintro e w' ⟨rfl, rfl⟩)
      refine wp_region_more (by kernel_rfl) (by kernel_rfl) ?_
      repeat (go_big_quiet_step (first | fail))
      refine wpQuiet_nil ?_
      intro w' hw'
      obtain ⟨j, rfl⟩ := hw'
      go_wp2_with fail
      go_ret
      exact ⟨by rw [HM.out]; rfl, Below.junk bel⟩
    · have b1 : (ty == -1) = false := by simpa using h1
      cases b0
      · have HM : Hid (M = false) := by show _ = _; rw [hm, if_pos rfl, if_neg h1]; rfl
        clear hm ht
        go_enter Tryz.func36, Tryz.ntmps36
        go_wp2_with (go_at_call 54; (with_reducible refine (HS.out _).mono ?_); rintro e w' ⟨rfl, rfl⟩)
        refine wp_region_more (by kernel_rfl) (by kernel_rfl) ?_
        repeat (go_big_quiet_step (first | fail))
        refine wpQuiet_nil ?_
        intro w' hw'
        obtain ⟨j, rfl⟩ := hw'
        go_wp2_with fail
        go_ret
        exact ⟨by rw [HM.out]; rfl, Below.junk bel⟩
      · have HM : Hid (M = R) := by show _ = _; rw [hm, if_pos rfl, if_neg h1]; rfl
        clear hm ht
        go_enter Tryz.func36, Tryz.ntmps36
        go_wp2_with (go_at_call 54; (with_reducible refine (HS.out _).mono ?_); rintro e w' ⟨rfl, rfl⟩)
        refine wp_region_more (by kernel_rfl) (by kernel_rfl) ?_
        repeat (go_big_quiet_step (first | fail))
        refine wpQuiet_nil ?_
        intro w' hw'
        obtain ⟨j, rfl⟩ := hw'
        go_wp2_with (first | (go_at_call 75; (with_reducible refine (HO.out _).mono ?_); rintro e w' ⟨rfl, j, rfl⟩) | (go_at_call 74; (with_reducible refine (HH.out _).mono ?_); rintro e w' ⟨rfl, j, rfl⟩))
        go_ret
        exact ⟨by rw [HM.out]; rfl, Below.junk bel⟩
  have b0' : (fr == 0) = false := by simpa using h0
  by_cases h2 : fr = 1
  · subst h2
    by_cases h1 : ty = -1
    · subst h1
      have HM : Hid (M = false) := by show _ = _; rw [hm]; rfl
      clear hm ht
      go_enter Tryz.func36, Tryz.ntmps36
      go_wp2_with (go_at_call 54; (with_reducible refine (HS.out _).mono ?_); rintro e w' ⟨rfl, rfl⟩)
      refine wp_region_more (by kernel_rfl) (by kernel_rfl) ?_
      repeat (go_big_quiet_step (first | fail))
      refine wpQuiet_nil ?_
      intro w' hw'
      obtain ⟨j, rfl⟩ := hw'
      go_wp2_with fail
      go_ret
      exact ⟨by rw [HM.out]; rfl, Below.junk bel⟩
    · have b1 : (ty == -1) = false := by simpa using h1
      have HM : Hid (M = R) := by show _ = _; rw [hm, if_neg h0, if_pos rfl, if_neg h1]
      clear hm ht
      go_enter Tryz.func36, Tryz.ntmps36
      go_wp2_with (go_at_call 54; (with_reducible refine (HS.out _).mono ?_); rintro e w' ⟨rfl, rfl⟩)
      refine wp_region_more (by kernel_rfl) (by kernel_rfl) ?_
      repeat (go_big_quiet_step (first | fail))
      refine wpQuiet_nil ?_
      intro w' hw'
      obtain ⟨j, rfl⟩ := hw'
      go_wp2_with (first | (go_at_call 75; (with_reducible refine (HO.out _).mono ?_); rintro e w' ⟨rfl, j, rfl⟩) | (go_at_call 74; (with_reducible refine (HH.out _).mono ?_); rintro e w' ⟨rfl, j, rfl⟩))
      go_ret
      exact ⟨by rw [HM.out]; rfl, Below.junk bel⟩
  · have HM : Hid (M = false) := by show _ = _; rw [hm, if_neg h0, if_neg h2]
    have hd : decide (fr = 0 ∨ fr = 1) = false := decide_eq_false (by omega)
    rw [hd] at HS
    clear hm ht hd
    go_enter Tryz.func36, Tryz.ntmps36
    go_wp2_with (go_at_call 54; (with_reducible refine (HS.out _).mono ?_); rintro e w' ⟨rfl, rfl⟩)
    go_ret
    exact ⟨by rw [HM.out]; rfl, Below.junk bel⟩
def takesF (on : Bool) (fs ty st : Int) : Bool := if on = true then decide (ty = 9) && decide (st = fs) else decide (¬ ty = 9)
set_option maxHeartbeats 4000000 in
set_option maxRecDepth 100000 in
theorem block_Takes (x : Nat) (on : Bool) (fs ty fl st pad : Int) (da : Option Addr) (dn dc : Nat) (sa : Option Addr) (sn sc : Nat) (wt pa : Int) (al : Bool) (pr la co sp : Int) (w : World)
    (h1 : w.cell? ⟨x, 1, none⟩ = some (.bool on)) (h4 : w.cell? ⟨x, 4, none⟩ = some (.int .i64 fs)) (hlt : x < w.heap.size) :
    Calls Tryz.prog 39 #[ptr x, .agg (fmC ty fl st pad da dn dc sa sn sc wt pa al pr la co sp)] w fun e w' => e = .returned (.bool (takesF on fs ty st)) ∧ ∃ j, w' = w.more j := by
  unfold takesF
  cases on
  · have e : decide (¬ ty = 9) = (ty != 9) := by by_cases h : ty = 9 <;> simp [h]
    simp only [Bool.false_eq_true, if_false]
    rw [e]
    clear e
    go_enter Tryz.func39, Tryz.ntmps39
    go_wp2_with fail
    go_ret
    exact ⟨rfl, Below.junk bel⟩
  · simp only [if_true]
    by_cases h : ty = 9
    · subst h
      have e : (decide ((9 : Int) = 9) && decide (st = fs)) = (st == fs) := by by_cases h : st = fs <;> simp [h]
      rw [e]
      clear e
      go_enter Tryz.func39, Tryz.ntmps39
      go_wp2_with fail
      refine wp_region_more (by kernel_rfl) (by kernel_rfl) ?_
      repeat (go_big_quiet_step (first | fail))
      refine wpQuiet_nil ?_
      intro w' hw'
      obtain ⟨j, rfl⟩ := hw'
      go_wp2_with fail
      go_ret
      exact ⟨rfl, Below.junk bel⟩
    · have b9 : (ty == 9) = false := by simpa using h
      rw [decide_eq_false h, Bool.false_and]
      go_enter Tryz.func39, Tryz.ntmps39
      go_wp2_with fail
      refine wp_region_more (by kernel_rfl) (by kernel_rfl) ?_
      repeat (go_big_quiet_step (first | fail))
      refine wpQuiet_nil ?_
      intro w' hw'
      obtain ⟨j, rfl⟩ := hw'
      go_wp2_with fail
      go_ret
      exact ⟨rfl, Below.junk bel⟩
end Go.Proofs.YtfloijkagfabpaaGreatDoor
/-
  The first frame of a side is a ping: it is looked at.
-/
namespace Go.Proofs.YtfloijkagfabpaaGreatDoor
set_option linter.unusedSimpArgs false
set_option linter.unusedVariables false
set_option linter.unusedSectionVars false
open Go.ChangeShapes Go.WideShapes Go.ChangeAt Go.RowKit Go.Deep Go.Shelf

abbrev LookT : TypeId := 116
/-- The cells of a look at a raw frame, which was parsed, and whose block was not read. -/
abbrev lookA (fr ty fl st : Int) (rs : Bool) (a : Option Addr) (n k : Nat) (ty' fl' st' pad : Int) (da : Option Addr) (dn dc : Nat) (sa : Option Addr) (sn sc : Nat) (wt pa : Int) (al : Bool) (pr la co sp : Int) (w1 w2 : Int) (od : Bool) : Array Value :=
  #[.int .i64 fr, .int .i64 ty, .int .i64 fl, .int .i64 st, .bool rs, .slice a n k, .int .i64 ty', .int .i64 fl', .int .i64 st', .int .i64 pad, .slice da dn dc, .slice sa sn sc, .int .i64 wt, .int .i64 pa, .bool al, .int .i64 pr, .int .i64 la, .int .i64 co, .int .i64 sp,
    .int .i64 w1, .int .i64 w2, .bool od, .bool false, .bool false, .int .i64 0, .int .i64 0, .int .i64 0, .int .i64 0, .slice none 0 0, .slice none 0 0, .int .i64 0, .int .i64 0, .bool false, .int .i64 0, .int .i64 0, .int .i64 0, .int .i64 0,
    .slice none 0 0, .slice none 0 0, .bool false, .bool false, .bool false, .bool false, .bool false]
/-- A part of a look's cells that matter to a frame that may not be the first. -/
structure FirstL (w : World) (c x : Nat) (fr ty fl st : Int) (rs : Bool) (a : Option Addr) (n k : Nat) : Prop where
  hx : x < w.heap.size
  c0 : w.cell? ⟨x, 0, none⟩ = some (.int .i64 fr)
  c1 : w.cell? ⟨x, 1, none⟩ = some (.int .i64 ty)
  c2 : w.cell? ⟨x, 2, none⟩ = some (.int .i64 fl)
  c3 : w.cell? ⟨x, 3, none⟩ = some (.int .i64 st)
  c4 : w.cell? ⟨x, 4, none⟩ = some (.bool rs)
  c5 : w.cell? ⟨x, 5, none⟩ = some (.slice a n k)
  hc : c < w.heap.size
  cf : w.cell? ⟨c, 19, none⟩ = some (.bool false)
set_option maxHeartbeats 4000000 in
set_option maxRecDepth 100000 in
theorem core_read_first (c x : Nat) (ty fl st : Int) (rs : Bool) (a : Option Addr) (n k : Nat) (h4 : ¬ ty = 4) (w : World) (h : FirstL w c x 1 ty fl st rs a n k)
    (h19 : w.cell? ⟨x, 19, none⟩ = some (.int .i64 0)) (h20 : w.cell? ⟨x, 20, none⟩ = some (.int .i64 0)) (h21 : w.cell? ⟨x, 21, none⟩ = some (.bool true)) :
    Calls Tryz.prog 40 #[ptr c, ptr x] w fun e w' => e = .returned (.tuple #[]) ∧ ∃ j, w' = w.more j := by
  have HO : Hid (∀ W, Calls Tryz.prog 81 #[rawV 1 ty fl st rs a n k] W fun e w' => e = .returned (.bool false) ∧ ∃ j, w' = W.more j) := core_opens_not 1 ty fl st rs a n k h4
  obtain ⟨hx, c0, c1, c2, c3, c4, c5, hc, cf⟩ := h
  clear h4
  go_enter Tryz.func40, Tryz.ntmps40
  go_wp2_with fail
  refine wp_region_more (by kernel_rfl) (by kernel_rfl) ?_
  repeat (go_big_quiet_step (first | fail))
  refine wpQuiet_nil ?_
  intro w' hw'
  obtain ⟨j, rfl⟩ := hw'
  go_wp2_with (go_at_call 81; (with_reducible refine (HO.out _).mono ?_); rintro e w' ⟨rfl, j, rfl⟩)
  refine bodyPost_ret (results_none rfl _ _ _) rfl ⟨rfl, Below.junk bel⟩
/-- A frame that may not be the first: asked. -/
theorem ruled_1 : ruledF 1 = (3, 1) := rfl
set_option maxHeartbeats 4000000 in
set_option maxRecDepth 100000 in
theorem core_means_first (c x : Nat) (ty fl st : Int) (rs : Bool) (a : Option Addr) (n k : Nat) (h4 : ¬ ty = 4) (hp : ¬ ty = -1) (v0 v1 v2 v3 v4 v5 : Int) (kp : Bool) (w : World) (h : FirstL w c x 1 ty fl st rs a n k) :
    Calls Tryz.prog 42 #[ptr c, ptr x, .agg #[.int .i64 v0, .int .i64 v1, .int .i64 v2, .int .i64 v3, .int .i64 v4, .int .i64 v5], .bool kp] w fun e w' => e = .returned (.tuple #[.int .i64 3, .int .i64 1]) ∧ ∃ j, w' = w.more j := by
  have HO : Hid (∀ W, Calls Tryz.prog 81 #[rawV 1 ty fl st rs a n k] W fun e w' => e = .returned (.bool false) ∧ ∃ j, w' = W.more j) := core_opens_not 1 ty fl st rs a n k h4
  have HB : Hid (∀ W, Calls Tryz.prog 86 #[.int .i64 1] W fun e w' => e = .returned (.tuple #[.int .i64 3, .int .i64 1]) ∧ W = w') := core_broken 1
  obtain ⟨hx, c0, c1, c2, c3, c4, c5, hc, cf⟩ := h
  have hp2 : (ty == -1) = false := by simpa using hp
  clear h4
  go_enter Tryz.func42, Tryz.ntmps42
  go_wp2_with fail
  refine wp_region_more (by kernel_rfl) (by kernel_rfl) ?_
  repeat (go_big_quiet_step (first | (go_at_call 81; exact more_of (HO.out _))))
  refine wpQuiet_nil ?_
  intro w' hw'
  obtain ⟨j, rfl⟩ := hw'
  go_wp2_with (go_at_call 86; (with_reducible refine (HB.out _).mono ?_); rintro e w' ⟨rfl, rfl⟩)
  go_ret2
  exact ⟨rfl, Below.junk bel⟩
set_option maxHeartbeats 4000000 in
set_option maxRecDepth 100000 in
theorem core_Ask_first (c x : Nat) (ty fl st : Int) (rs : Bool) (a : Option Addr) (n k : Nat) (h4 : ¬ ty = 4) (hp : ¬ ty = -1) (v0 v1 v2 v3 v4 v5 : Int) (kp : Bool) (w : World) (h : FirstL w c x 1 ty fl st rs a n k)
    (hn : w.cell? ⟨c, 32, none⟩ = some (ptr x)) (hs : w.cell? ⟨x, 43, none⟩ = some (.bool false)) (hf : w.frozen? ⟨x, 43, none⟩ = false) :
    Calls Tryz.prog 15 #[ptr c, .agg #[.int .i64 v0, .int .i64 v1, .int .i64 v2, .int .i64 v3, .int .i64 v4, .int .i64 v5], .bool kp] w fun e w' => e = .returned (.tuple #[.int .i64 3, .int .i64 1]) ∧ Gp (fun q => q = x) w w' := by
  have HL : Hid (∀ W, Below w.heap.size w W → Calls Tryz.prog 41 #[ptr c] W fun e w' => e = .returned (ptr x) ∧ W = w') := fun W hW => core_looked c (ptr x) W ((hW.cell (p := ⟨c, 32, none⟩) h.hc).trans hn)
  have HM : Hid (∀ W, Below w.heap.size w W → Calls Tryz.prog 42 #[ptr c, ptr x, .agg #[.int .i64 v0, .int .i64 v1, .int .i64 v2, .int .i64 v3, .int .i64 v4, .int .i64 v5], .bool kp] W fun e w' => e = .returned (.tuple #[.int .i64 3, .int .i64 1]) ∧ ∃ j, w' = W.more j) := fun W hW =>
    core_means_first c x ty fl st rs a n k h4 hp v0 v1 v2 v3 v4 v5 kp W ⟨Nat.lt_of_lt_of_le h.hx hW.size, (hW.cell (p := ⟨x, 0, none⟩) h.hx).trans h.c0, (hW.cell (p := ⟨x, 1, none⟩) h.hx).trans h.c1, (hW.cell (p := ⟨x, 2, none⟩) h.hx).trans h.c2, (hW.cell (p := ⟨x, 3, none⟩) h.hx).trans h.c3, (hW.cell (p := ⟨x, 4, none⟩) h.hx).trans h.c4, (hW.cell (p := ⟨x, 5, none⟩) h.hx).trans h.c5, Nat.lt_of_lt_of_le h.hc hW.size, (hW.cell (p := ⟨c, 19, none⟩) h.hc).trans h.cf⟩
  have hx := h.hx
  clear h hn h4 hp
  go_enter Tryz.func15, Tryz.ntmps15
  go_wp2_with (first | (go_at_call 41; (with_reducible refine (HL.out _ bel).mono ?_); rintro e w' ⟨rfl, rfl⟩) | (go_at_call 42; (with_reducible refine (HM.out _ bel).mono ?_); rintro e w' ⟨rfl, j, rfl⟩))
  go_ret2
  exact ⟨rfl, (Gp.set (p := fun q => q = x) (o := 43) (.bool true) rfl).trans (Gp.of_below (bel (B := (w.setCell ⟨x, 43, none⟩ (.bool true)).heap.size)))⟩
end Go.Proofs.YtfloijkagfabpaaGreatDoor
