/-
  Parts of the proof, one behind the other: contracts of the program and plain laws; no condition of their own.
-/
import Derived.Test.YtjhhdgmhocpceaaGreatDoorFrmE
import Derived.Test.YtjhhdgmhocpceaaGreatDoorFrmD
import Derived.Test.YtjhhdgmhocpceaaGreatDoorMb
import Derived.Test.YtjhhdgmhocpceaaGreatDoorMc
import Derived.Test.YtjhhdgmhocpceaaGreatDoorMa
import Derived.Laws.Tables
import Derived.Test.YtjhhdgmhocpceaaGreatDoorBase
/-
  Parsing a frame: the program's, whole.
-/
namespace Go.Proofs.YtjhhdgmhocpceaaGreatDoor
set_option linter.unusedSimpArgs false
set_option linter.unusedVariables false
set_option linter.unusedSectionVars false
open Go.ChangeShapes Go.WideShapes Go.ChangeAt Go.RowKit Go.Deep Go.Shelf

abbrev HdT : TypeId := 79
theorem st_Hd7 : StructTy Tryz.prog HdT 5 := ⟨_, Tryz.underlying79, rfl, by kernel_rfl⟩
set_option maxRecDepth 100000 in
theorem head_Of (fr ty fl st : Int) (rs : Bool) (a : Option Addr) (n c : Nat) (w : World) : Calls Tryz.prog 47 #[rawV fr ty fl st rs a n c] w fun e w' => e = .returned (.agg #[.int .i64 n, .int .i64 ty, .int .i64 fl, .int .i64 st, .bool rs]) ∧ ∃ j, w' = w.more j := by
  go_enter Tryz.func47, Tryz.ntmps47
  go_wp2_with fail
  refine bodyPost_ret (res_cell rfl st_Hd7 rfl blk rfl) rfl ⟨rfl, Below.junk bel⟩
theorem headR_iff {ln ty fl st : Int} : headR ln ty fl st = true ↔ (0 ≤ ln ∧ ln ≤ 16777215) ∧ (0 ≤ ty ∧ ty ≤ 255) ∧ (0 ≤ fl ∧ fl ≤ 255) ∧ (0 ≤ st ∧ st ≤ 2147483647) := by
  unfold headR
  simp only [Bool.and_eq_true, inB_iff]
/-- What a frame says: the frame, its fault, and whether it is a frame at all. -/
def parseF (ty fl st : Int) (l : List UInt8) : (Fm × (Int × Int)) × Int :=
  if headR l.length ty fl st = false then ((zFm, (0, 0)), 1) else if strOk ty st = false then ((zFm, (2, 1)), 0) else if lenOk ty fl l.length = false then ((zFm, (if ty = 0 ∨ ty = 2 then 1 else 2, 6)), 0) else (insF ty fl st l, 0)
def ParP (p : (Fm × (Int × Int)) × Int) (w : World) (e : Ending) (w' : World) : Prop := ∃ cs, e = .returned (.tuple #[.agg cs, fuV p.1.2, .int .i64 p.2]) ∧ FmIs w' w.heap.size p.1.1 cs ∧ Below w.heap.size w w'
set_option maxHeartbeats 8000000 in
set_option maxRecDepth 100000 in
theorem frame_Parse (fr ty fl st : Int) (rs : Bool) (a : Option Addr) (c : Nat) (l : List UInt8) (hl : l.length ≤ 1048576) (w : World) (h : SlB w w.heap.size a l) :
    Calls Tryz.prog 30 #[rawV fr ty fl st rs a l.length c] w (ParP (parseF ty fl st l) w) := by
  have HS := Lib.hid h
  have HO : Hid (∀ W, Calls Tryz.prog 47 #[rawV fr ty fl st rs a l.length c] W fun e w' => e = .returned (.agg #[.int .i64 (l.length : Nat), .int .i64 ty, .int .i64 fl, .int .i64 st, .bool rs]) ∧ ∃ j, w' = W.more j) := head_Of fr ty fl st rs a l.length c
  have HH : Hid (∀ W, Calls Tryz.prog 46 #[.agg #[.int .i64 (l.length : Nat), .int .i64 ty, .int .i64 fl, .int .i64 st, .bool rs]] W fun e w' => e = .returned (.bool (headR l.length ty fl st)) ∧ ∃ j, w' = W.more j) := head_Right l.length ty fl st rs
  have HT : Hid (∀ W, Calls Tryz.prog 48 #[rawV fr ty fl st rs a l.length c] W fun e w' => e = .returned (.bool (strOk ty st)) ∧ ∃ j, w' = W.more j) := frame_streamed fr ty fl st rs a l.length c
  have HSC : Hid (∀ W, Calls Tryz.prog 51 #[.int .i64 ty] W fun e w' => e = .returned (.int .i64 (if ty = 0 ∨ ty = 2 then 1 else 2)) ∧ W = w') := frame_scope ty
  have HFU : Hid (∀ s c W, Calls Tryz.prog 49 #[.int .i64 s, .int .i64 c] W fun e w' => e = .returned (.agg #[.int .i64 s, .int .i64 c]) ∧ ∃ j, w' = W.more j) := frame_fault
  obtain ⟨R, hR⟩ : ∃ R, R = parseF ty fl st l := ⟨_, rfl⟩
  rw [← hR]
  unfold parseF at hR
  by_cases hh : headR l.length ty fl st = true
  case neg =>
    have hh2 : headR l.length ty fl st = false := by simpa using hh
    rw [if_pos hh2] at hR
    rw [hh2] at HH
    have HR := Lib.hid hR
    clear hR hh hh2 h
    go_enter Tryz.func30, Tryz.ntmps30
    go_wp2_with (first | (go_at_call 47; (with_reducible refine (HO.out _).mono ?_); rintro e w' ⟨rfl, j, rfl⟩) | (go_at_call 46; (with_reducible refine (HH.out _).mono ?_); rintro e w' ⟨rfl, j, rfl⟩))
    refine bodyPost_ret (res_cell_cell_tmp rfl st_Fm rfl blk rfl st_Fu rfl blk rfl rfl) rfl ⟨_, by rw [HR.out]; rfl, by rw [HR.out]; exact zFm_is _ _, bel⟩
  have hfl : 0 ≤ fl ∧ fl ≤ 255 := by rw [headR_iff] at hh; exact hh.2.2.1
  have HZ : Hid (∀ W, Calls Tryz.prog 50 #[rawV fr ty fl st rs a l.length c] W fun e w' => e = .returned (.bool (lenOk ty fl l.length)) ∧ ∃ j, w' = W.more j) := frame_sized fr ty fl st rs a l.length c hfl.1 hfl.2
  have HI : Hid (lenOk ty fl l.length = true → ∀ W, Below w.heap.size w W → Calls Tryz.prog 52 #[rawV fr ty fl st rs a l.length c] W (InsP (insF ty fl st l) W)) := fun hlen W hW => frame_inside fr ty fl st rs a c l hfl.1 hfl.2 hlen hl W (HS.out.grow hW)
  rw [hh] at HH
  rw [if_neg (by simp [hh])] at hR
  obtain ⟨sc, hsc⟩ : ∃ sc : Int, sc = if ty = 0 ∨ ty = 2 then 1 else 2 := ⟨_, rfl⟩
  rw [← hsc] at HSC hR
  generalize strOk ty st = S at HT hR
  generalize lenOk ty fl l.length = L at HZ hR HI
  clear hsc hh h hfl
  cases S
  · have HR : Hid (R = ((zFm, (2, 1)), 0)) := hR
    clear hR
    go_enter Tryz.func30, Tryz.ntmps30
    go_wp2_with (first | (go_at_call 47; (with_reducible refine (HO.out _).mono ?_); rintro e w' ⟨rfl, j, rfl⟩) | (go_at_call 46; (with_reducible refine (HH.out _).mono ?_); rintro e w' ⟨rfl, j, rfl⟩) | (go_at_call 48; (with_reducible refine (HT.out _).mono ?_); rintro e w' ⟨rfl, j, rfl⟩) | (go_at_call 49; (with_reducible refine (HFU.out _ _ _).mono ?_); rintro e w' ⟨rfl, j, rfl⟩))
    refine bodyPost_ret (res_cell_cell_tmp rfl st_Fm rfl blk rfl st_Fu rfl blk rfl rfl) rfl ⟨_, by rw [HR.out]; rfl, by rw [HR.out]; exact zFm_is _ _, bel⟩
  cases L
  · have HR : Hid (R = ((zFm, (sc, 6)), 0)) := hR
    clear hR
    go_enter Tryz.func30, Tryz.ntmps30
    go_wp2_with (first | (go_at_call 47; (with_reducible refine (HO.out _).mono ?_); rintro e w' ⟨rfl, j, rfl⟩) | (go_at_call 46; (with_reducible refine (HH.out _).mono ?_); rintro e w' ⟨rfl, j, rfl⟩) | (go_at_call 48; (with_reducible refine (HT.out _).mono ?_); rintro e w' ⟨rfl, j, rfl⟩) | (go_at_call 50; (with_reducible refine (HZ.out _).mono ?_); rintro e w' ⟨rfl, j, rfl⟩) | (go_at_call 51; (with_reducible refine (HSC.out _).mono ?_); rintro e w' ⟨rfl, rfl⟩) | (go_at_call 49; (with_reducible refine (HFU.out _ _ _).mono ?_); rintro e w' ⟨rfl, j, rfl⟩))
    refine bodyPost_ret (res_cell_cell_tmp rfl st_Fm rfl blk rfl st_Fu rfl blk rfl rfl) rfl ⟨_, by rw [HR.out]; rfl, by rw [HR.out]; exact zFm_is _ _, bel⟩
  have HR : Hid (R = (insF ty fl st l, 0)) := hR
  have HI2 := Lib.hid (HI.out rfl)
  obtain ⟨J, hJ⟩ : ∃ J, J = insF ty fl st l := ⟨_, rfl⟩
  rw [← hJ] at HR HI2
  clear hR HI hJ
  go_enter Tryz.func30, Tryz.ntmps30
  go_wp2_with (first | (go_at_call 47; (with_reducible refine (HO.out _).mono ?_); rintro e w' ⟨rfl, j, rfl⟩) | (go_at_call 46; (with_reducible refine (HH.out _).mono ?_); rintro e w' ⟨rfl, j, rfl⟩) | (go_at_call 48; (with_reducible refine (HT.out _).mono ?_); rintro e w' ⟨rfl, j, rfl⟩) | (go_at_call 50; (with_reducible refine (HZ.out _).mono ?_); rintro e w' ⟨rfl, j, rfl⟩))
  refine (HI2.out _ bel).mono ?_
  rintro e w1 ⟨cs, rfl, hf, hb⟩
  obtain ⟨da, dc, sa, sc2, rfl, hf2, hf3, hf4, hf5, hf6, hf7⟩ := hf
  have HF2 := Lib.hid hf2
  have HF3 := Lib.hid hf3
  have HF5 := Lib.hid hf5
  have HF6 := Lib.hid hf6
  have HN : Hid ((∀ p, da = some p → w.heap.size + 3 ≤ p.block) ∧ ∀ p, sa = some p → w.heap.size + 3 ≤ p.block) := ⟨fun p hp => by have := hf4 p hp; simp at this; omega, fun p hp => by have := hf7 p hp; simp at this; omega⟩
  have HB1 : Hid (Below w.heap.size w w1) := Below.trans (B := w.heap.size) bel (hb.mono (by simp; omega))
  have HK1 : Hid (Blk w1 (w.heap.size + 1) FrmT (fmC 0 0 0 0 none 0 0 none 0 0 0 0 false 0 0 0 0)) := Blk.below (B := w.heap.size + 3) blk (hb.mono (by simp)) (by omega)
  have HK2 : Hid (Blk w1 (w.heap.size + 2) FuT #[.int .i64 0, .int .i64 0]) := Blk.below (B := w.heap.size + 3) blk (hb.mono (by simp)) (by omega)
  obtain ⟨⟨ty', fl', st', pad, data, sets, wt, pa, al, pr, la, co, sp⟩, fs, fc⟩ := J
  clear hf2 hf3 hf4 hf5 hf6 hf7 hb
  have hz1 := HK2.out.lt
  go_wp2_with fail
  refine gg_start (Gp (fun q => q = w.heap.size + 1 ∨ q = w.heap.size + 2)) (fun _ => Gp.refl _) (h := ?_)
  obtain ⟨wd, hwd⟩ : ∃ wd, wd = ((w1.alloc (.cells (fmC ty' fl' st' pad da data.length dc sa sets.length sc2 wt pa al pr la co sp) FrmT)).alloc (.cells #[.int .i64 fs, .int .i64 fc] FuT)).drew := ⟨_, rfl⟩
  rw [← hwd]
  have HD : Hid (Below w1.heap.size w1 wd) := by show Below _ _ _; rw [hwd]; exact bel
  have HKA : Hid (Blk wd w1.heap.size FrmT (fmC ty' fl' st' pad da data.length dc sa sets.length sc2 wt pa al pr la co sp)) := by show Blk _ _ _ _; rw [hwd]; exact blk
  have HKB : Hid (Blk wd (w1.heap.size + 1) FuT #[.int .i64 fs, .int .i64 fc]) := by show Blk _ _ _ _; rw [hwd]; exact blk
  clear hwd
  refine tkl 0 (fun wS h => h.blk HKA.out (by omega)) Tryz.underlying53 ?_
  refine tkl 1 (fun wS h => h.blk HKB.out (by omega)) Tryz.underlying38 ?_
  refine gg_step (fun _ _ _ h h2 => h.trans h2) 2 (by kernel_rfl) rfl (fun K hK => ?_)
  rw [if_pos (by kernel_rfl)]
  refine wp_store_row FrmT _ _ rfl (w.heap.size + 1) _ rfl rfl FrmT _ (HK1.out.below HD.out HK1.out.lt) (by kernel_rfl) rfl fm_one (hK.out _ _ ((gp_row _ _ _).imp fun _ e => .inl e) ?_)
  clear hK K
  try simp only [Act.put, nfa, nfb, nfc, nfd, List.set_cons_zero, List.set_cons_succ]
  refine gg_step (fun _ _ _ h h2 => h.trans h2) 3 (by kernel_rfl) rfl (fun K hK => ?_)
  rw [if_pos (by kernel_rfl)]
  refine wp_store_row FuT _ _ rfl (w.heap.size + 2) _ rfl rfl FuT _ ((gp_row _ _ _).blk (HK2.out.below HD.out HK2.out.lt) (by omega)) (by kernel_rfl) rfl fu_one (hK.out _ _ ((gp_row _ _ _).imp fun _ e => .inr e) ?_)
  clear hK K
  try simp only [Act.put, nfa, nfb, nfc, nfd, List.set_cons_zero, List.set_cons_succ]
  refine tk 4 ?_
  refine wpAnyH_done (by kernel_rfl) ?_ _
  go_wp2_with fail
  refine bodyPost_ret (res_cell_cell_tmp rfl st_Fm rfl ((gp_row _ (w.heap.size + 2) _).blk (blk_row (HK1.out.below HD.out HK1.out.lt) _) (by omega)) rfl st_Fu rfl (blk_row ((gp_row _ (w.heap.size + 1) _).blk (HK2.out.below HD.out HK2.out.lt) (by omega)) _) rfl rfl) rfl ⟨_, by rw [HR.out]; rfl, ?_, below_row (below_row (HB1.out.trans (HD.out.mono HB1.out.size)) (by omega) _) (by omega) _⟩
  rw [HR.out]
  have hgg : Gp (fun q => q ≤ w.heap.size + 2) wd _ := ((gp_row wd (w.heap.size + 1) (fmC ty' fl' st' pad da data.length dc sa sets.length sc2 wt pa al pr la co sp)).imp (fun k hk => by omega)).trans ((gp_row _ (w.heap.size + 2) #[.int .i64 fs, .int .i64 fc]).imp (fun k hk => by omega))
  exact ⟨da, dc, sa, sc2, rfl, SlR.gpN (N := w.heap.size + 3) (HF2.out.grow HD.out) HN.out.1 (fun k hk => by omega) hgg, HF3.out, fun p hp => by have := HN.out.1 p hp; omega, SlR.gpN (N := w.heap.size + 3) (HF5.out.grow' HD.out) HN.out.2 (fun k hk => by omega) hgg, HF6.out, fun p hp => by have := HN.out.2 p hp; omega⟩
end Go.Proofs.YtjhhdgmhocpceaaGreatDoor
/-
  Texts looked for in a row of texts: slices.Index, and the words of a text.
-/
namespace Go.Proofs.YtjhhdgmhocpceaaGreatDoor
set_option linter.unusedSimpArgs false
set_option linter.unusedVariables false
set_option linter.unusedSectionVars false
open Go.ChangeShapes Go.WideShapes Go.ChangeAt Go.RowKit Go.Deep Go.Shelf

def seekX (s : List UInt8) : List (List UInt8) → Nat → Int
  | [], _ => -1
  | x :: r, k => if x = s then (k : Int) else seekX s r (k + 1)
/-- Where a text is first found among some; -1: nowhere. -/
def idxX (l : List (List UInt8)) (s : List UInt8) : Int := seekX s l 0
theorem seekX_lo (s : List UInt8) : ∀ (l : List (List UInt8)) (k : Nat), seekX s l k = -1 ∨ ((k : Int) ≤ seekX s l k ∧ seekX s l k < k + l.length)
  | [], k => .inl rfl
  | x :: r, k => by
    unfold seekX
    split
    · exact .inr ⟨Int.le_refl _, by simp; omega⟩
    · rcases seekX_lo s r (k + 1) with h | h
      · exact .inl h
      · exact .inr ⟨by omega, by simp only [List.length_cons]; omega⟩
theorem seekX_none (s : List UInt8) : ∀ (l : List (List UInt8)) (k : Nat), (∀ x ∈ l, x ≠ s) → seekX s l k = -1
  | [], k, _ => rfl
  | x :: r, k, h => by
    unfold seekX
    rw [if_neg (h x (by simp)), seekX_none s r (k + 1) (fun y hy => h y (by simp [hy]))]
theorem seekX_hit (s : List UInt8) : ∀ (l : List (List UInt8)) (k i : Nat) (hi : i < l.length), l[i] = s → (∀ j (hj : j < l.length), j < i → l[j] ≠ s) → seekX s l k = ((k + i : Nat) : Int)
  | [], k, i, hi, _, _ => by simp at hi
  | x :: r, k, 0, hi, he, _ => by
    unfold seekX
    rw [if_pos (by simpa using he)]; rfl
  | x :: r, k, i + 1, hi, he, hn => by
    unfold seekX
    rw [if_neg (show ¬ x = s from hn 0 (by simp) (by omega))]
    rw [seekX_hit s r (k + 1) i (by simpa using hi) (show r[i]'(by simpa using hi) = s from he) (fun j hj hji => hn (j + 1) (by simp; omega) (by omega))]
    congr 1; omega

theorem seekX_at (s : List UInt8) : ∀ (l : List (List UInt8)) (k i : Nat), seekX s l k = ((k + i : Nat) : Int) → ∃ h : i < l.length, l[i] = s
  | [], k, i, h => by simp only [seekX] at h; omega
  | x :: r, k, i, h => by
    unfold seekX at h
    by_cases hx : x = s
    · rw [if_pos hx] at h
      obtain rfl : i = 0 := by omega
      exact ⟨by simp, hx⟩
    · rw [if_neg hx] at h
      have hlo := seekX_lo s r (k + 1)
      cases i with
      | zero => omega
      | succ i =>
        obtain ⟨h1, h2⟩ := seekX_at s r (k + 1) i (by rw [h]; congr 1; omega)
        exact ⟨by simp; omega, h2⟩
/-- The words of a text: what strings.Split hands back, and how it lies. -/
theorem split_words (t : List UInt8) (c : UInt8) (l : List (List UInt8)) (ht : cutF c t = l) (m : Int) (w : World) (hm : t.length ≤ 1048576) (hM : w.cell? ⟨0, 0, none⟩ = some (.int .i64 m)) :
    Calls Tryz.prog 55 #[bstr t, bstr [c]] w fun e w' => e = .returned (.slice (some ⟨w.heap.size, 0, none⟩) l.length l.length) ∧ ∃ j, w' = w.more j ∧ SlX w' w'.heap.size (some ⟨w.heap.size, 0, none⟩) l := by
  have h1 := strings_split t c m w hm hM
  have h2 := split_slX t c w hm
  rw [split_cut, ht] at h1 h2
  refine h1.mono fun e w' ⟨he, hw⟩ => ⟨he, ?_⟩
  subst hw
  obtain ⟨j, hj⟩ : ∃ j, w.alloc (.cells (l.map bstr).toArray 9) = w.more j := Below.junk bel
  exact ⟨j, hj, by rw [World.size_alloc]; exact h2⟩
end Go.Proofs.YtjhhdgmhocpceaaGreatDoor
/-
  Rules: their names, their sections, and what they ask.
-/
namespace Go.Proofs.YtjhhdgmhocpceaaGreatDoor
set_option linter.unusedSimpArgs false
set_option linter.unusedVariables false
set_option linter.unusedSectionVars false
open Go.ChangeShapes Go.WideShapes Go.ChangeAt Go.RowKit Go.Deep Go.Shelf

def rulT : List UInt8 := [102, 105, 114, 115, 116, 32, 112, 114, 101, 102, 97, 99, 101, 32, 115, 105, 122, 101, 32, 111, 114, 100, 101, 114, 32, 102, 111, 114, 109, 32, 118, 97, 108, 117, 101, 32, 97, 99, 107, 32, 115, 112, 114, 101, 97, 100, 32, 97, 119, 97, 121, 32, 105, 100, 108, 101, 32, 110, 117, 109, 98, 101, 114, 32, 114, 101, 115, 101, 114, 118, 101, 100, 32, 101, 110, 100, 101, 100, 32, 99, 108, 111, 115, 101, 100, 32, 114, 101, 115, 101, 116, 32, 102, 111, 114, 103, 111, 116, 116, 101, 110, 32, 115, 116, 101, 112, 32, 119, 105, 110, 100, 111, 119, 32, 99, 111, 110, 110, 32, 115, 116, 114, 101, 97, 109, 32, 112, 117, 115, 104, 32, 112, 114, 111, 109, 105, 115, 101, 32, 112, 114, 111, 109, 105, 115, 101, 100, 32, 109, 97, 110, 121, 32, 116, 97, 98, 108, 101, 32, 117, 112, 100, 97, 116, 101, 32, 109, 105, 115, 115, 105, 110, 103, 32, 102, 105, 101, 108, 100, 32, 98, 97, 114, 114, 101, 100, 32, 112, 115, 101, 117, 100, 111, 32, 108, 101, 110, 103, 116, 104, 32, 98, 111, 100, 121, 32, 116, 114, 97, 105, 108, 101, 114, 32, 115, 97, 102, 101, 32, 99, 108, 105, 101, 110, 116]
def rulW : List (List UInt8) := [[102, 105, 114, 115, 116], [112, 114, 101, 102, 97, 99, 101], [115, 105, 122, 101], [111, 114, 100, 101, 114], [102, 111, 114, 109], [118, 97, 108, 117, 101], [97, 99, 107], [115, 112, 114, 101, 97, 100], [97, 119, 97, 121], [105, 100, 108, 101], [110, 117, 109, 98, 101, 114], [114, 101, 115, 101, 114, 118, 101, 100], [101, 110, 100, 101, 100], [99, 108, 111, 115, 101, 100], [114, 101, 115, 101, 116], [102, 111, 114, 103, 111, 116, 116, 101, 110], [115, 116, 101, 112], [119, 105, 110, 100, 111, 119], [99, 111, 110, 110], [115, 116, 114, 101, 97, 109], [112, 117, 115, 104], [112, 114, 111, 109, 105, 115, 101], [112, 114, 111, 109, 105, 115, 101, 100], [109, 97, 110, 121], [116, 97, 98, 108, 101], [117, 112, 100, 97, 116, 101], [109, 105, 115, 115, 105, 110, 103], [102, 105, 101, 108, 100], [98, 97, 114, 114, 101, 100], [112, 115, 101, 117, 100, 111], [108, 101, 110, 103, 116, 104], [98, 111, 100, 121], [116, 114, 97, 105, 108, 101, 114], [115, 97, 102, 101], [99, 108, 105, 101, 110, 116]]
def secT : List UInt8 := [51, 46, 52, 32, 51, 46, 52, 32, 52, 46, 50, 32, 54, 46, 49, 48, 32, 54, 32, 54, 46, 53, 46, 50, 32, 54, 46, 53, 46, 51, 32, 54, 46, 57, 46, 50, 32, 54, 46, 56, 32, 53, 46, 49, 32, 53, 46, 49, 46, 49, 32, 53, 46, 49, 32, 53, 46, 49, 32, 53, 46, 49, 32, 53, 46, 49, 32, 53, 46, 49, 32, 54, 46, 57, 32, 54, 46, 57, 46, 49, 32, 54, 46, 57, 46, 49, 32, 54, 46, 57, 46, 49, 32, 54, 46, 54, 32, 54, 46, 54, 32, 53, 46, 49, 46, 49, 32, 53, 46, 49, 46, 50, 32, 52, 46, 51, 32, 52, 46, 51, 46, 49, 32, 52, 46, 51, 46, 49, 32, 56, 46, 50, 46, 49, 32, 56, 46, 50, 46, 50, 32, 56, 46, 51, 32, 56, 46, 49, 46, 49, 32, 56, 46, 49, 32, 56, 46, 49, 32, 56, 46, 52, 32, 56, 46, 52]
def secW : List (List UInt8) := [[51, 46, 52], [51, 46, 52], [52, 46, 50], [54, 46, 49, 48], [54], [54, 46, 53, 46, 50], [54, 46, 53, 46, 51], [54, 46, 57, 46, 50], [54, 46, 56], [53, 46, 49], [53, 46, 49, 46, 49], [53, 46, 49], [53, 46, 49], [53, 46, 49], [53, 46, 49], [53, 46, 49], [54, 46, 57], [54, 46, 57, 46, 49], [54, 46, 57, 46, 49], [54, 46, 57, 46, 49], [54, 46, 54], [54, 46, 54], [53, 46, 49, 46, 49], [53, 46, 49, 46, 50], [52, 46, 51], [52, 46, 51, 46, 49], [52, 46, 51, 46, 49], [56, 46, 50, 46, 49], [56, 46, 50, 46, 50], [56, 46, 51], [56, 46, 49, 46, 49], [56, 46, 49], [56, 46, 49], [56, 46, 52], [56, 46, 52]]
def askW : List (List UInt8) := [[116, 104, 101, 32, 102, 105, 114, 115, 116, 32, 102, 114, 97, 109, 101, 32, 111, 102, 32, 101, 97, 99, 104, 32, 115, 105, 100, 101, 32, 105, 115, 32, 83, 69, 84, 84, 73, 78, 71, 83, 32, 119, 105, 116, 104, 111, 117, 116, 32, 65, 67, 75], [116, 104, 101, 32, 99, 108, 105, 101, 110, 116, 39, 115, 32, 102, 105, 114, 115, 116, 32, 50, 52, 32, 98, 121, 116, 101, 115, 32, 97, 114, 101, 32, 116, 104, 101, 32, 112, 114, 101, 102, 97, 99, 101], [97, 32, 102, 114, 97, 109, 101, 32, 105, 115, 32, 110, 111, 116, 32, 108, 111, 110, 103, 101, 114, 32, 116, 104, 97, 110, 32, 105, 116, 115, 32, 114, 101, 99, 101, 105, 118, 101, 114, 32, 108, 101, 116, 115], [110, 111, 116, 104, 105, 110, 103, 32, 115, 116, 97, 110, 100, 115, 32, 98, 101, 116, 119, 101, 101, 110, 32, 116, 104, 101, 32, 112, 97, 114, 116, 115, 32, 111, 102, 32, 97, 32, 102, 105, 101, 108, 100, 32, 98, 108, 111, 99, 107], [97, 32, 102, 114, 97, 109, 101, 32, 105, 115, 32, 114, 105, 103, 104, 116, 32, 105, 110, 32, 105, 116, 115, 101, 108, 102], [115, 101, 116, 116, 105, 110, 103, 115, 32, 104, 97, 118, 101, 32, 118, 97, 108, 117, 101, 115, 32, 116, 104, 97, 116, 32, 109, 97, 121, 32, 98, 101], [119, 104, 97, 116, 32, 105, 115, 32, 97, 99, 107, 110, 111, 119, 108, 101, 100, 103, 101, 100, 32, 119, 97, 115, 32, 115, 101, 110, 116], [115, 101, 116, 116, 105, 110, 103, 115, 32, 109, 97, 107, 101, 32, 110, 111, 32, 119, 105, 110, 100, 111, 119, 32, 116, 111, 111, 32, 108, 97, 114, 103, 101], [116, 104, 101, 32, 108, 97, 115, 116, 32, 115, 116, 114, 101, 97, 109, 32, 111, 102, 32, 71, 79, 65, 87, 65, 89, 32, 100, 111, 101, 115, 32, 110, 111, 116, 32, 114, 105, 115, 101], [110, 111, 116, 104, 105, 110, 103, 32, 105, 115, 32, 115, 101, 110, 116, 32, 111, 110, 32, 97, 32, 115, 116, 114, 101, 97, 109, 32, 116, 104, 97, 116, 32, 119, 97, 115, 32, 110, 111, 116, 32, 98, 101, 103, 117, 110], [110, 101, 119, 32, 115, 116, 114, 101, 97, 109, 115, 32, 104, 97, 118, 101, 32, 110, 117, 109, 98, 101, 114, 115, 32, 116, 104, 97, 116, 32, 114, 105, 115, 101], [108, 105, 116, 116, 108, 101, 32, 105, 115, 32, 115, 101, 110, 116, 32, 111, 110, 32, 97, 32, 115, 116, 114, 101, 97, 109, 32, 116, 104, 97, 116, 32, 119, 97, 115, 32, 112, 114, 111, 109, 105, 115, 101, 100], [110, 111, 116, 104, 105, 110, 103, 32, 109, 111, 114, 101, 32, 105, 115, 32, 115, 101, 110, 116, 32, 98, 121, 32, 119, 104, 111, 32, 104, 97, 115, 32, 101, 110, 100, 101, 100], [110, 111, 116, 104, 105, 110, 103, 32, 105, 115, 32, 115, 101, 110, 116, 32, 111, 110, 32, 97, 32, 115, 116, 114, 101, 97, 109, 32, 116, 104, 97, 116, 32, 98, 111, 116, 104, 32, 104, 97, 118, 101, 32, 101, 110, 100, 101, 100], [110, 111, 116, 104, 105, 110, 103, 32, 105, 115, 32, 115, 101, 110, 116, 32, 111, 110, 32, 97, 32, 115, 116, 114, 101, 97, 109, 32, 98, 121, 32, 119, 104, 111, 32, 104, 97, 115, 32, 114, 101, 115, 101, 116, 32, 105, 116], [110, 111, 116, 104, 105, 110, 103, 32, 105, 115, 32, 115, 101, 110, 116, 32, 111, 110, 32, 97, 32, 115, 116, 114, 101, 97, 109, 32, 116, 104, 97, 116, 32, 119, 97, 115, 32, 102, 111, 114, 103, 111, 116, 116, 101, 110], [97, 32, 119, 105, 110, 100, 111, 119, 32, 103, 114, 111, 119, 115, 32, 98, 121, 32, 111, 110, 101, 32, 97, 116, 32, 108, 101, 97, 115, 116], [97, 32, 119, 105, 110, 100, 111, 119, 32, 100, 111, 101, 115, 32, 110, 111, 116, 32, 98, 101, 99, 111, 109, 101, 32, 116, 111, 111, 32, 108, 97, 114, 103, 101], [100, 97, 116, 97, 32, 115, 116, 97, 121, 32, 119, 105, 116, 104, 105, 110, 32, 116, 104, 101, 32, 99, 111, 110, 110, 101, 99, 116, 105, 111, 110, 39, 115, 32, 119, 105, 110, 100, 111, 119], [100, 97, 116, 97, 32, 115, 116, 97, 121, 32, 119, 105, 116, 104, 105, 110, 32, 116, 104, 101, 32, 115, 116, 114, 101, 97, 109, 39, 115, 32, 119, 105, 110, 100, 111, 119], [110, 111, 116, 104, 105, 110, 103, 32, 105, 115, 32, 112, 114, 111, 109, 105, 115, 101, 100, 32, 116, 111, 32, 119, 104, 111, 32, 100, 111, 101, 115, 32, 110, 111, 116, 32, 119, 97, 110, 116, 32, 105, 116], [112, 114, 111, 109, 105, 115, 101, 115, 32, 97, 114, 101, 32, 109, 97, 100, 101, 32, 111, 110, 32, 97, 32, 115, 116, 114, 101, 97, 109, 32, 111, 102, 32, 116, 104, 101, 32, 99, 108, 105, 101, 110, 116, 39, 115, 32, 116, 104, 97, 116, 32, 105, 115, 32, 111, 112, 101, 110], [112, 114, 111, 109, 105, 115, 101, 100, 32, 115, 116, 114, 101, 97, 109, 115, 32, 104, 97, 118, 101, 32, 110, 117, 109, 98, 101, 114, 115, 32, 116, 104, 97, 116, 32, 114, 105, 115, 101], [110, 111, 116, 32, 116, 111, 111, 32, 109, 97, 110, 121, 32, 115, 116, 114, 101, 97, 109, 115, 32, 97, 114, 101, 32, 111, 112, 101, 110], [97, 32, 102, 105, 101, 108, 100, 32, 98, 108, 111, 99, 107, 32, 99, 97, 110, 32, 98, 101, 32, 114, 101, 97, 100], [97, 32, 116, 97, 98, 108, 101, 32, 105, 115, 32, 110, 111, 116, 32, 116, 111, 111, 32, 108, 97, 114, 103, 101], [97, 32, 116, 97, 98, 108, 101, 32, 116, 104, 97, 116, 32, 109, 117, 115, 116, 32, 98, 101, 99, 111, 109, 101, 32, 115, 109, 97, 108, 108, 101, 114, 32, 100, 111, 101, 115], [110, 97, 109, 101, 115, 32, 97, 110, 100, 32, 118, 97, 108, 117, 101, 115, 32, 104, 97, 118, 101, 32, 98, 121, 116, 101, 115, 32, 116, 104, 97, 116, 32, 109, 97, 121, 32, 98, 101], [110, 111, 32, 102, 105, 101, 108, 100, 32, 105, 115, 32, 111, 110, 101, 32, 111, 102, 32, 116, 104, 101, 32, 99, 111, 110, 110, 101, 99, 116, 105, 111, 110, 39, 115, 32, 111, 119, 110], [116, 104, 101, 32, 112, 115, 101, 117, 100, 111, 45, 102, 105, 101, 108, 100, 115, 32, 97, 114, 101, 32, 116, 104, 111, 115, 101, 32, 116, 104, 97, 116, 32, 109, 117, 115, 116, 32, 98, 101], [100, 97, 116, 97, 32, 104, 97, 118, 101, 32, 116, 104, 101, 32, 108, 101, 110, 103, 116, 104, 32, 116, 104, 97, 116, 32, 119, 97, 115, 32, 116, 111, 108, 100], [100, 97, 116, 97, 32, 115, 116, 97, 110, 100, 32, 119, 104, 101, 114, 101, 32, 116, 104, 101, 121, 32, 109, 97, 121], [102, 105, 101, 108, 100, 115, 32, 98, 101, 104, 105, 110, 100, 32, 100, 97, 116, 97, 32, 101, 110, 100, 32, 116, 104, 101, 32, 115, 116, 114, 101, 97, 109], [119, 104, 97, 116, 32, 105, 115, 32, 112, 114, 111, 109, 105, 115, 101, 100, 32, 105, 115, 32, 97, 115, 107, 101, 100, 32, 98, 121, 32, 71, 69, 84, 32, 111, 114, 32, 72, 69, 65, 68], [99, 108, 105, 101, 110, 116, 115, 32, 112, 114, 111, 109, 105, 115, 101, 32, 110, 111, 116, 104, 105, 110, 103]]
set_option maxRecDepth 100000 in
theorem rul_cut : cutF 32 rulT = rulW := by decide +kernel
set_option maxRecDepth 100000 in
theorem sec_cut : cutF 32 secT = secW := by decide +kernel
/-- The text that stands for a rule in a table; none: the empty text. -/
def tabN (l : List (List UInt8)) (n : Int) : List UInt8 := if n < 1 ∨ 35 < n then [] else l.getD (n - 1).toNat []
theorem tab_at (l : List (List UInt8)) (k : Nat) (h : k < l.length) : l[k] = l.getD k [] := by rw [List.getD_eq_getElem?_getD, List.getElem?_eq_getElem h]; rfl
theorem tab_in (l : List (List UInt8)) (k : Nat) (h : k < 35) : tabN l ((k : Int) + 1) = l.getD k [] := by unfold tabN; rw [if_neg (by omega)]; congr 1; omega
theorem tab_out (l : List (List UInt8)) {n : Int} (h : n < 1 ∨ 35 < n) : tabN l n = [] := by unfold tabN; rw [if_pos h]
theorem rul_two : ∀ i j : Fin 35, rulW.getD i.val [] = rulW.getD j.val [] → i = j := by decide +kernel
theorem rul_ne : ∀ i : Fin 35, rulW.getD i.val [] ≠ [] := by decide +kernel
theorem rul_len : ∀ i : Fin 35, (rulW.getD i.val []).length ≤ 9 ∧ (rulW.getD i.val []).all (fun c => !(c == 44)) = true ∧ rulW.getD i.val [] ≠ [45] := by decide +kernel
theorem SlX_zero {w : World} {B g : Nat} {l : List (List UInt8)} (h : SlX w B (some ⟨g, 0, none⟩) l) {k : Nat} (hk : k < l.length) : g < B ∧ w.cell? ⟨g, k, none⟩ = some (bstr l[k]) := by
  obtain ⟨b, off, e, hb, hc, _⟩ := h.atX hk
  injection e with e
  injection e with e1 e2
  subst e1 e2
  rw [Nat.zero_add] at hc
  exact ⟨hb, hc⟩

set_option maxHeartbeats 4000000 in
set_option maxRecDepth 100000 in
theorem rules_word (t : List UInt8) (l : List (List UInt8)) (ht : t.length ≤ 1048576) (hcut : cutF 32 t = l) (hl : l.length = 35) (n : Int) (m : Int) (w : World) (hM : w.cell? MaxA = some (.int .i64 m)) : Calls Tryz.prog 33 #[bstr t, .int .i64 n] w fun e w' => e = .returned (bstr (tabN l n)) ∧ ∃ j, w' = w.more j := by
  by_cases h : n < 1 ∨ 35 < n
  · rw [tab_out l h]
    clear hcut hl ht hM
    rcases h with h | h
    · go_enter Tryz.func33, Tryz.ntmps33
      go_wp2_with fail
      go_ret
      exact ⟨rfl, Below.junk bel⟩
    · have h1 : ¬ n < 1 := by omega
      go_enter Tryz.func33, Tryz.ntmps33
      go_wp2_with fail
      go_ret
      exact ⟨rfl, Below.junk bel⟩
  · obtain ⟨k, rfl⟩ : ∃ k : Nat, n = (k : Int) + 1 := ⟨(n - 1).toNat, by omega⟩
    have hk35 : k < 35 := by omega
    have hk : k < l.length := by omega
    have hr : tabN l ((k : Int) + 1) = l[k] := by rw [tab_in l k hk35, tab_at l k hk]
    have HS := Lib.hid (split_words t 32 l hcut m w ht hM)
    rw [hl] at HS
    rw [hr]
    have h1 : ¬ (k : Int) + 1 < 1 := by omega
    have h2 : ¬ 35 < (k : Int) + 1 := by omega
    have hw1 : IntKind.i64.wrap ((k : Int) + 1 - 1) = k := by rw [show (k : Int) + 1 - 1 = k by omega]; exact IntWalk.i64_in _ (by omega)
    have hw2 : IntKind.i64.wrap (k : Int) = k := IntWalk.i64_in _ (by omega)
    generalize hT : l[k] = T
    clear hr h hM hcut ht
    go_enter Tryz.func33, Tryz.ntmps33
    go_wp2_with fail
    refine HS.out.mono ?_
    rintro e w' ⟨rfl, j, rfl, hx⟩
    obtain ⟨hg, c⟩ := SlX_zero hx hk
    have c0 : (w.more j).cell? ⟨w.heap.size, k, none⟩ = some (bstr T) := by rw [← hT]; exact c
    clear hT hx c hl hk
    go_wp2_with fail
    go_ret
    exact ⟨rfl, Below.junk bel⟩
set_option maxHeartbeats 4000000 in
set_option maxRecDepth 100000 in
theorem rules_Name (n : Int) (m : Int) (w : World) (hM : w.cell? MaxA = some (.int .i64 m)) : Calls Tryz.prog 17 #[.int .i64 n] w fun e w' => e = .returned (bstr (tabN rulW n)) ∧ ∃ j, w' = w.more j := by
  have H := Lib.hid (rules_word rulT rulW (by decide) rul_cut rfl n m w hM)
  generalize tabN rulW n = R at H ⊢
  clear hM
  go_enter Tryz.func17, Tryz.ntmps17
  go_wp2_with fail
  refine H.out.mono ?_
  rintro e w' ⟨rfl, j, rfl⟩
  go_wp2_with fail
  go_ret
  exact ⟨rfl, Below.junk bel⟩
/-! What a rule asks. -/
theorem ask_lit : ∀ m : Fin 35, askW[m.val]? = some (askW.getD m.val []) := by decide +kernel
theorem wpList_buildV {P : Program} {ops : Array Oper} {rest : List Oper} {o : Oper} {a : Act} {w : World} {Q : Exit → Act → World → Prop} (hg : o.guard = none) (t : TypeId) (parts : Array (Nat × Operand)) (ho : o.op = .build t parts) (cells : Array Value)
    (hf : P.built t (parts.map fun (i, x) => (i, a.eval x)).toList = some cells)
    (h : wpList P ops Q rest (a.put o.dst (.agg cells)) w) : wpList P ops Q (o :: rest) a w :=
  wpList_build hg t parts ho (by rw [hf]; rfl) (by rw [hf]; exact h)
theorem setRow_new (w : World) (t : TypeId) (a b : Array Value) : (w.alloc (.cells a t)).setRow w.heap.size b = w.alloc (.cells b t) := by
  unfold World.setRow World.alloc
  congr 1
  apply Array.ext_getElem?
  intro i
  rw [Array.getElem?_modify, Array.getElem?_push, Array.getElem?_push]
  by_cases h : w.heap.size = i
  · subst h; simp
  · rw [if_neg h, if_neg (fun e => h e.symm), if_neg (fun e => h e.symm)]
def AsksV : Value := .agg (askW.map bstr).toArray
end Go.Proofs.YtjhhdgmhocpceaaGreatDoor
/-
  Rules: the document's tables, and what a rule asks.
-/
namespace Go.Proofs.YtjhhdgmhocpceaaGreatDoor
set_option linter.unusedSimpArgs false
set_option linter.unusedVariables false
set_option linter.unusedSectionVars false
open Go.ChangeShapes Go.WideShapes Go.ChangeAt Go.RowKit Go.Deep Go.Shelf

/-- A row of texts that is new. -/
def NamesR (n : Nat) (f : Nat → List UInt8) (w : World) (e : Ending) (w' : World) : Prop := ∃ g j, e = .returned (.slice (some ⟨g, 0, none⟩) n n) ∧ (∀ k, k < n → w'.cell? ⟨g, k, none⟩ = some (bstr (f k))) ∧ g < w'.heap.size ∧ w' = w.more j
theorem names_moreR {n : Nat} {f : Nat → List UInt8} {w : World} {t : TypeId} {cs : Array Value} (h : ∀ k, k < n → cs[k]? = some (bstr (f k))) : NamesR n f w (.returned (.slice (some ⟨w.heap.size, 0, none⟩) n n)) (w.alloc (.cells cs t)) := by
  obtain ⟨j, hj⟩ : ∃ j, w.alloc (.cells cs t) = w.more j := Below.junk bel
  exact ⟨_, j, rfl, fun k hk => (Blk.new w t cs).cell k |>.trans (h k hk), by simp, hj⟩
theorem ref38_names_lit : ∀ m : Fin 35, (rulW)[m.val]? = some ((fun k => rulW.getD k []) m.val) := by decide +kernel
theorem ref38_sections_lit : ∀ m : Fin 35, (secW)[m.val]? = some ((fun k => secW.getD k []) m.val) := by decide +kernel
theorem ref38_sentences_lit : ∀ m : Fin 18, (askW.take 18)[m.val]? = some ((fun k => askW.getD k []) m.val) := by decide +kernel
theorem ref38_others_lit : ∀ m : Fin 17, (askW.drop 18)[m.val]? = some ((fun k => askW.getD (18 + k) []) m.val) := by decide +kernel
end Go.Proofs.YtjhhdgmhocpceaaGreatDoor
/-
  Sets as lists that rise: plain laws; no program in sight.
-/
namespace Go.Proofs.YtjhhdgmhocpceaaGreatDoor
set_option linter.unusedSimpArgs false
set_option linter.unusedVariables false
set_option linter.unusedSectionVars false
open Go.ChangeShapes Go.WideShapes Go.ChangeAt Go.RowKit Go.Deep

structure Ord {α : Type} (lt : α → α → Bool) : Prop where
  irr : ∀ a, lt a a = false
  tr : ∀ a b c, lt a b = true → lt b c = true → lt a c = true
  tot : ∀ a b, a ≠ b → lt a b = true ∨ lt b a = true
section
variable {α : Type} [DecidableEq α] {lt : α → α → Bool}
def Strict (lt : α → α → Bool) (l : List α) : Prop := l.Pairwise (fun a b => lt a b = true)
theorem Ord.asym (O : Ord lt) {a b : α} (h : lt a b = true) : lt b a = false := by
  cases hb : lt b a with
  | false => rfl
  | true => have := O.tr a b a h hb; rw [O.irr] at this; cases this
theorem Ord.ne (O : Ord lt) {a b : α} (h : lt a b = true) : a ≠ b := fun e => by subst e; rw [O.irr] at h; cases h
theorem strict_ext (O : Ord lt) : ∀ (l m : List α), Strict lt l → Strict lt m → (∀ x, x ∈ l ↔ x ∈ m) → l = m
  | [], [], _, _, _ => rfl
  | [], y :: s, _, _, h => absurd ((h y).2 (by simp)) (by simp)
  | x :: r, [], _, _, h => absurd ((h x).1 (by simp)) (by simp)
  | x :: r, y :: s, hl, hm, h => by
    unfold Strict at hl hm
    rw [List.pairwise_cons] at hl hm
    have hxy : x = y := by
      rcases List.mem_cons.1 ((h x).1 (by simp)) with e | hx
      · exact e
      · rcases List.mem_cons.1 ((h y).2 (by simp)) with e | hy
        · exact e.symm
        · have h1 := hm.1 x hx
          have h2 := hl.1 y hy
          rw [O.asym h1] at h2; cases h2
    subst hxy
    congr 1
    refine strict_ext O r s hl.2 hm.2 fun z => ?_
    have hz := h z
    simp only [List.mem_cons] at hz
    constructor
    · intro hr
      rcases hz.1 (.inr hr) with e | hs
      · subst e; exact absurd rfl (O.ne (hl.1 z hr))
      · exact hs
    · intro hs
      rcases hz.2 (.inr hs) with e | hr
      · subst e; exact absurd rfl (O.ne (hm.1 z hs))
      · exact hr
def insS (lt : α → α → Bool) (x : α) : List α → List α
  | [] => [x]
  | y :: r => if lt x y = true then x :: y :: r else if x = y then y :: r else y :: insS lt x r
def setS (lt : α → α → Bool) : List α → List α
  | [] => []
  | x :: r => insS lt x (setS lt r)
theorem mem_insS (x z : α) : ∀ l : List α, z ∈ insS lt x l ↔ z = x ∨ z ∈ l
  | [] => by simp [insS]
  | y :: r => by
    unfold insS
    split
    · simp
    · split
      · rename_i h; subst h; simp
      · rw [List.mem_cons, mem_insS x z r, List.mem_cons]
        constructor
        · rintro (h | h | h)
          · exact .inr (.inl h)
          · exact .inl h
          · exact .inr (.inr h)
        · rintro (h | h | h)
          · exact .inr (.inl h)
          · exact .inl h
          · exact .inr (.inr h)
theorem strict_insS (O : Ord lt) (x : α) : ∀ l : List α, Strict lt l → Strict lt (insS lt x l)
  | [], _ => by simp [insS, Strict]
  | y :: r, h => by
    unfold Strict at h
    rw [List.pairwise_cons] at h
    unfold insS
    split
    · rename_i hxy
      refine List.pairwise_cons.2 ⟨fun z hz => ?_, List.pairwise_cons.2 h⟩
      rcases List.mem_cons.1 hz with rfl | hz
      · exact hxy
      · exact O.tr x y z hxy (h.1 z hz)
    · rename_i hxy
      split
      · exact List.pairwise_cons.2 h
      · rename_i hne
        refine List.pairwise_cons.2 ⟨fun z hz => ?_, strict_insS O x r h.2⟩
        rcases (mem_insS x z r).1 hz with rfl | hz
        · rcases O.tot z y hne with h' | h'
          · exact absurd h' hxy
          · exact h'
        · exact h.1 z hz
theorem mem_setS (z : α) : ∀ l : List α, z ∈ setS lt l ↔ z ∈ l
  | [] => by simp [setS]
  | x :: r => by rw [setS, mem_insS, mem_setS z r, List.mem_cons]
theorem strict_setS (O : Ord lt) : ∀ l : List α, Strict lt (setS lt l)
  | [] => List.Pairwise.nil
  | x :: r => strict_insS O x _ (strict_setS O r)
theorem insS_len (x : α) : ∀ l : List α, (insS lt x l).length ≤ l.length + 1
  | [] => by simp [insS]
  | y :: r => by
    unfold insS
    split
    · simp
    · split
      · simp
      · have := insS_len x r; simp; omega
theorem setS_len : ∀ l : List α, (setS lt l).length ≤ l.length
  | [] => by simp [setS]
  | x :: r => by have := setS_len r; have := insS_len (lt := lt) x (setS lt r); simp [setS]; omega
theorem setS_of_strict (O : Ord lt) {l : List α} (h : Strict lt l) : setS lt l = l := strict_ext O _ _ (strict_setS O l) h (fun x => mem_setS x l)
theorem setS_congr (O : Ord lt) {l m : List α} (h : ∀ x, x ∈ l ↔ x ∈ m) : setS lt l = setS lt m :=
  strict_ext O _ _ (strict_setS O l) (strict_setS O m) (fun x => by rw [mem_setS, mem_setS]; exact h x)
theorem strict_nodup (O : Ord lt) {l : List α} (h : Strict lt l) : l.Nodup := List.Pairwise.imp (fun hab => O.ne hab) h

/-! Neighbours that are the same are struck. -/
def dedA : List α → List α
  | [] => []
  | x :: r => match r with
    | [] => [x]
    | y :: t => if x = y then dedA (y :: t) else x :: dedA (y :: t)
theorem dedA_two (x y : α) (t : List α) : dedA (x :: y :: t) = if x = y then dedA (y :: t) else x :: dedA (y :: t) := by rw [dedA]
theorem mem_dedA (z : α) : ∀ l : List α, z ∈ dedA l ↔ z ∈ l
  | [] => by simp [dedA]
  | [x] => by simp [dedA]
  | x :: y :: t => by
    rw [dedA_two]
    have ih := mem_dedA z (y :: t)
    split
    · rename_i h; subst h; rw [ih]; simp
    · rw [List.mem_cons, ih, List.mem_cons (a := z) (b := x)]
theorem strict_dedA (O : Ord lt) : ∀ l : List α, l.Pairwise (fun a b => lt b a = false) → Strict lt (dedA l)
  | [], _ => by simp [dedA, Strict]
  | [x], _ => by simp [dedA, Strict]
  | x :: y :: t, h => by
    rw [List.pairwise_cons] at h
    rw [dedA_two]
    have ih := strict_dedA O (y :: t) h.2
    split
    · exact ih
    · rename_i hne
      have hxy : lt x y = true := by
        rcases O.tot x y hne with h' | h'
        · exact h'
        · rw [h.1 y (by simp)] at h'; cases h'
      refine List.pairwise_cons.2 ⟨fun z hz => ?_, ih⟩
      rw [mem_dedA] at hz
      rcases List.mem_cons.1 hz with rfl | hz
      · exact hxy
      · rcases Decidable.em (y = z) with rfl | hyz
        · exact hxy
        · have h2 := (List.pairwise_cons.1 h.2).1 z hz
          rcases O.tot y z hyz with h' | h'
          · exact O.tr x y z hxy h'
          · rw [h2] at h'; cases h'
theorem dedA_sorted (O : Ord lt) {l m : List α} (hs : m.Pairwise (fun a b => lt b a = false)) (hp : ∀ x, x ∈ m ↔ x ∈ l) : dedA m = setS lt l :=
  strict_ext O _ _ (strict_dedA O m hs) (strict_setS O l) (fun x => by rw [mem_dedA, hp, mem_setS])

/-! Again and again the least one that is not there yet. -/
def stepM (lt : α → α → Bool) (p : α → Bool) (b : Option α) (x : α) : Option α :=
  if p x = true then (match b with | none => some x | some y => if lt x y = true then some x else some y) else b
def minS (lt : α → α → Bool) (p : α → Bool) (l : List α) (b : Option α) : Option α := l.foldl (stepM lt p) b
def Least (lt : α → α → Bool) (c : List α) : Option α → Prop
  | none => c = []
  | some m => m ∈ c ∧ ∀ x ∈ c, lt x m = false
theorem least_step (O : Ord lt) (p : α → Bool) (c : List α) (b : Option α) (x : α) (h : Least lt c b) : Least lt (c ++ [x].filter p) (stepM lt p b x) := by
  unfold stepM
  cases hp : p x with
  | false => simpa [hp] using h
  | true =>
    simp only [if_true, List.filter_cons, hp, List.filter_nil]
    cases b with
    | none =>
      have hc : c = [] := h
      subst hc
      exact ⟨by simp, fun z hz => by simp at hz; subst hz; exact O.irr z⟩
    | some y =>
      obtain ⟨hy, hm⟩ := h
      simp only
      cases hxy : lt x y with
      | true =>
        simp only [if_true]
        refine ⟨by simp, fun z hz => ?_⟩
        rcases List.mem_append.1 hz with hz | hz
        · cases hzx : lt z x with
          | false => rfl
          | true => have := O.tr z x y hzx hxy; rw [hm z hz] at this; cases this
        · simp at hz; subst hz; exact O.irr z
      | false =>
        simp only [Bool.false_eq_true, if_false]
        refine ⟨by simp [hy], fun z hz => ?_⟩
        rcases List.mem_append.1 hz with hz | hz
        · exact hm z hz
        · simp at hz; subst hz; exact hxy
theorem least_minS (O : Ord lt) (p : α → Bool) : ∀ (l c : List α) (b : Option α), Least lt c b → Least lt (c ++ l.filter p) (minS lt p l b)
  | [], c, b, h => by simpa [minS] using h
  | x :: r, c, b, h => by
    have h1 := least_minS O p r _ _ (least_step O p c b x h)
    rw [List.append_assoc] at h1
    rw [minS, List.foldl_cons]
    have e : ([x].filter p) ++ r.filter p = (x :: r).filter p := by rw [← List.filter_append]; rfl
    rw [e] at h1
    exact h1
theorem least_unique (O : Ord lt) {c d : List α} {b : Option α} {m : α} (h : Least lt c b) (hcd : ∀ x, x ∈ c ↔ x ∈ d) (hm : m ∈ d) (hl : ∀ x ∈ d, x ≠ m → lt m x = true) : b = some m := by
  cases b with
  | none => have hc : c = [] := h
            subst hc
            exact absurd ((hcd m).2 hm) (by simp)
  | some y =>
    obtain ⟨hy, hly⟩ := h
    rcases Decidable.em (y = m) with e | hne
    · rw [e]
    · have := hl y ((hcd y).1 hy) hne
      rw [hly m ((hcd m).2 hm)] at this; cases this
/-- The next one of a rising list. -/
theorem minS_next (O : Ord lt) (q : α → Bool) (l S : List α) (hS : Strict lt S) (hm : ∀ x, x ∈ S ↔ x ∈ l ∧ q x = true) (n : Nat) :
    minS lt (fun x => q x && !decide (x ∈ S.take n)) l none = S[n]? := by
  have h := least_minS O (fun x => q x && !decide (x ∈ S.take n)) l [] none rfl
  rw [List.nil_append] at h
  have hnd := strict_nodup O hS
  have hmem : ∀ x, x ∈ l.filter (fun x => q x && !decide (x ∈ S.take n)) ↔ x ∈ S.drop n := by
    intro x
    rw [List.mem_filter]
    simp only [Bool.and_eq_true, Bool.not_eq_true', decide_eq_false_iff_not]
    rw [← and_assoc, ← hm]
    constructor
    · rintro ⟨h1, h2⟩
      rw [← List.take_append_drop n S] at h1
      rcases List.mem_append.1 h1 with h1 | h1
      · exact absurd h1 h2
      · exact h1
    · intro h1
      refine ⟨List.mem_of_mem_drop h1, fun h2 => ?_⟩
      rw [← List.take_append_drop n S] at hnd
      exact (List.nodup_append.1 hnd).2.2 x h2 x h1 rfl
  by_cases hn : n < S.length
  · rw [List.getElem?_eq_getElem hn]
    refine least_unique O h hmem (by rw [List.drop_eq_getElem_cons hn]; exact List.mem_cons_self) ?_
    intro x hx hne
    rw [List.drop_eq_getElem_cons hn] at hx
    rcases List.mem_cons.1 hx with e | hx
    · exact absurd e hne
    · have : (S.drop n).Pairwise (fun a b => lt a b = true) := List.Pairwise.sublist (List.drop_sublist n S) hS
      rw [List.drop_eq_getElem_cons hn, List.pairwise_cons] at this
      exact this.1 x hx
  · rw [List.getElem?_eq_none (by omega)]
    generalize minS lt (fun x => q x && !decide (x ∈ S.take n)) l none = b at h
    cases b with
    | none => rfl
    | some y =>
      have := (hmem y).1 h.1
      rw [List.drop_of_length_le (by omega)] at this
      cases this
end

/-! Numbers. -/
def ltI (a b : Int) : Bool := decide (a < b)
theorem ordI : Ord ltI := ⟨fun a => by simp [ltI], fun a b c h1 h2 => by simp [ltI] at *; omega, fun a b h => by simp [ltI]; omega⟩
end Go.Proofs.YtjhhdgmhocpceaaGreatDoor
