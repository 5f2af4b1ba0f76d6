/-
  Summaries: a whole report counted.
-/
import Derived.Test.YtfgldglelijekaaGreatDoorSum3
import Derived.Test.YtfgldglelijekaaGreatDoorSrtX
import Derived.Laws.Tables
import Derived.Laws.Rows
import Derived.Laws.CopyOwn
namespace Go.Proofs.YtfgldglelijekaaGreatDoor
set_option linter.unusedSimpArgs false
set_option linter.unusedVariables false
set_option linter.unusedSectionVars false
open Go.ChangeShapes Go.WideShapes Go.ChangeAt Go.RowKit Go.Deep Go.Shelf

def recL (x : Rec) : List Value := [.int .i64 x.fr, .int .i64 x.ty, .int .i64 x.fl, .int .i64 x.st, .int .i64 x.ln, .int .i64 x.kd]
abbrev SlRc (w : World) (B : Nat) (a : Option Addr) (l : List Rec) : Prop := SlR w B 6 (fun x cs => cs = recL x) a l
theorem SlR.atRc {w : World} {B : Nat} {a : Option Addr} {l : List Rec} (h : SlRc w B a l) {k : Nat} (hk : k < l.length) : ∃ b off, a = some ⟨b, off, none⟩ ∧ b < B ∧ (w.cell? ⟨b, off + k * 6, none⟩ = some (.int .i64 l[k].fr) ∧ w.cell? ⟨b, off + k * 6 + 1, none⟩ = some (.int .i64 l[k].ty) ∧ w.cell? ⟨b, off + k * 6 + 2, none⟩ = some (.int .i64 l[k].fl) ∧ w.cell? ⟨b, off + k * 6 + 3, none⟩ = some (.int .i64 l[k].st) ∧ w.cell? ⟨b, off + k * 6 + 4, none⟩ = some (.int .i64 l[k].ln) ∧ w.cell? ⟨b, off + k * 6 + 5, none⟩ = some (.int .i64 l[k].kd)) := by
  obtain ⟨b, off, cs, ha, hb, rfl, hc⟩ := h k hk
  exact ⟨b, off, ha, hb, hc 0 _ rfl, hc 1 _ rfl, hc 2 _ rfl, hc 3 _ rfl, hc 4 _ rfl, hc 5 _ rfl⟩
theorem SlRc.keep {w w' : World} {a : Option Addr} {l : List Rec} (h : SlRc w w.heap.size a l) (hb : Below w.heap.size w w') : SlRc w' w'.heap.size a l := (h.below hb (Nat.le_refl _)).mono hb.size (fun _ _ _ h => h)

def AddP (g : Nat) (F : Nat → Int) (sec : Value) (x : Rec) (w : World) (e : Ending) (w' : World) : Prop := e = .returned (.tuple #[]) ∧ Blk w' g SmT (rowA (fun i => F i + cv i x) sec) ∧ Below g w w'
set_option maxHeartbeats 4000000 in
set_option maxRecDepth 100000 in
theorem summary_add (g : Nat) (F : Nat → Int) (sec : Value) (fr ty fl st ln kd : Int) (w : World) (hB : Blk w g SmT (rowA F sec)) (hF : ∀ i, i < 20 → 0 ≤ F i ∧ F i ≤ 1000000000000) :
    Calls Tryz.prog 12 #[.pointer (some ⟨g, 0, none⟩), .agg #[.int .i64 fr, .int .i64 ty, .int .i64 fl, .int .i64 st, .int .i64 ln, .int .i64 kd]] w (AddP g F sec ⟨fr, ty, fl, st, ln, kd⟩ w) := by
  by_cases h : fr = 0 ∨ fr = 1
  · obtain ⟨k, rfl, hk⟩ : ∃ k : Nat, fr = (k : Int) ∧ k < 2 := ⟨fr.toNat, by omega, by omega⟩
    exact summary_add_in g F sec k hk ty fl st ln kd w hB hF
  · have h0 : (fr == 0) = false := by rw [beq_eq_false_iff_ne]; omega
    have h1 : (fr == 1) = false := by rw [beq_eq_false_iff_ne]; omega
    have h2 : (fr != 0) = true := by unfold bne; rw [h0]; rfl
    have h3 : (fr != 1) = true := by unfold bne; rw [h1]; rfl
    have hR : rowA (fun i => F i + cv i ⟨fr, ty, fl, st, ln, kd⟩) sec = rowA F sec := rowA_congr sec fun i _ => by
      unfold cv in0
      rw [if_pos (by simp; omega)]; omega
    have HR := Lib.hid hR
    have HB := Lib.hid hB
    clear hR hF h hB
    go_enter Tryz.func12, Tryz.ntmps12
    go_wp2_with fail
    refine bodyPost_ret (results_none rfl _ _ _) rfl ?_
    exact ⟨rfl, by rw [HR.out]; exact HB.out.below (B := w.heap.size) (by repeat (first | (with_reducible exact Below.refl _ _) | (with_reducible refine Below.allocS ?_ _) | (with_reducible refine Below.moreS ?_ _) | (with_reducible refine Below.drew ?_) | (with_reducible refine below_drewN ?_ _))) HB.out.lt, Below.mono (B := w.heap.size) (by repeat (first | (with_reducible exact Below.refl _ _) | (with_reducible refine Below.allocS ?_ _) | (with_reducible refine Below.moreS ?_ _) | (with_reducible refine Below.drew ?_) | (with_reducible refine below_drewN ?_ _))) (Nat.le_of_lt HB.out.lt)⟩

theorem st_Sm : StructTy Tryz.prog SmT 21 := ⟨_, Tryz.underlying37, rfl, by kernel_rfl⟩
theorem rowA_one (F : Nat → Int) (a : Option Addr) (n c : Nat) : (rowA F (.slice a n c)).all (·.oneCell') = true := by
  refine Array.all_eq_true_iff_forall_mem.2 fun v hv => ?_
  have hv' : v ∈ ((List.range 20).map fun k => Value.int .i64 (F k)) ++ [.slice a n c] := by simpa [rowA] using hv
  rcases List.mem_append.1 hv' with h | h
  · obtain ⟨k, _, rfl⟩ := List.mem_map.1 h; rfl
  · simp at h; subst h; rfl
theorem rowA_zero (sec : Value) : rowA (fun i => tot i []) sec = #[.int .i64 0, .int .i64 0, .int .i64 0, .int .i64 0, .int .i64 0, .int .i64 0, .int .i64 0, .int .i64 0, .int .i64 0, .int .i64 0, .int .i64 0, .int .i64 0, .int .i64 0, .int .i64 0, .int .i64 0, .int .i64 0, .int .i64 0, .int .i64 0, .int .i64 0, .int .i64 0, sec] := rfl
/-- What a report is counted as. -/
def OfP (l : List Rec) (u : List Int) (w : World) (e : Ending) (w' : World) : Prop := ∃ a cap, e = .returned (.agg (rowA (fun i => tot i l) (.slice a (secS u).length cap))) ∧ SlX w' w'.heap.size a (secS u) ∧ (secS u).length ≤ cap ∧ Below w.heap.size w w'
set_option maxHeartbeats 8000000 in
set_option maxRecDepth 100000 in
theorem summary_Of (c0 c1 c2 c3 c4 c5 vd at_ lf0 lf1 : Int) (a : Option Addr) (l : List Rec) (cap : Nat) (fa : Option Addr) (fn fc : Nat) (ua : Option Addr) (u : List Int) (uc : Nat) (hl : l.length ≤ 1000) (hu : u.length ≤ 1000) (m : Int) (w : World) (hM : w.cell? MaxA = some (.int .i64 m)) (hS : SlRc w w.heap.size a l) (hU : SlI w w.heap.size ua u) :
    Calls Tryz.prog 7 #[.agg #[.int .i64 c0, .int .i64 c1, .int .i64 c2, .int .i64 c3, .int .i64 c4, .int .i64 c5, .slice a l.length cap, .int .i64 vd, .int .i64 at_, .slice fa fn fc, .slice ua u.length uc, .int .i64 lf0, .int .i64 lf1]] w (OfP l u w) := by
  have HSE : Hid (∀ W, Below w.heap.size w W → Calls Tryz.prog 11 #[.slice ua u.length uc] W fun e w' => ∃ v, e = .returned v ∧ OwnX W.heap.size w' v (secS u) ∧ Below W.heap.size W w') := fun W hW => summary_sections ua u uc hu m W (max_keep hM hW) ((hU.below hW (Nat.le_refl _)).mono hW.size (fun _ _ _ h => h))
  have HP : Hid (∀ e w', (∃ a cap, e = .returned (.agg (rowA (fun i => tot i l) (.slice a (secS u).length cap))) ∧ SlX w' w'.heap.size a (secS u) ∧ (secS u).length ≤ cap ∧ Below w.heap.size w w') → OfP l u w e w') := fun e w' h => h
  generalize OfP l u w = P at HP ⊢
  have hsh := secS_short u
  generalize secS u = R at HSE HP hsh
  have HSH := Lib.hid hsh
  clear hsh
  have HSR := Lib.hid hS
  clear hM hS hU
  go_enter Tryz.func7, Tryz.ntmps7
  go_wp2_with fail
  refine (HSE.out _ (by repeat (first | (with_reducible exact Below.refl _ _) | (with_reducible refine Below.allocS ?_ _) | (with_reducible refine Below.moreS ?_ _) | (with_reducible refine Below.drew ?_) | (with_reducible refine below_drewN ?_ _)))).mono ?_
  rintro e w1 ⟨v1, rfl, ho1, hb1⟩
  obtain ⟨a1, cap1, rfl, hc1⟩ := ho1.cap
  have ho1' : OwnX (w.heap.size + 2) w1 (.slice a1 R.length cap1) R := by have := ho1; simp only [World.size_alloc] at this; exact this
  have HO1 := Lib.hid ho1'
  have HC1 := Lib.hid hc1
  have c6 : w1.cell? ⟨w.heap.size, 6, none⟩ = some (.slice a l.length cap) := (hb1.cell (p := ⟨w.heap.size, 6, none⟩) (by simp; omega)).trans (by go_simp)
  have HT2 : Hid (Blk w1 (w.heap.size + 1) SmT (rowA (fun i => tot i []) (.slice none 0 0))) := by
    have h0 : Blk ((w.alloc (.cells #[.int .i64 c0, .int .i64 c1, .int .i64 c2, .int .i64 c3, .int .i64 c4, .int .i64 c5, .slice a l.length cap, .int .i64 vd, .int .i64 at_, .slice fa fn fc, .slice ua u.length uc, .int .i64 lf0, .int .i64 lf1] 29)).alloc (.cells (rowA (fun i => tot i []) (.slice none 0 0)) SmT)) (w.heap.size + 1) SmT (rowA (fun i => tot i []) (.slice none 0 0)) := Blk.at_ _ _ _ (by simp)
    exact h0.below hb1 (by simp)
  have hz1 : w.heap.size + 2 ≤ w1.heap.size := by have := hb1.size; simpa using this
  have HB1 : Hid (Below w.heap.size w w1) := by
    have h2 : Below w.heap.size _ w1 := hb1.mono (by simp; omega)
    refine Below.trans ?_ h2
    exact (by repeat (first | (with_reducible exact Below.refl _ _) | (with_reducible refine Below.allocS ?_ _) | (with_reducible refine Below.moreS ?_ _) | (with_reducible refine Below.drew ?_) | (with_reducible refine below_drewN ?_ _)))
  clear ho1 ho1' hc1 hb1 HSE
  have hu1 : w.heap.size < w1.heap.size := by omega
  go_wp2_with (first
    | (refine wpList_buildV rfl SmT _ rfl #[.int .i64 0, .int .i64 0, .int .i64 0, .int .i64 0, .int .i64 0, .int .i64 0, .int .i64 0, .int .i64 0, .int .i64 0, .int .i64 0, .int .i64 0, .int .i64 0, .int .i64 0, .int .i64 0, .int .i64 0, .int .i64 0, .int .i64 0, .int .i64 0, .int .i64 0, .int .i64 0, .slice a1 R.length cap1] (by kernel_rfl) ?_)
    | (refine wpList_store_row rfl _ _ _ rfl w1.heap.size #[.int .i64 0, .int .i64 0, .int .i64 0, .int .i64 0, .int .i64 0, .int .i64 0, .int .i64 0, .int .i64 0, .int .i64 0, .int .i64 0, .int .i64 0, .int .i64 0, .int .i64 0, .int .i64 0, .int .i64 0, .int .i64 0, .int .i64 0, .int .i64 0, .int .i64 0, .int .i64 0, .slice a1 R.length cap1] rfl rfl SmT _ (Blk.new _ _ _) (by kernel_rfl) (by kernel_rfl) (by kernel_rfl) ?_; rw [setRow_new]))
  go_loopg [13] l.length (fun g i wr => ∃ k : Nat, k + g = l.length ∧ i = .int .i64 k ∧ Blk wr w1.heap.size SmT (rowA (fun i => tot i (l.take k)) (.slice a1 R.length cap1)) ∧ Below w1.heap.size w1 wr)
  case atStart => exact ⟨0, by omega, rfl, by rw [List.take_zero, rowA_zero]; exact Blk.new _ _ _, (by repeat (first | (with_reducible exact Below.refl _ _) | (with_reducible refine Below.allocS ?_ _) | (with_reducible refine Below.moreS ?_ _) | (with_reducible refine Below.drew ?_) | (with_reducible refine below_drewN ?_ _)))⟩
  case round =>
    obtain ⟨k, hkg, rfl, hbk, hb⟩ := hrel
    have HBK := Lib.hid hbk
    have HB := Lib.hid hb
    have HK := Lib.hid hkg
    have HBW : Hid (Below w.heap.size w wr) := HB1.out.trans (hb.mono HB1.out.size)
    have hbsz := hb.size
    by_cases hlt : k < l.length
    · obtain ⟨b, off, ha, hbb, q0, q1, q2, q3, q4, q5⟩ := SlR.atRc HSR.out hlt
      subst ha
      have d0 := (HBW.out.cell (p := ⟨b, off + k * 6, none⟩) hbb).trans q0
      have d1 := (HBW.out.cell (p := ⟨b, off + k * 6 + 1, none⟩) hbb).trans q1
      have d2 := (HBW.out.cell (p := ⟨b, off + k * 6 + 2, none⟩) hbb).trans q2
      have d3 := (HBW.out.cell (p := ⟨b, off + k * 6 + 3, none⟩) hbb).trans q3
      have d4 := (HBW.out.cell (p := ⟨b, off + k * 6 + 4, none⟩) hbb).trans q4
      have d5 := (HBW.out.cell (p := ⟨b, off + k * 6 + 5, none⟩) hbb).trans q5
      have hbx : b < wr.heap.size := Nat.lt_of_lt_of_le hbb HBW.out.size
      have HFB : Hid (∀ i, i < 20 → 0 ≤ tot i (l.take k) ∧ tot i (l.take k) ≤ 1000000000000) := fun i _ => by
        have := tot_bd i (l.take k)
        have hlk : (l.take k).length ≤ 1000 := by simp; omega
        omega
      have HST : Hid (∀ i, tot i (l.take (k + 1)) = tot i (l.take k) + cv i l[k]) := fun i => tot_step i l k hlt
      generalize l[k] = x at d0 d1 d2 d3 d4 d5 HST
      obtain ⟨x0, x1, x2, x3, x4, x5⟩ := x
      have HAD : Hid (∀ W, Blk W w1.heap.size SmT (rowA (fun i => tot i (l.take k)) (.slice a1 R.length cap1)) → Calls Tryz.prog 12 #[.pointer (some ⟨w1.heap.size, 0, none⟩), .agg #[.int .i64 x0, .int .i64 x1, .int .i64 x2, .int .i64 x3, .int .i64 x4, .int .i64 x5]] W (AddP w1.heap.size (fun i => tot i (l.take k)) (.slice a1 R.length cap1) ⟨x0, x1, x2, x3, x4, x5⟩ W)) := fun W hW => summary_add _ _ _ _ _ _ _ _ _ W hW HFB.out
      clear q0 q1 q2 q3 q4 q5 hbk hb hkg HFB
      go_wp2_with fail
      refine (HAD.out _ (HBK.out.below (B := wr.heap.size) (by repeat (first | (with_reducible exact Below.refl _ _) | (with_reducible refine Below.allocS ?_ _) | (with_reducible refine Below.moreS ?_ _) | (with_reducible refine Below.drew ?_) | (with_reducible refine below_drewN ?_ _))) HBK.out.lt)).mono ?_
      rintro e w3 ⟨rfl, hb3, hbe3⟩
      have HBE3 : Hid (Below w1.heap.size w1 w3) := by
        refine HB.out.trans (Below.trans ?_ hbe3)
        exact Below.mono (B := wr.heap.size) (by repeat (first | (with_reducible exact Below.refl _ _) | (with_reducible refine Below.allocS ?_ _) | (with_reducible refine Below.moreS ?_ _) | (with_reducible refine Below.drew ?_) | (with_reducible refine below_drewN ?_ _))) (Nat.le_of_lt HBK.out.lt)
      have HB3 : Hid (Blk w3 w1.heap.size SmT (rowA (fun i => tot i (l.take (k + 1))) (.slice a1 R.length cap1))) := by
        show Blk _ _ _ _
        rw [rowA_congr _ (fun i _ => HST.out i)]
        exact hb3
      clear hb3 hbe3 HAD HST
      go_wp2_with fail
      go_roundg (l.length - (k + 1))
      case measure => have := HK.out; omega
      case rel => exact ⟨k + 1, by have := HK.out; omega, by go_num, HB3.out, HBE3.out⟩
    · have hk : l.take k = l := List.take_of_length_le (by omega)
      rw [hk] at hbk
      have HB4 := Lib.hid hbk
      have ht2 := HT2.out.below hb (by omega)
      have HT3 := Lib.hid ht2
      have HO4 := Lib.hid (HO1.out.below hb (Nat.le_refl _))
      clear hbk ht2 hb hkg HBK HSR HT2 hk
      generalize (fun i => tot i l) = G at HB4 HP
      go_wp2_with (first
        | (refine wpList_load_row rfl SmT _ rfl w1.heap.size rfl SmT (rowA G (.slice a1 R.length cap1)) (0, 0) _ HB4.out Tryz.underlying37 rfl (by rw [rowA_size]; kernel_rfl) ?_)
        | (refine wpList_store_row rfl SmT _ _ rfl (w.heap.size + 1) (rowA G (.slice a1 R.length cap1)) rfl rfl SmT _ HT3.out (by rw [rowA_size]; kernel_rfl) (by rw [rowA_size, rowA_size]) (rowA_one _ _ _ _) ?_))
      have hr := setRow_heap wr (w.heap.size + 1) _ (rowA G (.slice a1 R.length cap1)) SmT (0, 0) HT3.out
      have hb5 : Blk (wr.setRow (w.heap.size + 1) (rowA G (.slice a1 R.length cap1))) (w.heap.size + 1) SmT (rowA G (.slice a1 R.length cap1)) := hr
      have ho5 := HO4.out.setRow (show w.heap.size + 1 < w.heap.size + 2 by omega) (rowA G (.slice a1 R.length cap1))
      obtain ⟨a6, cap6, hv, hs5⟩ := ho5.read (fun x hx => by have := HSH.out x hx; unfold maxLen; omega)
      injection hv with z1 z2 z3
      subst z1 z3
      have hbw := below_setRow HBW.out (show w.heap.size ≤ w.heap.size + 1 by omega) (rowA G (.slice a1 R.length cap1))
      refine bodyPost_ret (res_cell rfl st_Sm rfl hb5 (rowA_size _ _)) rfl ?_
      exact HP.out _ _ ⟨a1, cap1, rfl, hs5, HC1.out, hbw⟩
end Go.Proofs.YtfgldglelijekaaGreatDoor
