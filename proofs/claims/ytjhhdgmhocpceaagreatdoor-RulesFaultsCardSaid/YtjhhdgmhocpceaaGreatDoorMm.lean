/-
  Parts of the proof, one behind the other: contracts of the program and plain laws; no condition of their own.
-/
import Derived.Test.YtjhhdgmhocpceaaGreatDoorFrmD
import Derived.Test.YtjhhdgmhocpceaaGreatDoorFrmE
import Derived.Test.YtjhhdgmhocpceaaGreatDoorFrm8
import Derived.Test.YtjhhdgmhocpceaaGreatDoorMg
import Derived.Test.YtjhhdgmhocpceaaGreatDoorMh
import Derived.Test.YtjhhdgmhocpceaaGreatDoorMa
/-
  Frames, plain: the fault is the same on both roads.
-/
namespace Go.Proofs.YtjhhdgmhocpceaaGreatDoor
set_option linter.unusedSimpArgs false
set_option linter.unusedVariables false
set_option linter.unusedSectionVars false
open Go.ChangeShapes Go.WideShapes Go.ChangeAt Go.RowKit Go.Deep Go.Shelf

theorem nxtN_in {k n : Nat} {l : List UInt8} (h : n + k ≤ l.length) : nxtN k l n = n + k := by unfold nxtN; rw [if_pos h]
theorem nxtS_in {k n : Nat} {l : List UInt8} {sh : Bool} (h : n + k ≤ l.length) : nxtS k l n sh = sh := by unfold nxtS; simp [h]
theorem nxtS_out {k n : Nat} {l : List UInt8} {sh : Bool} (h : ¬ n + k ≤ l.length) : nxtS k l n sh = true := by unfold nxtS; rw [decide_eq_true h]; simp
theorem nxtS_true {k n : Nat} {l : List UInt8} : nxtS k l n true = true := by unfold nxtS; simp
theorem has8_ty {ty fl : Int} (h : hasF ty fl 8 = true) : ty = 0 ∨ ty = 1 ∨ ty = 5 := by
  unfold hasF usesF usedF at h
  simp only [Bool.and_eq_true, decide_eq_true_eq] at h
  have h1 := h.1
  repeat' split at h1
  all_goals first | omega | simp at h1
theorem has32_ty {ty fl : Int} (h : hasF ty fl 32 = true) : ty = 1 := by
  unfold hasF usesF usedF at h
  simp only [Bool.and_eq_true, decide_eq_true_eq] at h
  have h1 := h.1
  repeat' split at h1
  all_goals first | omega | simp at h1
def fixF (ty : Int) : Nat := if ty = 2 then 5 else if ty = 3 ∨ ty = 8 then 4 else if ty = 7 then 8 else 0
theorem len_fix {ty fl : Int} {n : Nat} (h : lenOk ty fl n = true) : fixF ty ≤ n := by
  unfold fixF
  rcases len_cases ty fl n with ⟨rfl, e⟩ | ⟨rfl, e⟩ | ⟨rfl, e⟩ | ⟨rfl, e⟩ | ⟨rfl, e⟩ | ⟨rfl, _, e⟩ | ⟨rfl, _, e⟩ | ⟨g2, g3, g8, g6, g7, g4, e⟩
  all_goals
    rw [h] at e
    first
      | (simp only [g2, g3, g8, g7, if_false, or_self]; exact Nat.zero_le _)
      | (have e := of_decide_eq_true e.symm; simp; omega)
      | simp
def needF (ty fl : Int) : Nat := if ty = 1 ∧ hasF 1 fl 32 = true ∨ ty = 2 then 5 else if ty = 3 then 4 else if ty = 5 then 4 else if ty = 7 then 8 else if ty = 8 then 4 else 0
theorem two_in {a b n : Nat} {l : List UInt8} {sh : Bool} (h : n + (a + b) ≤ l.length) : nxtS b l (nxtN a l n) (nxtS a l n sh) = sh ∧ nxtN b l (nxtN a l n) = n + (a + b) := by
  rw [nxtN_in (by omega), nxtS_in (by omega), nxtS_in (by omega), nxtN_in (by omega)]
  exact ⟨rfl, by omega⟩
theorem two_out {a b n : Nat} {l : List UInt8} {sh : Bool} (h : ¬ n + (a + b) ≤ l.length) : nxtS b l (nxtN a l n) (nxtS a l n sh) = true := by
  by_cases h1 : n + a ≤ l.length
  · rw [nxtN_in h1, nxtS_out (by omega)]
  · rw [nxtS_out h1, nxtS_true]
theorem numsF_in {ty fl : Int} {l : List UInt8} {n : Nat} {sh : Bool} (h : n + needF ty fl ≤ l.length) : (numsF ty fl l n sh).sh = sh ∧ (numsF ty fl l n sh).n = n + needF ty fl := by
  unfold numsF needF at *
  split
  · rename_i hc
    rw [if_pos hc] at h
    exact two_in h
  · rename_i hc
    rw [if_neg hc] at h
    split
    · rename_i h3
      rw [if_pos h3] at h
      exact ⟨nxtS_in h, nxtN_in h⟩
    · rename_i h3
      rw [if_neg h3] at h
      split
      · rename_i h5
        rw [if_pos h5] at h
        exact ⟨nxtS_in h, nxtN_in h⟩
      · rename_i h5
        rw [if_neg h5] at h
        split
        · rename_i h7
          rw [if_pos h7] at h
          exact two_in h
        · rename_i h7
          rw [if_neg h7] at h
          split
          · rename_i h8
            rw [if_pos h8] at h
            exact ⟨nxtS_in h, nxtN_in h⟩
          · rename_i h8
            rw [if_neg h8] at h
            exact ⟨rfl, rfl⟩
theorem numsF_out {ty fl : Int} {l : List UInt8} {n : Nat} {sh : Bool} (hn : n ≤ l.length) (h : ¬ n + needF ty fl ≤ l.length) : (numsF ty fl l n sh).sh = true := by
  unfold numsF
  unfold needF at h
  split
  · rename_i hc
    rw [if_pos hc] at h
    exact two_out h
  · rename_i hc
    rw [if_neg hc] at h
    split
    · rename_i h3
      rw [if_pos h3] at h
      exact nxtS_out h
    · rename_i h3
      rw [if_neg h3] at h
      split
      · rename_i h5
        rw [if_pos h5] at h
        exact nxtS_out h
      · rename_i h5
        rw [if_neg h5] at h
        split
        · rename_i h7
          rw [if_pos h7] at h
          exact two_out h
        · rename_i h7
          rw [if_neg h7] at h
          split
          · rename_i h8
            rw [if_pos h8] at h
            exact nxtS_out h
          · rename_i h8
            rw [if_neg h8] at h
            exact absurd hn h
theorem numsF_true {ty fl : Int} {l : List UInt8} {n : Nat} : (numsF ty fl l n true).sh = true := by
  unfold numsF weiF
  repeat' split
  all_goals simp only [nxtS_true]
theorem need_ahead (ty fl : Int) : (if hasF ty fl 8 = true then 1 else 0) + needF ty fl = aheadF ty fl + fixF ty := by
  have h32 : hasF ty fl 32 = true → ty = 1 := has32_ty
  unfold needF aheadF fixF
  by_cases h1 : ty = 1
  · subst h1
    by_cases h : hasF 1 fl 32 = true <;> simp [h]
  · have hn : ¬ hasF ty fl 32 = true := fun e => h1 (h32 e)
    simp only [h1, false_and, false_or, hn, if_false]
    by_cases h2 : ty = 2
    · simp [h2]
    by_cases h3 : ty = 3
    · simp [h3]
    by_cases h5 : ty = 5
    · simp [h5]
    by_cases h7 : ty = 7
    · simp [h7]
    by_cases h8 : ty = 8
    · simp [h8]
    simp [h2, h3, h5, h7, h8]
theorem fix_ahead (ty fl : Int) (h : fixF ty ≠ 0) : aheadF ty fl = 0 := by
  have h32 : hasF ty fl 32 = true → ty = 1 := has32_ty
  have h8 : hasF ty fl 8 = true → ty = 0 ∨ ty = 1 ∨ ty = 5 := has8_ty
  have ht : ty = 2 ∨ ty = 3 ∨ ty = 8 ∨ ty = 7 := by
    unfold fixF at h
    by_cases g2 : ty = 2
    · exact .inl g2
    by_cases g3 : ty = 3
    · exact .inr (.inl g3)
    by_cases g8 : ty = 8
    · exact .inr (.inr (.inl g8))
    by_cases g7 : ty = 7
    · exact .inr (.inr (.inr g7))
    simp [g2, g3, g8, g7] at h
  unfold aheadF
  rw [if_neg (fun e => by have := h8 e; omega), if_neg (fun e => by have := h32 e; omega), if_neg (by omega)]
/-- Behind the numbers: how many bytes were read, and whether all were there. -/
theorem padN_at {ty fl : Int} {l : List UInt8} (hl : lenOk ty fl l.length = true) : (padN ty fl l).1.sh = decide (l.length < aheadF ty fl) ∧ (aheadF ty fl ≤ l.length → (padN ty fl l).1.n = aheadF ty fl + fixF ty) := by
  have hf := len_fix hl
  have hna := need_ahead ty fl
  have hfa : aheadF ty fl + fixF ty ≤ l.length ↔ aheadF ty fl ≤ l.length := by
    by_cases h : fixF ty = 0
    · rw [h]; rfl
    · rw [fix_ahead ty fl h]; omega
  unfold padN
  by_cases h8 : hasF ty fl 8 = true
  · simp only [h8, if_true] at hna ⊢
    by_cases h1 : 1 ≤ l.length
    · rw [nxtN_in (by omega), nxtS_in (by omega)]
      by_cases ha : aheadF ty fl ≤ l.length
      · have := numsF_in (ty := ty) (fl := fl) (l := l) (n := 0 + 1) (sh := false) (by have := hfa.2 ha; omega)
        rw [this.1, this.2, decide_eq_false (by omega)]
        exact ⟨rfl, fun _ => by omega⟩
      · rw [numsF_out (by omega) (by have : ¬ aheadF ty fl + fixF ty ≤ l.length := fun e => ha (hfa.1 e); omega), decide_eq_true (by omega)]
        exact ⟨rfl, fun e => absurd e ha⟩
    · rw [nxtS_out (by omega), numsF_true]
      have : 1 ≤ aheadF ty fl := by unfold aheadF; rw [if_pos h8]; omega
      rw [decide_eq_true (by omega)]
      exact ⟨rfl, fun e => by omega⟩
  · simp only [h8, if_false, Bool.false_eq_true] at hna ⊢
    by_cases ha : aheadF ty fl ≤ l.length
    · have := numsF_in (ty := ty) (fl := fl) (l := l) (n := 0) (sh := false) (by have := hfa.2 ha; omega)
      rw [this.1, this.2, decide_eq_false (by omega)]
      exact ⟨rfl, fun _ => by omega⟩
    · rw [numsF_out (by omega) (by have : ¬ aheadF ty fl + fixF ty ≤ l.length := fun e => ha (hfa.1 e); omega), decide_eq_true (by omega)]
      exact ⟨rfl, fun e => absurd e ha⟩
def parseF0 (ty fl st : Int) (l : List UInt8) : Fm × (Int × Int) := if strOk ty st = false then (zFm, (2, 1)) else if lenOk ty fl l.length = false then (zFm, (if ty = 0 ∨ ty = 2 then 1 else 2, 6)) else insF ty fl st l
theorem num1_head {l : List UInt8} (h : 1 ≤ l.length) : (numF 1 l 0).1 = ((l.headD 0).toNat : Int) := by
  cases l with
  | nil => simp at h
  | cons x r =>
    unfold numF
    rw [List.drop_zero, getF_in h]
    simp [beN]
theorem fix8 {ty fl : Int} (h : hasF ty fl 8 = true) : fixF ty = 0 := by
  rcases has8_ty h with rfl | rfl | rfl <;> rfl
theorem ins_fault {ty fl st : Int} {l : List UInt8} (hs : strOk ty st = true) (hl : lenOk ty fl l.length = true) : (insF ty fl st l).2 = faultF ty fl st l := by
  obtain ⟨p1, p2⟩ := padN_at hl
  have hp : (padN ty fl l).2 = if hasF ty fl 8 = true then (numF 1 l 0).1 else -1 := rfl
  unfold insF faultF
  simp only [hs, hl, Bool.true_eq_false, if_false]
  generalize padN ty fl l = M at p1 p2 hp ⊢
  by_cases ha : l.length < aheadF ty fl
  · rw [p1, decide_eq_true ha, if_pos rfl, if_pos ha]
    by_cases h0 : ty = 0
    · rw [if_pos (.inl h0), if_pos h0]
    · rw [if_neg h0]
      have h2 : ¬ ty = 2 := fun e => by
        have := fix_ahead ty fl (by rw [e]; decide)
        omega
      rw [if_neg (by simp [h0, h2])]
  · have hm := p2 (by omega)
    rw [p1, decide_eq_false ha, if_neg (by simp), if_neg ha, hm, hp]
    by_cases h8 : hasF ty fl 8 = true
    · have h1 : 1 ≤ aheadF ty fl := by unfold aheadF; rw [if_pos h8]; omega
      simp only [h8, if_true, true_and]
      rw [num1_head (by omega), fix8 h8]
      by_cases hx : l.length < (l.headD 0).toNat + aheadF ty fl
      · rw [if_pos (by omega), if_pos hx]
      · rw [if_neg (by omega), if_neg hx]
        split <;> rfl
    · simp only [h8, if_false, Bool.false_eq_true, false_and]
      rw [if_neg (by omega)]
      split <;> rfl
/-- Whatever the frame: its fault is the document's. -/
theorem parse_fault (ty fl st : Int) (l : List UInt8) : (parseF0 ty fl st l).2 = faultF ty fl st l := by
  cases hs : strOk ty st
  · unfold parseF0 faultF
    simp only [hs, if_true]
  · cases hl : lenOk ty fl l.length
    · have h0 : ¬ ty = 0 := fun e => by subst e; simp [lenOk] at hl
      unfold parseF0 faultF
      simp only [hs, hl, if_true, Bool.true_eq_false, if_false, h0, false_or]
    · rw [← ins_fault hs hl]
      unfold parseF0
      simp only [hs, hl, Bool.true_eq_false, if_false]
end Go.Proofs.YtjhhdgmhocpceaaGreatDoor
/-
  Settings out of bytes: the document's; which settings may be, both.
-/
namespace Go.Proofs.YtjhhdgmhocpceaaGreatDoor
set_option linter.unusedSimpArgs false
set_option linter.unusedVariables false
set_option linter.unusedSectionVars false
open Go.ChangeShapes Go.WideShapes Go.ChangeAt Go.RowKit Go.Deep Go.Shelf

def StqP (B : Nat) (l : List UInt8) (w : World) (e : Ending) (w' : World) : Prop :=
  ∃ a c, e = .returned (.tuple #[.slice a (setsF l).length c, .bool true]) ∧ (setsF l).length ≤ c ∧ SlG w' w'.heap.size a (setsF l) ∧ (∀ p, a = some p → B ≤ p.block) ∧ Below B w w'
set_option maxHeartbeats 4000000 in
set_option maxRecDepth 100000 in
theorem ref13_Parse (a : Option Addr) (c : Nat) (l : List UInt8) (w : World) (h : SlB w w.heap.size a l) (hc : l.length ≤ c) (h6 : l.length % 6 = 0) (hl : l.length ≤ 1048576) :
    Calls Tryz.prog 60 #[.slice a l.length c] w (StqP w.heap.size l w) := by
  obtain ⟨n, hn⟩ : ∃ n, l.length = 6 * n := ⟨l.length / 6, by omega⟩
  have HLn := Lib.hid hn
  have HSF : Hid (setsF l = setsK l n) := by show _ = _; unfold setsF; rw [hn, Nat.mul_div_cancel_left _ (by omega)]
  have HLL : Hid (l.length ≤ 1048576) := hl
  have HS := Lib.hid h
  have HC := Lib.hid hc
  clear h h6 hn hl hc
  unfold StqP
  go_enter Tryz.func60, Tryz.ntmps60
  go_wp2_with fail
  go_loopg [0, 4] (n + 1) (fun q b v wr => ∃ k a' c', k + q = n + 1 ∧ k ≤ n ∧ b = .slice a' (6 * (n - k)) c' ∧ 6 * (n - k) ≤ c' ∧ SlB w w.heap.size a' (l.drop (6 * k)) ∧ OwnC StT 2 stC w.heap.size wr v (setsK l k) ∧ Below w.heap.size w wr)
  case atStart => exact ⟨0, a, c, by omega, by omega, by rw [HLn.out]; rfl, by have := HLn.out; have := HC.out; omega, HS.out, OwnC.nil _ _, Below.refl _ _⟩
  case round =>
    obtain ⟨k, a', c', hkq, hkn, rfl, hcc, hs, ho, hb⟩ := hrel
    have HS := Lib.hid hs
    have HO := Lib.hid ho
    have HB := Lib.hid hb
    have HSC : Hid (setsK l (k + 1) = setsK l k ++ [setAt l k]) := setsK_succ l k
    obtain ⟨r, hr⟩ : ∃ r, r = 6 * (n - k) := ⟨_, rfl⟩
    rw [← hr] at hcc ⊢
    by_cases hlt : k < n
    · obtain ⟨b, o, rfl, -, -⟩ := SlR.atB HS.out (k := 0) (by have := HLn.out; simp; omega)
      have HLd : Hid ((l.drop (6 * k)).length = r) := by show _ = _; have := HLn.out; simp; omega
      have HG1 : Hid (∀ W, Below w.heap.size w W → Calls Tryz.prog 92 #[.slice (some ⟨b, o, none⟩) r c', .int .i64 2] W fun e w' => e = .returned (.tuple #[.int .i64 (setAt l k).1, .int .i64 0]) ∧ ∃ j, w' = W.more j) := fun W hW => by
        have := ref01_Get 2 (by decide) (by decide) _ c' (l.drop (6 * k)) W (HS.out.grow hW)
        rw [HLd.out, getF_in (by rw [HLd.out]; omega)] at this
        exact this
      have HG2 : Hid (∀ W, Below w.heap.size w W → Calls Tryz.prog 92 #[.slice (some ⟨b, o + 2, none⟩) (r - 2) (c' - 2), .int .i64 4] W fun e w' => e = .returned (.tuple #[.int .i64 (setAt l k).2, .int .i64 0]) ∧ ∃ j, w' = W.more j) := fun W hW => by
        have hd := SlR.drop HS.out 2
        have := ref01_Get 4 (by decide) (by decide) (some ⟨b, o + 2, none⟩) (c' - 2) ((l.drop (6 * k)).drop 2) W (SlB.grow hd hW)
        rw [List.length_drop, HLd.out, getF_in (by rw [List.length_drop, HLd.out]; omega), List.drop_drop] at this
        exact this
      have HND : Hid (∀ m, m = 6 → SlB w w.heap.size (if c' = m then some ⟨b, o, none⟩ else some ⟨b, o + m, none⟩) (l.drop (6 * (k + 1)))) := fun m hm => by
        subst hm
        have := SlR.drop_if HS.out 6 (cap := c') (by rw [HLd.out]; exact hcc)
        rwa [List.drop_drop, Nat.mul_one] at this
      have hr6 : 6 ≤ r := by omega
      have hr2 : (r : Int) ≥ 6 := by omega
      have c2 : ¬ c' = 2 := by omega
      have c22 : (2 : Nat) ≤ c' := by omega
      have c66 : (6 : Nat) ≤ c' := by omega
      have r22 : (2 : Nat) ≤ r := by omega
      have HRK : Hid (r - 6 = 6 * (n - (k + 1))) := by show _ = _; omega
      have hz := HB.out.size
      have hkl : (setsK l k).length ≤ 1000000 := by rw [setsK_len]; have := HLn.out; have := HLL.out; omega
      have HKQ := Lib.hid hkq
      have HLT := Lib.hid hlt
      have HR := Lib.hid hr
      generalize setAt l k = S at HG1 HG2 HSC
      clear hs ho hb hkq hkn hr hlt
      go_wp2_with (first | (go_at_call 92; (with_reducible refine (HG1.out _ (HB.out.trans (Below.mono (B := wr.heap.size) bel hz))).mono ?_); rintro e w' ⟨rfl, j, rfl⟩) | (go_at_call 92; (with_reducible refine (HG2.out _ (HB.out.trans (Below.mono (B := wr.heap.size) bel hz))).mono ?_); rintro e w' ⟨rfl, j, rfl⟩) | (at_builtin; refine app_c st_sets stC_len stC_cells (by decide) (.tmp 23) (.tmp 27) (y := S) rfl rfl rfl (HO.out.below bel (Nat.le_refl _)) rfl blk rfl (by omega) (by simp only [World.size_alloc, World.size_more]; omega) ?_; intro v' w5 h5 hb5))
      all_goals
        have hs6 := HND.out 6 rfl
        have hb5' : Below w.heap.size w w5 := HB.out.trans (Below.trans (Below.mono (B := wr.heap.size) bel hz) hb5)
        go_roundg (n - k)
        case measure => have := HKQ.out; have := HLT.out; omega
        case rel =>
          first
            | (rw [if_pos (by assumption)] at hs6; exact ⟨k + 1, _, _, by have := HKQ.out; have := HLT.out; omega, by have := HLT.out; omega, by rw [← HRK.out], by have := HRK.out; omega, hs6, by rw [HSC.out]; exact h5, hb5'⟩)
            | (rw [if_neg (by assumption)] at hs6; exact ⟨k + 1, _, _, by have := HKQ.out; have := HLT.out; omega, by have := HLT.out; omega, by rw [← HRK.out], by have := HRK.out; omega, hs6, by rw [HSC.out]; exact h5, hb5'⟩)
    · obtain rfl : k = n := by omega
      have hr0 : ¬ (r : Int) ≥ 6 := by omega
      have hr1 : ¬ (r : Int) > 0 := by omega
      go_wp2_with fail
      obtain ⟨a9, c9, e9, hc9, hs9, hn9⟩ := HO.out.full stC_len
      subst e9
      go_ret2
      rw [HSF.out]
      exact ⟨a9, c9, rfl, hc9, hs9, hn9, HB.out⟩
end Go.Proofs.YtjhhdgmhocpceaaGreatDoor
/-
  The document's frame: whether it is one; numbers in it.
-/
namespace Go.Proofs.YtjhhdgmhocpceaaGreatDoor
set_option linter.unusedSimpArgs false
set_option linter.unusedVariables false
set_option linter.unusedSectionVars false
open Go.ChangeShapes Go.WideShapes Go.ChangeAt Go.RowKit Go.Deep Go.Shelf

theorem add_at (b o k : Nat) : (⟨b, o, none⟩ : Addr).add k = ⟨b, o + k, none⟩ := by unfold Addr.add; by_cases h : k = 0 <;> simp [h]
set_option maxHeartbeats 4000000 in
set_option maxRecDepth 100000 in
theorem ref14_Right (fr ty fl st : Int) (rs : Bool) (a : Option Addr) (n c : Nat) (w : World) : Calls Tryz.prog 34 #[rawV fr ty fl st rs a n c] w fun e w' => e = .returned (.bool (headR n ty fl st)) ∧ ∃ j, w' = w.more j := by
  have hR : headR n ty fl st = (decide (ty ≥ 0) && (decide (ty < 256) && (decide (fl ≥ 0) && (decide (fl < 256) && (decide (st ≥ 0) && (decide (st < 2147483648) && decide ((n : Int) < 16777216))))))) := by
    have h1 : (headR n ty fl st = true) = ((decide (ty ≥ 0) && (decide (ty < 256) && (decide (fl ≥ 0) && (decide (fl < 256) && (decide (st ≥ 0) && (decide (st < 2147483648) && decide ((n : Int) < 16777216))))))) = true) := by
      unfold headR
      simp only [Bool.and_eq_true, inB_iff, decide_eq_true_eq]
      exact propext ⟨fun h => by omega, fun h => by omega⟩
    cases h2 : headR n ty fl st <;> rw [h2] at h1
    · cases h3 : (decide (ty ≥ 0) && (decide (ty < 256) && (decide (fl ≥ 0) && (decide (fl < 256) && (decide (st ≥ 0) && (decide (st < 2147483648) && decide ((n : Int) < 16777216)))))))
      · rfl
      · rw [h3] at h1; simp at h1
    · exact (h1.mp rfl).symm
  generalize headR n ty fl st = R at hR ⊢
  have HR := Lib.hid hR
  clear hR
  by_cases h1 : ty ≥ 0
  case neg =>
    have HR1 : Hid (R = false) := by show _ = _; rw [HR.out]; simp [h1]
    clear HR
    go_enter Tryz.func34, Tryz.ntmps34
    go_wp2_with fail
    go_ret
    exact ⟨by rw [HR1.out]; rfl, Below.junk bel⟩
  by_cases h2 : ty < 256
  case neg =>
    have HR1 : Hid (R = false) := by show _ = _; rw [HR.out]; simp [h2]
    clear HR
    go_enter Tryz.func34, Tryz.ntmps34
    go_wp2_with fail
    go_ret
    exact ⟨by rw [HR1.out]; rfl, Below.junk bel⟩
  by_cases h3 : fl ≥ 0
  case neg =>
    have HR1 : Hid (R = false) := by show _ = _; rw [HR.out]; simp [h3]
    clear HR
    go_enter Tryz.func34, Tryz.ntmps34
    go_wp2_with fail
    go_ret
    exact ⟨by rw [HR1.out]; rfl, Below.junk bel⟩
  by_cases h4 : fl < 256
  case neg =>
    have HR1 : Hid (R = false) := by show _ = _; rw [HR.out]; simp [h4]
    clear HR
    go_enter Tryz.func34, Tryz.ntmps34
    go_wp2_with fail
    go_ret
    exact ⟨by rw [HR1.out]; rfl, Below.junk bel⟩
  by_cases h5 : st ≥ 0
  case neg =>
    have HR1 : Hid (R = false) := by show _ = _; rw [HR.out]; simp [h5]
    clear HR
    go_enter Tryz.func34, Tryz.ntmps34
    go_wp2_with fail
    go_ret
    exact ⟨by rw [HR1.out]; rfl, Below.junk bel⟩
  by_cases h6 : st < 2147483648
  case neg =>
    have HR1 : Hid (R = false) := by show _ = _; rw [HR.out]; simp [h6]
    clear HR
    go_enter Tryz.func34, Tryz.ntmps34
    go_wp2_with fail
    go_ret
    exact ⟨by rw [HR1.out]; rfl, Below.junk bel⟩
  by_cases h7 : (n : Int) < 16777216
  · have HR1 : Hid (R = true) := by show _ = _; rw [HR.out]; simp only [h1, h2, h3, h4, h5, h6, h7, decide_true, Bool.and_self]
    clear HR
    go_enter Tryz.func34, Tryz.ntmps34
    go_wp2_with fail
    go_ret
    exact ⟨by rw [HR1.out]; rfl, Below.junk bel⟩
  · have HR1 : Hid (R = false) := by show _ = _; rw [HR.out]; simp only [h1, h2, h3, h4, h5, h6, h7, decide_true, decide_false, Bool.true_and]
    clear HR
    go_enter Tryz.func34, Tryz.ntmps34
    go_wp2_with fail
    go_ret
    exact ⟨by rw [HR1.out]; rfl, Below.junk bel⟩
set_option maxHeartbeats 2000000 in
set_option maxRecDepth 100000 in
theorem ref14_number (a : Option Addr) (c : Nat) (l : List UInt8) (k : Nat) (hk : k + 4 ≤ l.length) (hc : l.length ≤ c) (w : World) (h : SlB w w.heap.size a l) :
    Calls Tryz.prog 58 #[.slice a l.length c, .int .i64 (k : Int)] w fun e w' => e = .returned (.tuple #[.int .i64 (lowF (numF 4 l k).1).1, .bool (lowF (numF 4 l k).1).2]) ∧ ∃ j, w' = w.more j := by
  obtain ⟨b, o, rfl, -, -⟩ := SlR.atB h (k := 0) (by omega)
  obtain ⟨v, hv, hv2⟩ : ∃ v : Nat, (numF 4 l k).1 = (v : Int) ∧ v < 4294967296 := by
    unfold numF
    rw [getF_in (by simp; omega)]
    exact ⟨_, rfl, beN_small (by simp; omega)⟩
  have HG : Hid (Calls Tryz.prog 92 #[.slice (some ⟨b, o + k, none⟩) (l.length - k) (c - k), .int .i64 4] w fun e w' => e = .returned (.tuple #[.int .i64 v, .int .i64 0]) ∧ ∃ j, w' = w.more j) := by
    have hd := SlR.drop h k
    rw [Nat.mul_one, Option.map_some, add_at] at hd
    have := ref01_Get 4 (by decide) (by decide) _ (c - k) (l.drop k) w hd
    have hx : (getF 4 (l.drop k)).2 = 0 := by rw [getF_in (by simp; omega)]
    rw [List.length_drop, hx] at this
    unfold numF at hv
    rw [hv] at this
    exact this
  have HL : Hid (∀ W, Calls Tryz.prog 93 #[.int .i64 (v : Int)] W fun e w' => e = .returned (.tuple #[.int .i64 (lowF v).1, .bool (lowF v).2]) ∧ W = w') := ref01_Low v (by omega) (by omega)
  rw [hv]
  have c1 : ¬ c = k := by omega
  have c2 : k ≤ l.length := by omega
  have c3 : k ≤ c := by omega
  clear h hv
  generalize lowF v = L at HL ⊢
  go_enter Tryz.func58, Tryz.ntmps58
  go_wp2_with (first | (go_at_call 92; (with_reducible refine (HG.out).mono ?_); rintro e w' ⟨rfl, j, rfl⟩) | (go_at_call 93; (with_reducible refine (HL.out _).mono ?_); rintro e w' ⟨rfl, rfl⟩))
  go_ret2
  exact ⟨rfl, _, rfl⟩
set_option maxHeartbeats 2000000 in
set_option maxRecDepth 100000 in
theorem ref14_code (a : Option Addr) (c : Nat) (l : List UInt8) (k : Nat) (hk : k + 4 ≤ l.length) (hc : l.length ≤ c) (w : World) (h : SlB w w.heap.size a l) :
    Calls Tryz.prog 59 #[.slice a l.length c, .int .i64 (k : Int)] w fun e w' => e = .returned (.int .i64 (numF 4 l k).1) ∧ ∃ j, w' = w.more j := by
  obtain ⟨b, o, rfl, -, -⟩ := SlR.atB h (k := 0) (by omega)
  have HG : Hid (Calls Tryz.prog 92 #[.slice (some ⟨b, o + k, none⟩) (l.length - k) (c - k), .int .i64 4] w fun e w' => e = .returned (.tuple #[.int .i64 (numF 4 l k).1, .int .i64 0]) ∧ ∃ j, w' = w.more j) := by
    have hd := SlR.drop h k
    rw [Nat.mul_one, Option.map_some, add_at] at hd
    have := ref01_Get 4 (by decide) (by decide) _ (c - k) (l.drop k) w hd
    have hx : (getF 4 (l.drop k)).2 = 0 := by rw [getF_in (by simp; omega)]
    rw [List.length_drop, hx] at this
    exact this
  have c1 : ¬ c = k := by omega
  have c2 : k ≤ l.length := by omega
  have c3 : k ≤ c := by omega
  clear h
  generalize (numF 4 l k).1 = V at HG ⊢
  go_enter Tryz.func59, Tryz.ntmps59
  go_wp2_with (first | (go_at_call 92; (with_reducible refine (HG.out).mono ?_); rintro e w' ⟨rfl, j, rfl⟩))
  go_ret
  exact ⟨rfl, _, rfl⟩
end Go.Proofs.YtjhhdgmhocpceaaGreatDoor
/-
  The document's frame, where it has a fault.
-/
namespace Go.Proofs.YtjhhdgmhocpceaaGreatDoor
set_option linter.unusedSimpArgs false
set_option linter.unusedVariables false
set_option linter.unusedSectionVars false
open Go.ChangeShapes Go.WideShapes Go.ChangeAt Go.RowKit Go.Deep Go.Shelf

theorem fault_zero {ty fl st : Int} {l : List UInt8} : ((faultF ty fl st l).1 = 0 ↔ faultF ty fl st l = (0, 0)) := by
  unfold faultF
  repeat' split
  all_goals simp
theorem parse_zero {ty fl st : Int} {l : List UInt8} (h : ¬ (faultF ty fl st l).1 = 0) : (parseF0 ty fl st l).1 = zFm := by
  rw [← parse_fault] at h
  unfold parseF0 at h ⊢
  split
  · rfl
  · rename_i hs
    rw [if_neg hs] at h
    split
    · rfl
    · rename_i hl
      rw [if_neg hl] at h
      unfold insF at h ⊢
      simp only at h ⊢
      split
      · rfl
      · rename_i h1
        rw [if_neg h1] at h
        split
        · rfl
        · rename_i h2
          rw [if_neg h2] at h
          split at h <;> simp at h
def RpaP (p : Fm × (Int × Int)) (w : World) (e : Ending) (w' : World) : Prop := ∃ cs, e = .returned (.tuple #[.agg cs, fuV p.2]) ∧ FmIs w' w.heap.size p.1 cs ∧ Below w.heap.size w w'
set_option maxHeartbeats 4000000 in
set_option maxRecDepth 100000 in
theorem ref14_Parse_bad (fr ty fl st : Int) (rs : Bool) (a : Option Addr) (c : Nat) (l : List UInt8) (h0 : 0 ≤ fl) (h1 : fl ≤ 255) (hl : l.length ≤ 1048576) (hf : ¬ (faultF ty fl st l).1 = 0) (w : World) (h : SlB w w.heap.size a l) :
    Calls Tryz.prog 35 #[rawV fr ty fl st rs a l.length c] w (RpaP (parseF0 ty fl st l) w) := by
  have HF : Hid (∀ W, Below w.heap.size w W → Calls Tryz.prog 56 #[rawV fr ty fl st rs a l.length c] W (FauP (faultF ty fl st l) W)) := fun W hW => ref14_fault fr ty fl st rs a c l h0 h1 (by omega) W (h.grow hW)
  have HP : Hid (parseF0 ty fl st l = (zFm, faultF ty fl st l)) := Prod.ext (parse_zero hf) (parse_fault ty fl st l)
  obtain ⟨R, hR⟩ : ∃ R, R = parseF0 ty fl st l := ⟨_, rfl⟩
  rw [← hR] at HP ⊢
  unfold FauP at HF
  generalize faultF ty fl st l = G at HF HP hf
  obtain ⟨g1, g2⟩ := G
  simp only at hf
  clear h hR h0 h1
  go_enter Tryz.func35, Tryz.ntmps35
  go_wp2_with (go_at_call 56; (with_reducible refine (HF.out _ bel).mono ?_); rintro e w' ⟨rfl, j, rfl⟩)
  refine wnm fun wz hwz => ?_
  have HB : Hid (Below w.heap.size w wz) := by show Below _ _ _; rw [hwz]; exact bel
  have HK1 : Hid (Blk wz (w.heap.size + 1) FrmT (fmC 0 0 0 0 none 0 0 none 0 0 0 0 false 0 0 0 0)) := by show Blk _ _ _ _; rw [hwz]; exact blk
  have HK2 : Hid (Blk wz (w.heap.size + 2) FuT #[.int .i64 0, .int .i64 0]) := by show Blk _ _ _ _; rw [hwz]; exact blk
  obtain ⟨gb, hgb⟩ : ∃ gb, gb = w.heap.size + 1 + 1 + 1 + j.heap.size := ⟨_, rfl⟩
  have HKB : Hid (Blk wz gb FuT #[.int .i64 g1, .int .i64 g2]) := by show Blk _ _ _ _; rw [hwz, hgb]; exact blk
  rw [← hgb]
  have hgb2 : w.heap.size + 3 ≤ gb := by omega
  clear hwz hgb
  refine gg_start (Gp (fun q => q = w.heap.size + 1 ∨ q = w.heap.size + 2)) (fun _ => Gp.refl _) (h := ?_)
  have HKD : Hid (Blk wz.drew gb FuT #[.int .i64 g1, .int .i64 g2]) := HKB.out
  refine tk 0 ?_
  refine tkl 1 (fun wS h => h.blk HKD.out (by omega)) Tryz.underlying38 ?_
  refine gg_step (fun _ _ _ h h2 => h.trans h2) 2 (by kernel_rfl) rfl (fun K hK => ?_)
  rw [if_pos (by kernel_rfl)]
  refine wp_store_row FrmT _ _ rfl (w.heap.size + 1) _ rfl rfl FrmT _ HK1.out.drew (by kernel_rfl) rfl fm_one (hK.out _ _ ((gp_row _ _ _).imp fun _ e => .inl e) ?_)
  clear hK K
  try simp only [Act.put, nfa, nfb, nfc, nfd, List.set_cons_zero, List.set_cons_succ]
  refine gg_step (fun _ _ _ h h2 => h.trans h2) 3 (by kernel_rfl) rfl (fun K hK => ?_)
  rw [if_pos (by kernel_rfl)]
  refine wp_store_row FuT _ _ rfl (w.heap.size + 2) _ rfl rfl FuT _ ((gp_row _ _ _).blk HK2.out.drew (by omega)) (by kernel_rfl) rfl fu_one (hK.out _ _ ((gp_row _ _ _).imp fun _ e => .inr e) ?_)
  clear hK K
  try simp only [Act.put, nfa, nfb, nfc, nfd, List.set_cons_zero, List.set_cons_succ]
  refine wpAnyH_done (by kernel_rfl) ?_ _
  go_wp2_with fail
  refine bodyPost_ret (res_cell2 rfl st_Fm rfl ((gp_row _ (w.heap.size + 2) _).blk (blk_row HK1.out.drew _) (by omega)) rfl st_Fu rfl (blk_row ((gp_row _ (w.heap.size + 1) _).blk HK2.out.drew (by omega)) _) rfl) rfl ⟨_, by rw [HP.out], by rw [HP.out]; exact zFm_is _ _, below_row (below_row (Below.drew HB.out) (by omega) _) (by omega) _⟩
end Go.Proofs.YtjhhdgmhocpceaaGreatDoor
/-
  The document's frame, where it has no fault: types without numbers.
-/
namespace Go.Proofs.YtjhhdgmhocpceaaGreatDoor
set_option linter.unusedSimpArgs false
set_option linter.unusedVariables false
set_option linter.unusedSectionVars false
open Go.ChangeShapes Go.WideShapes Go.ChangeAt Go.RowKit Go.Deep Go.Shelf

theorem bytes_flat (l m : List UInt8) : Lib.byteCells (l ++ m) = Lib.byteCells l ++ m.flatMap (fun (x : UInt8) => [.int .u8 (x.toNat : Int)]) := by
  unfold Lib.byteCells
  rw [List.map_append]
  congr 1
  induction m with
  | nil => rfl
  | cons x r ih => simp [ih]
theorem step_bytes {ops : Array Oper} {o : Oper} {a : Act} {K : Act → World → Prop} {Q : Exit → Act → World → Prop} {E : Prop} {w : World}
    (s x : Operand) (hgd : o.guard = none) (ho : o.op = .call { callee := .builtin .append, args := #[s, x], argTypes := #[22, 22] })
    {B C : Nat} {v : Value} {l m : List UInt8} (hs : a.eval s = v) (hown : OwnB B w v l)
    {A : Option Addr} {n c : Nat} (hx : a.eval x = .slice A n c) (hn : m.length = n) (hr : SlB w C A m)
    (hl : l.length + n ≤ 140737488355328) (hB : B ≤ w.heap.size)
    (h : ∀ v' w', OwnB B w' v' (l ++ m) → Below B w w' → K (a.put o.dst v') w') : if Region.wanted o (yielded ops a.tmps) = true then Oper.wp Tryz.prog o a w K Q else E := by
  refine step_app_sl st_bytes s x hgd ho hs hown hx hn hr (cf := fun (x : UInt8) => [.int .u8 (x.toNat : Int)]) (fun _ _ _ h => h) (fun _ _ => rfl) (fun _ _ u hu => by simp at hu; subst hu; rfl) (by unfold maxLen; omega) (by omega) hB (fun v' w' h1 h2 => h v' w' ?_ (own_grown (Below.refl B w) hown h2 (Nat.le_refl _) hB))
  unfold OwnB
  rw [bytes_flat, List.length_append, hn]
  exact h1
set_option maxHeartbeats 4000000 in
set_option maxRecDepth 100000 in
theorem ref14_Parse_plain (fr ty fl st : Int) (rs : Bool) (a : Option Addr) (c : Nat) (l : List UInt8) (h0 : 0 ≤ fl) (h1 : fl ≤ 255) (hl : l.length ≤ 1048576) (hlc : l.length ≤ c) (hf : (faultF ty fl st l).1 = 0)
    (e8 : hasF ty fl 8 = false) (e32 : hasF ty fl 32 = false) (g2 : ¬ ty = 2) (g3 : ¬ ty = 3) (g4 : ¬ ty = 4) (g5 : ¬ ty = 5) (g7 : ¬ ty = 7) (g8 : ¬ ty = 8) (w : World) (h : SlB w w.heap.size a l) :
    Calls Tryz.prog 35 #[rawV fr ty fl st rs a l.length c] w (RpaP (⟨ty, fl, st, -1, l, [], 0, 0, false, 0, 0, 0, 0⟩, (0, 0)) w) := by
  have HF : Hid (∀ W, Below w.heap.size w W → Calls Tryz.prog 56 #[rawV fr ty fl st rs a l.length c] W (FauP (0, 0) W)) := fun W hW => by
    have := ref14_fault fr ty fl st rs a c l h0 h1 (by omega) W (h.grow hW)
    rwa [fault_zero.1 hf] at this
  have H8 : Hid (∀ W, Calls Tryz.prog 57 #[.int .i64 ty, .int .i64 fl, .int .i64 8] W fun e w' => e = .returned (.bool false) ∧ W = w') := fun W => by have := ref08_Has ty fl 8 (by simp) h0 h1 W; rwa [e8] at this
  have H32 : Hid (∀ W, Calls Tryz.prog 57 #[.int .i64 ty, .int .i64 fl, .int .i64 32] W fun e w' => e = .returned (.bool false) ∧ W = w') := fun W => by have := ref08_Has ty fl 32 (by simp) h0 h1 W; rwa [e32] at this
  have HS := Lib.hid h
  have HLC := Lib.hid hlc
  unfold FauP at HF
  clear h h0 h1 hf e8 e32
  go_enter Tryz.func35, Tryz.ntmps35
  go_wp2_with (first | (go_at_call 56; (with_reducible refine (HF.out _ bel).mono ?_); rintro e w' ⟨rfl, j, rfl⟩) | (go_at_call 57; (with_reducible refine (H8.out _).mono ?_); rintro e w' ⟨rfl, rfl⟩) | (go_at_call 57; (with_reducible refine (H32.out _).mono ?_); rintro e w' ⟨rfl, rfl⟩))
  refine wnm fun wz hwz => ?_
  obtain ⟨gb, hgb⟩ : ∃ gb, gb = w.heap.size + 1 + 1 + 1 + j.heap.size + 1 := ⟨_, rfl⟩
  have HB : Hid (Below w.heap.size w wz) := by show Below _ _ _; rw [hwz]; exact bel
  have HK1 : Hid (Blk wz (w.heap.size + 1) FrmT (fmC 0 0 0 0 none 0 0 none 0 0 0 0 false 0 0 0 0)) := by show Blk _ _ _ _; rw [hwz]; exact blk
  have HK2 : Hid (Blk wz (w.heap.size + 2) FuT #[.int .i64 0, .int .i64 0]) := by show Blk _ _ _ _; rw [hwz]; exact blk
  have HKF : Hid (Blk wz gb FrmT (fmC ty fl st (-1) none 0 0 none 0 0 0 0 false 0 0 0 0)) := by show Blk _ _ _ _; rw [hwz, hgb]; exact blk
  rw [← hgb]
  have hgb2 : w.heap.size + 3 ≤ gb := by omega
  clear hwz hgb
  refine gg_start (Gp (fun q => q = gb)) (fun _ => Gp.refl _) (h := ?_)
  obtain ⟨wd, hwd⟩ : ∃ wd, wd = wz.drew := ⟨_, rfl⟩
  rw [← hwd]
  have HBD : Hid (Below w.heap.size w wd) := by show Below _ _ _; rw [hwd]; exact Below.drew HB.out
  have HD1 : Hid (Blk wd (w.heap.size + 1) FrmT (fmC 0 0 0 0 none 0 0 none 0 0 0 0 false 0 0 0 0)) := by show Blk _ _ _ _; rw [hwd]; exact HK1.out
  have HD2 : Hid (Blk wd (w.heap.size + 2) FuT #[.int .i64 0, .int .i64 0]) := by show Blk _ _ _ _; rw [hwd]; exact HK2.out
  have HDF : Hid (Blk wd gb FrmT (fmC ty fl st (-1) none 0 0 none 0 0 0 0 false 0 0 0 0)) := by show Blk _ _ _ _; rw [hwd]; exact HKF.out
  clear hwd
  have d4 : wd.cell? ⟨gb, 4, none⟩ = some (.slice none 0 0) := HDF.out.cell 4
  have dl := HDF.out.lt
  refine tk 0 ?_
  refine tk 2 ?_
  refine tk 3 ?_
  refine tk 4 ?_
  refine tk 5 ?_
  refine gg_step (fun _ _ _ h h2 => h.trans h2) 1 (by kernel_rfl) rfl (fun K hK => ?_)
  go_simp
  go_wp2_with fail
  refine hK.out _ _ (Gp.refl _) ?_
  clear hK K
  try simp only [Act.put, nfa, nfb, nfc, nfd, List.set_cons_zero, List.set_cons_succ]
  refine gg_step (fun _ _ _ h h2 => h.trans h2) 6 (by kernel_rfl) rfl (fun K hK => ?_)
  refine step_bytes (.tmp 136) (.tmp 140) rfl rfl (B := wd.heap.size) (l := []) (m := l) rfl (OwnB.nil _ _) rfl rfl ((HS.out.grow HBD.out)) (by simp; omega) (Nat.le_refl _) (fun v' w5 ho hb5 => ?_)
  refine hK.out _ _ (Gp.of_below hb5) ?_
  clear hK K
  try simp only [Act.put, nfa, nfb, nfc, nfd, List.set_cons_zero, List.set_cons_succ]
  obtain ⟨a5, c5, rfl, hc5, hs5, hn5⟩ := OwnB.full ho
  rw [List.nil_append] at hc5 hs5 ⊢
  have HB5 := Lib.hid hb5
  have HC5 := Lib.hid hc5
  have HS5 := Lib.hid hs5
  have HN5 := Lib.hid hn5
  have HF5 := Lib.hid (HDF.out.below hb5 dl)
  have x4 : w5.cell? ⟨gb, 4, none⟩ = some (.slice none 0 0) := HF5.out.cell 4
  have x4f := HF5.out.frozen 4
  have x4l := HF5.out.lt
  clear ho hb5 hc5 hs5 hn5 d4
  refine tk 7 ?_
  refine gg_step (fun _ _ _ h h2 => h.trans h2) 8 (by kernel_rfl) rfl (fun K hK => ?_)
  go_simp
  go_wp2_with fail
  obtain ⟨w6, hw6⟩ : ∃ w6, w6 = w5.setCell ⟨gb, 4, none⟩ (.slice a5 l.length c5) := ⟨_, rfl⟩
  rw [← hw6]
  have hg6 : Gp (fun q => q = gb) w5 w6 := by rw [hw6]; exact Gp.set (p := fun q => q = gb) _ rfl
  have HF6 : Hid (Blk w6 gb FrmT (fmC ty fl st (-1) a5 l.length c5 none 0 0 0 0 false 0 0 0 0)) := by show Blk _ _ _ _; rw [hw6]; exact HF5.out.set_ 4 _
  refine hK.out _ _ hg6 ?_
  have HG6 := Lib.hid hg6
  clear hK K hw6 hg6 x4 x4f x4l
  try simp only [Act.put, nfa, nfb, nfc, nfd, List.set_cons_zero, List.set_cons_succ]
  refine wpAnyH_done (by kernel_rfl) ?_ _
  go_wp2_with (first | (refine wpList_load_row rfl FrmT _ rfl gb rfl FrmT _ (0, 0) _ HF6.out Tryz.underlying53 rfl (by kernel_rfl) ?_) | (refine wpList_store_row rfl FrmT _ _ rfl (w.heap.size + 1) _ rfl rfl FrmT _ (HG6.out.blk (HD1.out.below HB5.out HD1.out.lt) (by omega)) (by kernel_rfl) rfl fm_one ?_) | (refine wpList_store_row rfl FuT _ _ rfl (w.heap.size + 2) _ rfl rfl FuT _ ((gp_row _ _ _).blk (HG6.out.blk (HD2.out.below HB5.out HD2.out.lt) (by omega)) (by omega)) (by kernel_rfl) rfl fu_one ?_))
  have hgg : Gp (fun q => q = w.heap.size + 1 ∨ q = w.heap.size + 2 ∨ q = gb) w5 _ := ((HG6.out.imp (fun k hk => .inr (.inr hk))).trans ((gp_row w6 (w.heap.size + 1) (fmC ty fl st (-1) a5 l.length c5 none 0 0 0 0 false 0 0 0 0)).imp (fun k hk => .inl hk))).trans ((gp_row _ (w.heap.size + 2) #[.int .i64 0, .int .i64 0]).imp (fun k hk => .inr (.inl hk)))
  refine bodyPost_ret (res_cell2 rfl st_Fm rfl ((gp_row _ (w.heap.size + 2) _).blk (blk_row (HG6.out.blk (HD1.out.below HB5.out HD1.out.lt) (by omega)) _) (by omega)) rfl st_Fu rfl (blk_row ((gp_row _ (w.heap.size + 1) _).blk (HG6.out.blk (HD2.out.below HB5.out HD2.out.lt) (by omega)) (by omega)) _) rfl) rfl ⟨_, rfl, ⟨a5, c5, none, 0, rfl, SlR.gpN (N := wd.heap.size) HS5.out HN5.out (fun k hk => by have := HD2.out.lt; omega) hgg, HC5.out, fun p hp => by have := HN5.out p hp; have := HBD.out.size; omega, .nil, Nat.le_refl _, fun p hp => by cases hp⟩, ?_⟩
  exact (HBD.out.trans (HB5.out.mono HBD.out.size)).trans (hgg.below (fun q hq => by omega) (Nat.le_trans HBD.out.size HB5.out.size))
end Go.Proofs.YtjhhdgmhocpceaaGreatDoor
/-
  The document's frame, where it has no fault: types of one number, settings.
-/
namespace Go.Proofs.YtjhhdgmhocpceaaGreatDoor
set_option linter.unusedSimpArgs false
set_option linter.unusedVariables false
set_option linter.unusedSectionVars false
open Go.ChangeShapes Go.WideShapes Go.ChangeAt Go.RowKit Go.Deep Go.Shelf

theorem no8 {ty fl : Int} (h : ¬ (ty = 0 ∨ ty = 1 ∨ ty = 5)) : hasF ty fl 8 = false := by
  cases he : hasF ty fl 8 with
  | false => rfl
  | true => exact absurd (has8_ty he) h
theorem no32 {ty fl : Int} (h : ¬ ty = 1) : hasF ty fl 32 = false := by
  cases he : hasF ty fl 32 with
  | false => rfl
  | true => exact absurd (has32_ty he) h
set_option maxHeartbeats 4000000 in
set_option maxRecDepth 100000 in
theorem ref14_Parse_3 (fr fl st : Int) (rs : Bool) (a : Option Addr) (c : Nat) (l : List UInt8) (h0 : 0 ≤ fl) (h1 : fl ≤ 255) (hl : l.length ≤ 1048576) (hlc : l.length ≤ c) (hf : (faultF 3 fl st l).1 = 0) (h4 : 4 ≤ l.length) (w : World) (h : SlB w w.heap.size a l) :
    Calls Tryz.prog 35 #[rawV fr 3 fl st rs a l.length c] w (RpaP (⟨3, fl, st, -1, [], [], 0, 0, false, 0, 0, (numF 4 l 0).1, 0⟩, (0, 0)) w) := by
  have HF : Hid (∀ W, Below w.heap.size w W → Calls Tryz.prog 56 #[rawV fr 3 fl st rs a l.length c] W (FauP (0, 0) W)) := fun W hW => by
    have := ref14_fault fr 3 fl st rs a c l h0 h1 (by omega) W (h.grow hW)
    rwa [fault_zero.1 hf] at this
  have H8 : Hid (∀ W, Calls Tryz.prog 57 #[.int .i64 3, .int .i64 fl, .int .i64 8] W fun e w' => e = .returned (.bool false) ∧ W = w') := fun W => by have := ref08_Has 3 fl 8 (by simp) h0 h1 W; rwa [no8 (by omega)] at this
  have H32 : Hid (∀ W, Calls Tryz.prog 57 #[.int .i64 3, .int .i64 fl, .int .i64 32] W fun e w' => e = .returned (.bool false) ∧ W = w') := fun W => by have := ref08_Has 3 fl 32 (by simp) h0 h1 W; rwa [no32 (by omega)] at this
  have HC : Hid (∀ W, Below w.heap.size w W → Calls Tryz.prog 59 #[.slice a l.length c, .int .i64 0] W fun e w' => e = .returned (.int .i64 (numF 4 l 0).1) ∧ ∃ j, w' = W.more j) := fun W hW => ref14_code a c l 0 (by omega) hlc W (h.grow hW)
  generalize (numF 4 l 0).1 = V at HC ⊢
  unfold FauP at HF
  clear h h0 h1 hf
  go_enter Tryz.func35, Tryz.ntmps35
  go_wp2_with (first | (go_at_call 56; (with_reducible refine (HF.out _ bel).mono ?_); rintro e w' ⟨rfl, j, rfl⟩) | (go_at_call 57; (with_reducible refine (H8.out _).mono ?_); rintro e w' ⟨rfl, rfl⟩) | (go_at_call 57; (with_reducible refine (H32.out _).mono ?_); rintro e w' ⟨rfl, rfl⟩) | (go_at_call 59; (with_reducible refine (HC.out _ bel).mono ?_); rintro e w' ⟨rfl, j, rfl⟩))
  refine bodyPost_ret (res_cell2 rfl st_Fm rfl (t := FrmT) (cs := fmC 3 fl st (-1) none 0 0 none 0 0 0 0 false 0 0 V 0) (g := w.heap.size + 1) blk rfl st_Fu rfl (t' := FuT) (cs' := #[.int .i64 0, .int .i64 0]) (g' := w.heap.size + 2) blk rfl) rfl ⟨_, rfl, ⟨none, 0, none, 0, rfl, .nil, Nat.le_refl _, (fun p hp => by cases hp), .nil, Nat.le_refl _, fun p hp => by cases hp⟩, bel⟩
set_option maxHeartbeats 4000000 in
set_option maxRecDepth 100000 in
theorem ref14_Parse_8 (fr fl st : Int) (rs : Bool) (a : Option Addr) (c : Nat) (l : List UInt8) (h0 : 0 ≤ fl) (h1 : fl ≤ 255) (hl : l.length ≤ 1048576) (hlc : l.length ≤ c) (hf : (faultF 8 fl st l).1 = 0) (h4 : 4 ≤ l.length) (w : World) (h : SlB w w.heap.size a l) :
    Calls Tryz.prog 35 #[rawV fr 8 fl st rs a l.length c] w (RpaP (⟨8, fl, st, -1, [], [], 0, 0, false, 0, 0, 0, (lowF (numF 4 l 0).1).1⟩, (0, 0)) w) := by
  have HF : Hid (∀ W, Below w.heap.size w W → Calls Tryz.prog 56 #[rawV fr 8 fl st rs a l.length c] W (FauP (0, 0) W)) := fun W hW => by
    have := ref14_fault fr 8 fl st rs a c l h0 h1 (by omega) W (h.grow hW)
    rwa [fault_zero.1 hf] at this
  have H8 : Hid (∀ W, Calls Tryz.prog 57 #[.int .i64 8, .int .i64 fl, .int .i64 8] W fun e w' => e = .returned (.bool false) ∧ W = w') := fun W => by have := ref08_Has 8 fl 8 (by simp) h0 h1 W; rwa [no8 (by omega)] at this
  have H32 : Hid (∀ W, Calls Tryz.prog 57 #[.int .i64 8, .int .i64 fl, .int .i64 32] W fun e w' => e = .returned (.bool false) ∧ W = w') := fun W => by have := ref08_Has 8 fl 32 (by simp) h0 h1 W; rwa [no32 (by omega)] at this
  have HC : Hid (∀ W, Below w.heap.size w W → Calls Tryz.prog 58 #[.slice a l.length c, .int .i64 0] W fun e w' => e = .returned (.tuple #[.int .i64 (lowF (numF 4 l 0).1).1, .bool (lowF (numF 4 l 0).1).2]) ∧ ∃ j, w' = W.more j) := fun W hW => ref14_number a c l 0 (by omega) hlc W (h.grow hW)
  generalize lowF (numF 4 l 0).1 = L at HC ⊢
  obtain ⟨V, vb⟩ := L
  unfold FauP at HF
  clear h h0 h1 hf
  go_enter Tryz.func35, Tryz.ntmps35
  go_wp2_with (first | (go_at_call 56; (with_reducible refine (HF.out _ bel).mono ?_); rintro e w' ⟨rfl, j, rfl⟩) | (go_at_call 57; (with_reducible refine (H8.out _).mono ?_); rintro e w' ⟨rfl, rfl⟩) | (go_at_call 57; (with_reducible refine (H32.out _).mono ?_); rintro e w' ⟨rfl, rfl⟩) | (go_at_call 58; (with_reducible refine (HC.out _ bel).mono ?_); rintro e w' ⟨rfl, j, rfl⟩))
  refine bodyPost_ret (res_cell2 rfl st_Fm rfl (t := FrmT) (cs := fmC 8 fl st (-1) none 0 0 none 0 0 0 0 false 0 0 0 V) (g := w.heap.size + 1) blk rfl st_Fu rfl (t' := FuT) (cs' := #[.int .i64 0, .int .i64 0]) (g' := w.heap.size + 2) blk rfl) rfl ⟨_, rfl, ⟨none, 0, none, 0, rfl, .nil, Nat.le_refl _, (fun p hp => by cases hp), .nil, Nat.le_refl _, fun p hp => by cases hp⟩, bel⟩
end Go.Proofs.YtjhhdgmhocpceaaGreatDoor
