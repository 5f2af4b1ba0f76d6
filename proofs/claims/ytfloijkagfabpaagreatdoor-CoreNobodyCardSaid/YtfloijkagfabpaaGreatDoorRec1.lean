/-
  Records: their words, their lines: plain laws.
-/
import Derived.Test.YtfloijkagfabpaaGreatDoorMd
namespace Go.Proofs.YtfloijkagfabpaaGreatDoor
set_option linter.unusedSimpArgs false
set_option linter.unusedVariables false
set_option linter.unusedSectionVars false
open Go.ChangeShapes Go.WideShapes Go.ChangeAt Go.RowKit Go.Deep

def sideF (n : Int) : List UInt8 := if n = 0 then [99, 108, 105, 101, 110, 116] else if n = 1 then [115, 101, 114, 118, 101, 114] else []
def kindF (n : Int) : List UInt8 := if n = 1 then [97, 108, 108, 111, 119, 101, 100] else if n = 2 then [105, 103, 110, 111, 114, 101, 100] else if n = 3 then [114, 101, 106, 101, 99, 116, 101, 100] else if n = 4 then [108, 105, 109, 105, 116, 101, 100] else []
def tyNames : List (List UInt8) := [[68, 65, 84, 65], [72, 69, 65, 68, 69, 82, 83], [80, 82, 73, 79, 82, 73, 84, 89], [82, 83, 84, 95, 83, 84, 82, 69, 65, 77], [83, 69, 84, 84, 73, 78, 71, 83], [80, 85, 83, 72, 95, 80, 82, 79, 77, 73, 83, 69], [80, 73, 78, 71], [71, 79, 65, 87, 65, 89], [87, 73, 78, 68, 79, 87, 95, 85, 80, 68, 65, 84, 69], [67, 79, 78, 84, 73, 78, 85, 65, 84, 73, 79, 78]]
def tyName (n : Nat) : List UInt8 := tyNames.getD n []
def nameF (t : Int) : List UInt8 := if t = -1 then [80, 82, 69, 70, 65, 67, 69] else if 0 ≤ t ∧ t ≤ 9 then tyName t.toNat else if 9 < t ∧ t ≤ 255 then [84, 89, 80, 69, 95] ++ Lib.itoa t else []
def scanF (f : Int → List UInt8) (s : List UInt8) : Nat → Int → Int × Bool
  | 0, _ => (0, false)
  | g + 1, t => if f t = s then (t, true) else scanF f s g (t + 1)
def byNameF (s : List UInt8) : Int × Bool := scanF nameF s 257 (-1)
theorem scan_true (f : Int → List UInt8) (s : List UInt8) : ∀ (g : Nat) (t n : Int), scanF f s g t = (n, true) → f n = s ∧ t ≤ n ∧ n < t + g
  | 0, t, n, h => by simp [scanF] at h
  | g + 1, t, n, h => by
    unfold scanF at h
    split at h
    · rename_i hf
      obtain ⟨rfl, _⟩ := Prod.mk.inj h
      exact ⟨hf, Int.le_refl _, by omega⟩
    · have := scan_true f s g (t + 1) n h
      exact ⟨this.1, by omega, by omega⟩
theorem scan_false (f : Int → List UInt8) (s : List UInt8) : ∀ (g : Nat) (t : Int), (scanF f s g t).2 = false → scanF f s g t = (0, false)
  | 0, t, h => rfl
  | g + 1, t, h => by
    unfold scanF at h ⊢
    split
    · rename_i hf; rw [if_pos hf] at h; cases h
    · rename_i hf; rw [if_neg hf] at h; exact scan_false f s g (t + 1) h
theorem scan_hit (f : Int → List UInt8) (s : List UInt8) (n : Int) (hn : f n = s) : ∀ (g : Nat) (t : Int), t ≤ n → n < t + g → (∀ m, t ≤ m → m < n → f m ≠ s) → scanF f s g t = (n, true)
  | 0, t, h1, h2, _ => by omega
  | g + 1, t, h1, h2, h3 => by
    unfold scanF
    by_cases ht : t = n
    · subst ht; rw [if_pos hn]
    · rw [if_neg (h3 t (Int.le_refl _) (by omega))]
      exact scan_hit f s n hn g (t + 1) (by omega) (by omega) (fun m h4 h5 => h3 m (by omega) h5)
theorem scan_none (f : Int → List UInt8) (s : List UInt8) : ∀ (g : Nat) (t : Int), (∀ m, t ≤ m → m < t + g → f m ≠ s) → scanF f s g t = (0, false)
  | 0, t, _ => rfl
  | g + 1, t, h => by
    unfold scanF
    rw [if_neg (h t (Int.le_refl _) (by omega))]
    exact scan_none f s g (t + 1) (fun m h4 h5 => h m (by omega) (by omega))
theorem itoa_inj {a b : Int} (ha : goodI a) (hb : goodI b) (h : Lib.itoa a = Lib.itoa b) : a = b := by
  have h1 := atoi_itoa ha.1 ha.2
  have h2 := atoi_itoa hb.1 hb.2
  rw [h, h2] at h1
  injection h1 with h1
  exact h1.symm
theorem tyName_ne (n : Nat) (h : n ≤ 9) : tyName n ≠ [] := by
  have : ∀ m : Fin 10, tyName m.val ≠ [] := by decide
  exact this ⟨n, by omega⟩
theorem tyName_inj : ∀ m n : Fin 10, tyName m.val = tyName n.val → m = n := by decide
theorem tyName_pre : ∀ m : Fin 10, tyName m.val ≠ [80, 82, 69, 70, 65, 67, 69] ∧ (tyName m.val).head? ≠ some 84 := by decide
theorem nameF_ne {t : Int} (h0 : -1 ≤ t) (h1 : t ≤ 255) : nameF t ≠ [] := by
  unfold nameF
  split
  · simp
  · split
    · exact tyName_ne _ (by omega)
    · rw [if_pos (by omega)]; simp
theorem nameF_out {t : Int} (h : t < -1 ∨ 255 < t) : nameF t = [] := by
  unfold nameF
  rw [if_neg (by omega), if_neg (by omega), if_neg (by omega)]
theorem nameF_inj {a b : Int} (a0 : -1 ≤ a) (a1 : a ≤ 255) (b0 : -1 ≤ b) (b1 : b ≤ 255) (h : nameF a = nameF b) : a = b := by
  unfold nameF at h
  by_cases ca : a = -1
  · rw [if_pos ca] at h
    by_cases cb : b = -1
    · omega
    · rw [if_neg cb] at h
      by_cases db : 0 ≤ b ∧ b ≤ 9
      · rw [if_pos db] at h
        exact absurd h.symm (tyName_pre ⟨b.toNat, by omega⟩).1
      · rw [if_neg db, if_pos (by omega)] at h
        simp at h
  · rw [if_neg ca] at h
    by_cases cb : b = -1
    · rw [if_pos cb] at h
      by_cases da : 0 ≤ a ∧ a ≤ 9
      · rw [if_pos da] at h
        exact absurd h (tyName_pre ⟨a.toNat, by omega⟩).1
      · rw [if_neg da, if_pos (by omega)] at h
        simp at h
    · rw [if_neg cb] at h
      by_cases da : 0 ≤ a ∧ a ≤ 9 <;> by_cases db : 0 ≤ b ∧ b ≤ 9
      · rw [if_pos da, if_pos db] at h
        have := tyName_inj ⟨a.toNat, by omega⟩ ⟨b.toNat, by omega⟩ h
        simp only [Fin.mk.injEq] at this
        omega
      · rw [if_pos da, if_neg db, if_pos (by omega)] at h
        have := (tyName_pre ⟨a.toNat, by omega⟩).2
        rw [h] at this
        exact absurd rfl this
      · rw [if_neg da, if_pos (by omega), if_pos db] at h
        have := (tyName_pre ⟨b.toNat, by omega⟩).2
        rw [← h] at this
        exact absurd rfl this
      · rw [if_neg da, if_pos (by omega), if_neg db, if_pos (by omega)] at h
        exact itoa_inj ⟨by omega, by omega⟩ ⟨by omega, by omega⟩ (List.append_cancel_left h)
theorem byName_name {t : Int} (h0 : -1 ≤ t) (h1 : t ≤ 255) : byNameF (nameF t) = (t, true) :=
  scan_hit _ _ t rfl _ _ h0 (by omega) (fun m h2 h3 e => by have := nameF_inj h2 (by omega) h0 h1 e; omega)
theorem byName_nil : byNameF [] = (0, false) := scan_none _ _ _ _ (fun m h2 h3 => nameF_ne h2 (by omega))

structure Rec where
  fr : Int
  ty : Int
  fl : Int
  st : Int
  ln : Int
  kd : Int
deriving DecidableEq
def zRec : Rec := ⟨0, 0, 0, 0, 0, 0⟩
def inB (n m : Int) : Bool := decide (0 ≤ n) && decide (n ≤ m)
def headR (ln ty fl st : Int) : Bool := inB ln 16777215 && (inB ty 255 && (inB fl 255 && inB st 2147483647))
def recR (r : Rec) : Bool := (decide (r.fr = 0) || decide (r.fr = 1)) && (inB (r.kd - 1) 3 && if r.ty = -1 then (decide (r.fr = 0) && (decide (r.fl = 0) && (decide (r.st = 0) && decide (r.ln = 24)))) else headR r.ln r.ty r.fl r.st)
theorem inB_iff {n m : Int} : inB n m = true ↔ 0 ≤ n ∧ n ≤ m := by simp [inB]
structure RecOk (r : Rec) : Prop where
  fr : r.fr = 0 ∨ r.fr = 1
  kd : 1 ≤ r.kd ∧ r.kd ≤ 4
  ty : -1 ≤ r.ty ∧ r.ty ≤ 255
  fl : 0 ≤ r.fl ∧ r.fl ≤ 255
  st : 0 ≤ r.st ∧ r.st ≤ 2147483647
  ln : 0 ≤ r.ln ∧ r.ln ≤ 16777215
theorem recR_ok {r : Rec} (h : recR r = true) : RecOk r := by
  unfold recR at h
  simp only [Bool.and_eq_true, Bool.or_eq_true, decide_eq_true_eq, inB_iff] at h
  obtain ⟨h1, h2, h3⟩ := h
  split at h3
  · rename_i ht
    simp only [Bool.and_eq_true, decide_eq_true_eq] at h3
    exact ⟨h1, by omega, by omega, by omega, by omega, by omega⟩
  · unfold headR at h3
    simp only [Bool.and_eq_true, inB_iff] at h3
    exact ⟨h1, by omega, by omega, by omega, by omega, by omega⟩
def recWords (r : Rec) : List (List UInt8) := [[102, 114, 97, 109, 101], sideF r.fr, nameF r.ty, Lib.itoa r.fl, Lib.itoa r.st, Lib.itoa r.ln, kindF r.kd]
def recLine (r : Rec) : List UInt8 := Lib.join (recWords r) [32]
theorem okW_of {w : List UInt8} (h : w ≠ []) (hb : ∀ c ∈ w, 33 ≤ c.toNat) : okW w = true := by
  rw [okW_R]
  have h1 : w.isEmpty = false := by cases w <;> simp_all
  have h2 : w.any badB = false := by
    rw [List.any_eq_false]
    intro c hc
    have := hb c hc
    unfold badB
    simp only [Bool.or_eq_true, beq_iff_eq]
    rintro (e | e) <;> subst e <;> simp at this
  rw [h1, h2]; rfl
theorem itoa_bytes (n : Int) : ∀ c ∈ Lib.itoa n, 33 ≤ c.toNat := by
  intro c hc
  rcases Int.lt_or_le n 0 with h | h
  · obtain ⟨m, rfl⟩ : ∃ m : Nat, n = -(m : Int) := ⟨n.natAbs, by omega⟩
    rw [itoa_minus m (by omega)] at hc
    rcases List.mem_cons.1 hc with rfl | hc
    · decide
    · have := dec_bytes m m (Nat.le_refl _) c hc; omega
  · obtain ⟨m, rfl⟩ : ∃ m : Nat, n = (m : Int) := ⟨n.toNat, by omega⟩
    rw [itoa_pos m] at hc
    have := dec_bytes m m (Nat.le_refl _) c hc; omega
theorem okW_itoa (n : Int) : okW (Lib.itoa n) = true := okW_of (itoa_ne n) (itoa_bytes n)
theorem tyName_ok : ∀ m : Fin 10, okW (tyName m.val) = true := by decide
theorem nameF_ok {t : Int} (h0 : -1 ≤ t) (h1 : t ≤ 255) : okW (nameF t) = true := by
  unfold nameF
  split
  · decide
  · split
    · exact tyName_ok ⟨t.toNat, by omega⟩
    · rw [if_pos (by omega)]
      refine okW_of (by simp) fun c hc => ?_
      rcases List.mem_append.1 hc with hc | hc
      · have : ∀ x ∈ ([84, 89, 80, 69, 95] : List UInt8), 33 ≤ x.toNat := by decide
        exact this c hc
      · exact itoa_bytes t c hc
theorem sideF_ok {n : Int} (h : n = 0 ∨ n = 1) : okW (sideF n) = true := by rcases h with rfl | rfl <;> decide
theorem kindF_cases {n : Int} (h : 1 ≤ n ∧ n ≤ 4) : n = 1 ∨ n = 2 ∨ n = 3 ∨ n = 4 := by omega
theorem kindF_ok {n : Int} (h : 1 ≤ n ∧ n ≤ 4) : okW (kindF n) = true := by rcases kindF_cases h with rfl | rfl | rfl | rfl <;> decide
theorem recWords_ok {r : Rec} (h : RecOk r) : (recWords r).all okW = true := by
  unfold recWords
  simp only [List.all_cons, List.all_nil, Bool.and_true, Bool.and_eq_true]
  exact ⟨by decide, sideF_ok h.fr, nameF_ok h.ty.1 h.ty.2, okW_itoa _, okW_itoa _, okW_itoa _, kindF_ok h.kd⟩
theorem nameF_len {t : Int} (h0 : -1 ≤ t) (h1 : t ≤ 255) : (nameF t).length ≤ 30 := by
  unfold nameF
  split
  · decide
  · split
    · have : ∀ m : Fin 10, (tyName m.val).length ≤ 30 := by decide
      exact this ⟨t.toNat, by omega⟩
    · rw [if_pos (by omega)]
      have := itoa_len (n := t) (by omega) (by omega)
      simp; omega
theorem sideF_len (n : Int) : (sideF n).length ≤ 30 := by unfold sideF; repeat' split
                                                          all_goals decide
theorem kindF_len (n : Int) : (kindF n).length ≤ 30 := by unfold kindF; repeat' split
                                                          all_goals decide
theorem recWords_len {r : Rec} (h : RecOk r) : ∀ x ∈ recWords r, x.length ≤ 30 := by
  intro x hx
  unfold recWords at hx
  simp only [List.mem_cons, List.not_mem_nil, or_false] at hx
  rcases hx with rfl | rfl | rfl | rfl | rfl | rfl | rfl
  · decide
  · exact sideF_len _
  · exact nameF_len h.ty.1 h.ty.2
  · have := itoa_len (n := r.fl) (by have := h.fl; omega) (by have := h.fl; omega); omega
  · have := itoa_len (n := r.st) (by have := h.st; omega) (by have := h.st; omega); omega
  · have := itoa_len (n := r.ln) (by have := h.ln; omega) (by have := h.ln; omega); omega
  · exact kindF_len _
theorem recLine_split {r : Rec} (h : RecOk r) : splitF (recLine r) = (recWords r, true) := split_line _ (recWords_ok h)
theorem lineF_rec {r : Rec} (h : RecOk r) : lineF (recWords r) = (recLine r, true) := by unfold lineF recLine; rw [if_pos (recWords_ok h)]

/-! The program's road back. -/
def sideB (s : List UInt8) : Int × Bool := scanF sideF s 2 0
def kindB (s : List UInt8) : Int × Bool := scanF kindF s 4 1
def rdRec (l : List (List UInt8)) : Rec × Bool :=
  match l with
  | [w0, w1, w2, w3, w4, w5, w6] =>
    if w0 = [102, 114, 97, 109, 101] then
      if ((sideB w1).2 && ((byNameF w2).2 && ((readF w3).2 && ((readF w4).2 && ((readF w5).2 && ((kindB w6).2 && recR ⟨(sideB w1).1, (byNameF w2).1, (readF w3).1, (readF w4).1, (readF w5).1, (kindB w6).1⟩)))))) = true then
        (⟨(sideB w1).1, (byNameF w2).1, (readF w3).1, (readF w4).1, (readF w5).1, (kindB w6).1⟩, true)
      else (zRec, false)
    else (zRec, false)
  | _ => (zRec, false)
def readRecF (line : List UInt8) : Rec × Bool := if (splitF line).2 = true then rdRec (splitF line).1 else (zRec, false)
theorem sideB_side {n : Int} (h : n = 0 ∨ n = 1) : sideB (sideF n) = (n, true) := by rcases h with rfl | rfl <;> decide
theorem kindB_kind {n : Int} (h : 1 ≤ n ∧ n ≤ 4) : kindB (kindF n) = (n, true) := by rcases kindF_cases h with rfl | rfl | rfl | rfl <;> decide
theorem readRec_line {r : Rec} (h : recR r = true) : readRecF (recLine r) = (r, true) := by
  have ho := recR_ok h
  unfold readRecF
  rw [recLine_split ho, if_pos rfl]
  unfold recWords rdRec
  simp only [if_true]
  rw [sideB_side ho.fr, byName_name ho.ty.1 ho.ty.2, kindB_kind ho.kd, readF_itoa (n := r.fl) (by have := ho.fl; omega) (by have := ho.fl; omega), readF_itoa (n := r.st) (by have := ho.st; omega) (by have := ho.st; omega),
    readF_itoa (n := r.ln) (by have := ho.ln; omega) (by have := ho.ln; omega)]
  simp only [Bool.true_and]
  rw [if_pos h]
theorem split_back {s : List UInt8} (h : (splitF s).2 = true) : Lib.join (splitF s).1 [32] = s := by
  unfold splitF at h ⊢
  by_cases h0 : s = []
  · rw [if_pos h0]; subst h0; rfl
  · rw [if_neg h0] at h ⊢
    by_cases ha : (cutF 32 s).all okW = true
    · rw [if_pos ha]; exact join_cut 32 s
    · rw [if_neg ha] at h; cases h
theorem scan_pair {f : Int → List UInt8} {s : List UInt8} {g : Nat} {t : Int} (h : (scanF f s g t).2 = true) : f (scanF f s g t).1 = s := (scan_true f s g t _ (Prod.ext rfl h)).1
theorem rdRec_yes {l : List (List UInt8)} (h : (rdRec l).2 = true) : recR (rdRec l).1 = true ∧ l = recWords (rdRec l).1 := by
  match l, h with
  | [w0, w1, w2, w3, w4, w5, w6], h =>
    unfold rdRec at h ⊢
    simp only at h ⊢
    by_cases h0 : w0 = [102, 114, 97, 109, 101]
    · rw [if_pos h0] at h ⊢
      split at h
      · rename_i hc
        rw [if_pos hc]
        simp only [Bool.and_eq_true] at hc
        obtain ⟨c1, c2, c3, c4, c5, c6, c7⟩ := hc
        refine ⟨c7, ?_⟩
        unfold recWords
        simp only
        rw [show sideF (sideB w1).1 = w1 from scan_pair c1, show nameF (byNameF w2).1 = w2 from scan_pair c2, (readF_yes c3).1, (readF_yes c4).1, (readF_yes c5).1, show kindF (kindB w6).1 = w6 from scan_pair c6, h0]
      · cases h
    · rw [if_neg h0] at h; cases h
  | [], h => cases h
  | [_], h => cases h
  | [_, _], h => cases h
  | [_, _, _], h => cases h
  | [_, _, _, _], h => cases h
  | [_, _, _, _, _], h => cases h
  | [_, _, _, _, _, _], h => cases h
  | _ :: _ :: _ :: _ :: _ :: _ :: _ :: _ :: _, h => cases h
theorem rdRec_no {l : List (List UInt8)} (h : (rdRec l).2 = false) : rdRec l = (zRec, false) := by
  match l, h with
  | [w0, w1, w2, w3, w4, w5, w6], h =>
    unfold rdRec at h ⊢
    simp only at h ⊢
    split
    · rename_i h0
      rw [if_pos h0] at h
      split
      · rename_i hc; rw [if_pos hc] at h; cases h
      · rfl
    · rfl
  | [], h => rfl
  | [_], h => rfl
  | [_, _], h => rfl
  | [_, _, _], h => rfl
  | [_, _, _, _], h => rfl
  | [_, _, _, _, _], h => rfl
  | [_, _, _, _, _, _], h => rfl
  | _ :: _ :: _ :: _ :: _ :: _ :: _ :: _ :: _, h => rfl
theorem readRec_yes {line : List UInt8} (h : (readRecF line).2 = true) : recR (readRecF line).1 = true ∧ recLine (readRecF line).1 = line := by
  unfold readRecF at h ⊢
  by_cases hs : (splitF line).2 = true
  · rw [if_pos hs] at h ⊢
    obtain ⟨h1, h2⟩ := rdRec_yes h
    refine ⟨h1, ?_⟩
    unfold recLine
    rw [← h2, split_back hs]
  · rw [if_neg hs] at h; cases h
theorem readRec_no {line : List UInt8} (h : (readRecF line).2 = false) : readRecF line = (zRec, false) := by
  unfold readRecF at h ⊢
  by_cases hs : (splitF line).2 = true
  · rw [if_pos hs] at h ⊢; exact rdRec_no h
  · rw [if_neg hs]

/-! The document's road back. -/
def findF (l : List (List UInt8)) (s : List UInt8) : Int := if s ∈ l then (l.idxOf s : Int) else -1
def rfRec (l : List (List UInt8)) : Rec :=
  match l with
  | [_, w1, w2, w3, w4, w5, w6] => ⟨findF [[99, 108, 105, 101, 110, 116], [115, 101, 114, 118, 101, 114]] w1, (byNameF w2).1, (readF w3).1, (readF w4).1, (readF w5).1, 1 + findF [[97, 108, 108, 111, 119, 101, 100], [105, 103, 110, 111, 114, 101, 100], [114, 101, 106, 101, 99, 116, 101, 100], [108, 105, 109, 105, 116, 101, 100]] w6⟩
  | _ => zRec
def readRecR (line : List UInt8) : Rec × Bool :=
  if (splitF line).2 = true ∧ (splitF line).1.length = 7 then
    if recR (rfRec (splitF line).1) = true ∧ recLine (rfRec (splitF line).1) = line then (rfRec (splitF line).1, true) else (zRec, false)
  else (zRec, false)
theorem findF_side {n : Int} (h : n = 0 ∨ n = 1) : findF [[99, 108, 105, 101, 110, 116], [115, 101, 114, 118, 101, 114]] (sideF n) = n := by rcases h with rfl | rfl <;> decide
theorem findF_kind {n : Int} (h : 1 ≤ n ∧ n ≤ 4) : 1 + findF [[97, 108, 108, 111, 119, 101, 100], [105, 103, 110, 111, 114, 101, 100], [114, 101, 106, 101, 99, 116, 101, 100], [108, 105, 109, 105, 116, 101, 100]] (kindF n) = n := by rcases kindF_cases h with rfl | rfl | rfl | rfl <;> decide
theorem rfRec_words {r : Rec} (h : RecOk r) : rfRec (recWords r) = r := by
  unfold rfRec recWords
  simp only
  rw [findF_side h.fr, byName_name h.ty.1 h.ty.2, findF_kind h.kd, readF_itoa (n := r.fl) (by have := h.fl; omega) (by have := h.fl; omega), readF_itoa (n := r.st) (by have := h.st; omega) (by have := h.st; omega),
    readF_itoa (n := r.ln) (by have := h.ln; omega) (by have := h.ln; omega)]
theorem readRecR_line {r : Rec} (h : recR r = true) : readRecR (recLine r) = (r, true) := by
  have ho := recR_ok h
  unfold readRecR
  rw [recLine_split ho, if_pos ⟨rfl, rfl⟩]
  simp only
  rw [rfRec_words ho, if_pos ⟨h, rfl⟩]
theorem readRecR_yes {line : List UInt8} (h : (readRecR line).2 = true) : recR (readRecR line).1 = true ∧ recLine (readRecR line).1 = line := by
  unfold readRecR at h ⊢
  split at h
  · rename_i hc
    rw [if_pos hc]
    split at h
    · rename_i hd
      rw [if_pos hd]
      exact hd
    · cases h
  · cases h
theorem readRecR_no {line : List UInt8} (h : (readRecR line).2 = false) : readRecR line = (zRec, false) := by
  unfold readRecR at h ⊢
  split at h
  · rename_i hc
    rw [if_pos hc]
    split at h
    · cases h
    · rename_i hd; rw [if_neg hd]
  · rename_i hc; rw [if_neg hc]
theorem readRec_eq (line : List UInt8) : readRecF line = readRecR line := by
  cases h : (readRecF line).2 with
  | true =>
    obtain ⟨h1, h2⟩ := readRec_yes h
    have := readRecR_line h1
    rw [h2] at this
    rw [this]
    exact Prod.ext rfl h
  | false =>
    cases h' : (readRecR line).2 with
    | true =>
      obtain ⟨h1, h2⟩ := readRecR_yes h'
      have := readRec_line h1
      rw [h2] at this
      rw [this] at h
      cases h
    | false => rw [readRec_no h, readRecR_no h']
end Go.Proofs.YtfloijkagfabpaaGreatDoor
