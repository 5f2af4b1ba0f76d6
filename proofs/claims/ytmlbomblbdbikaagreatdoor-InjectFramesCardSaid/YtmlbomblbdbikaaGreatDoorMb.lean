/-
  Parts of the proof, one behind the other: contracts of the program and plain laws; no condition of their own.
-/
import Derived.Test.YtmlbomblbdbikaaGreatDoorMa
import Derived.Lib.Bytealg
import Derived.Deep.LoopGhost
import Derived.BigGuardPart
import Derived.Lib.SplitLaws
import Derived.Test.YtmlbomblbdbikaaGreatDoorShelf2
import Derived.WalkSmall
import Derived.Lib.SmallJoins
import Derived.Lib.LaidTab
import Derived.Stop.LaidErr
import Derived.LaidLaws
import Derived.MakeChecks
import Derived.OrdersHeld
import Derived.Deep.RegionHeld3
import Derived.Deep.MidRow
import Derived.Laws.Tables
import Derived.Scope
import Derived.WalkMore
import Derived.StillTailTactics
/-
  Words: plain laws.
-/
namespace Go.Proofs.YtmlbomblbdbikaaGreatDoor
set_option linter.unusedSimpArgs false
set_option linter.unusedVariables false
set_option linter.unusedSectionVars false
open Go.ChangeShapes Go.WideShapes Go.ChangeAt Go.RowKit Go.Deep

theorem all_bytes {P : UInt8 → Prop} (h : ∀ n : Fin 256, P (UInt8.ofNat n.val)) (c : UInt8) : P c := by
  have := h ⟨c.toNat, c.toNat_lt⟩
  simpa using this
abbrev hexD : List UInt8 := [48, 49, 50, 51, 52, 53, 54, 55, 56, 57, 97, 98, 99, 100, 101, 102]
def plB (c : UInt8) : Bool := decide (32 < c.toNat) && decide (c.toNat < 127) && !(c == 37)
def pairB (c : UInt8) : List UInt8 := [hexD.getD (c.toNat / 16) 0, hexD.getD (c.toNat % 16) 0]
def quB (c : UInt8) : List UInt8 := if plB c = true then [c] else 37 :: pairB c
def quoteF (l : List UInt8) : List UInt8 := if l = [] then [37] else l.flatMap quB
def hexI (c : UInt8) : Int := Lib.indexByte hexD c
def byteOf (h l : UInt8) : UInt8 := UInt8.ofNat (16 * (hexI h).toNat + (hexI l).toNat)
theorem hexI_bd (c : UInt8) : -1 ≤ hexI c ∧ hexI c ≤ 15 := all_bytes (P := fun c => -1 ≤ hexI c ∧ hexI c ≤ 15) (by decide +kernel) c
theorem hexI_back (c : UInt8) : 0 ≤ hexI c → hexD.getD (hexI c).toNat 0 = c := all_bytes (P := fun c => 0 ≤ hexI c → hexD.getD (hexI c).toNat 0 = c) (by decide +kernel) c
theorem hexI_of (n : Nat) (h : n < 16) : hexI (hexD.getD n 0) = n := by
  have : ∀ m : Fin 16, hexI (hexD.getD m.val 0) = m.val := by decide +kernel
  exact this ⟨n, h⟩
theorem byteOf_nat {h l : UInt8} (hh : 0 ≤ hexI h) (hl : 0 ≤ hexI l) : (byteOf h l).toNat = 16 * (hexI h).toNat + (hexI l).toNat := by
  have := hexI_bd h
  have := hexI_bd l
  unfold byteOf
  rw [UInt8.toNat_ofNat', Nat.mod_eq_of_lt (by omega)]
theorem pairB_byteOf {h l : UInt8} (hh : 0 ≤ hexI h) (hl : 0 ≤ hexI l) : pairB (byteOf h l) = [h, l] := by
  have b1 := hexI_bd h
  have b2 := hexI_bd l
  unfold pairB
  rw [byteOf_nat hh hl, show (16 * (hexI h).toNat + (hexI l).toNat) / 16 = (hexI h).toNat by omega, show (16 * (hexI h).toNat + (hexI l).toNat) % 16 = (hexI l).toNat by omega, hexI_back h hh, hexI_back l hl]
theorem byteOf_pair (c : UInt8) : byteOf (hexD.getD (c.toNat / 16) 0) (hexD.getD (c.toNat % 16) 0) = c := by
  have := c.toNat_lt
  unfold byteOf
  rw [hexI_of _ (by omega), hexI_of _ (by omega)]
  simp only [Int.toNat_natCast]
  rw [Nat.div_add_mod]
  simp
theorem pl_37 {c : UInt8} (h : plB c = true) : c ≠ 37 := by
  intro he; subst he; simp [plB] at h

/-! There and back. -/
def unqP : List UInt8 → Option (List UInt8)
  | [] => some []
  | [c] => if plB c = true then some [c] else none
  | [c, d] => if plB c = true then (if plB d = true then some [c, d] else none) else none
  | c :: h :: l :: r => if plB c = true then (unqP (h :: l :: r)).map (c :: ·) else if (c == 37) = true ∧ 0 ≤ hexI h ∧ 0 ≤ hexI l ∧ plB (byteOf h l) = false then (unqP r).map (byteOf h l :: ·) else none
def unqR : List UInt8 → Option (List UInt8)
  | [] => some []
  | [c] => if (c == 37) = false then some [c] else none
  | [c, d] => if (c == 37) = false then (if (d == 37) = false then some [c, d] else none) else none
  | c :: h :: l :: r => if (c == 37) = false then (unqR (h :: l :: r)).map (c :: ·) else if 0 ≤ hexI h ∧ 0 ≤ hexI l then (unqR r).map (byteOf h l :: ·) else none
theorem unqP_plain {c : UInt8} {r : List UInt8} (h : plB c = true) : unqP (c :: r) = (unqP r).map (c :: ·) := by
  match r with
  | [] => simp [unqP, h]
  | [d] => by_cases hd : plB d = true <;> simp [unqP, h, hd]
  | a :: b :: r => simp [unqP, h]
theorem unqR_plain {c : UInt8} {r : List UInt8} (h : (c == 37) = false) : unqR (c :: r) = (unqR r).map (c :: ·) := by
  match r with
  | [] => simp only [unqR, h, if_true]; rfl
  | [d] => cases hd : (d == 37) <;> simp only [unqR, h, hd, if_true] <;> rfl
  | a :: b :: r => simp only [unqR, h, if_true]
theorem unqP_R : ∀ (n : Nat) (w o : List UInt8), w.length ≤ n → unqP w = some o → unqR w = some o ∧ o.flatMap quB = w
  | _, [], o, _, h => by simp [unqP] at h; subst h; exact ⟨rfl, rfl⟩
  | 0, c :: r, _, hn, _ => by simp at hn
  | n + 1, c :: r, o, hn, h => by
    by_cases hc : plB c = true
    · rw [unqP_plain hc] at h
      obtain ⟨o', h1, rfl⟩ := Option.map_eq_some_iff.1 h
      have ih := unqP_R n r o' (by simpa using hn) h1
      have h37 : (c == 37) = false := by simpa using pl_37 hc
      rw [unqR_plain h37, ih.1]
      refine ⟨rfl, ?_⟩
      rw [List.flatMap_cons, ih.2]
      simp [quB, hc]
    · match r, h with
      | [], h => simp [unqP, hc] at h
      | [d], h => simp [unqP, hc] at h
      | a :: b :: r', h =>
        simp only [unqP, if_neg hc] at h
        by_cases hg : (c == 37) = true ∧ 0 ≤ hexI a ∧ 0 ≤ hexI b ∧ plB (byteOf a b) = false
        · rw [if_pos hg] at h
          obtain ⟨o', h1, rfl⟩ := Option.map_eq_some_iff.1 h
          have ih := unqP_R n r' o' (by simp at hn; omega) h1
          obtain ⟨g1, g2, g3, g4⟩ := hg
          simp only [unqR, g1]
          rw [if_neg (by simp), if_pos ⟨g2, g3⟩, ih.1]
          refine ⟨rfl, ?_⟩
          rw [List.flatMap_cons, ih.2]
          have hc37 : c = 37 := by simpa using g1
          simp only [quB, g4, Bool.false_eq_true, if_false, pairB_byteOf g2 g3, hc37]
          rfl
        · rw [if_neg hg] at h; cases h
theorem unqR_P : ∀ (n : Nat) (w o : List UInt8), w.length ≤ n → unqR w = some o → o.flatMap quB = w → unqP w = some o
  | _, [], o, _, h, _ => by simp [unqR] at h; subst h; rfl
  | 0, c :: r, _, hn, _, _ => by simp at hn
  | n + 1, c :: r, o, hn, h, hq => by
    cases h37 : (c == 37) with
    | false =>
      rw [unqR_plain h37] at h
      obtain ⟨o', h1, rfl⟩ := Option.map_eq_some_iff.1 h
      rw [List.flatMap_cons] at hq
      by_cases hc : plB c = true
      · have e : quB c = [c] := by simp [quB, hc]
        rw [e] at hq
        have := unqR_P n r o' (by simpa using hn) h1 (by simpa using hq)
        rw [unqP_plain hc, this]
        rfl
      · exfalso
        have e : quB c = 37 :: pairB c := by simp [quB, hc]
        rw [e] at hq
        simp only [List.cons_append, List.cons.injEq] at hq
        have := hq.1
        subst this
        simp at h37
    | true =>
      have hc37 : c = 37 := by simpa using h37
      match r, h with
      | [], h => simp [unqR, h37] at h
      | [d], h => simp [unqR, h37] at h
      | a :: b :: r', h =>
        simp only [unqR, h37] at h
        rw [if_neg (by simp)] at h
        by_cases hg : 0 ≤ hexI a ∧ 0 ≤ hexI b
        · rw [if_pos hg] at h
          obtain ⟨o', h1, rfl⟩ := Option.map_eq_some_iff.1 h
          rw [List.flatMap_cons] at hq
          by_cases hp : plB (byteOf a b) = true
          · exfalso
            have e : quB (byteOf a b) = [byteOf a b] := by simp [quB, hp]
            rw [e] at hq
            simp only [List.cons_append, List.cons.injEq] at hq
            exact pl_37 hp (hq.1.trans hc37)
          · have hp' : plB (byteOf a b) = false := by simpa using hp
            have e : quB (byteOf a b) = [37, a, b] := by simp only [quB, hp', Bool.false_eq_true, if_false, pairB_byteOf hg.1 hg.2]
            rw [e] at hq
            simp only [List.cons_append, List.nil_append, List.cons.injEq, true_and] at hq
            have ih := unqR_P n r' o' (by simp at hn; omega) h1 hq.2
            have hnc : ¬ plB c = true := by rw [hc37]; decide
            simp only [unqP, if_neg hnc]
            rw [if_pos ⟨h37, hg.1, hg.2, hp'⟩, ih]
            rfl
        · rw [if_neg hg] at h; cases h
def unquoteF (w : List UInt8) : List UInt8 × Bool :=
  if w = [37] then ([], true) else match unqP w with
    | some o => (o, !o.isEmpty)
    | none => ([], false)
def unquoteR (w : List UInt8) : List UInt8 × Bool :=
  if w = [37] then ([], true) else match unqR w with
    | some o => if quoteF o = w then (o, true) else ([], false)
    | none => ([], false)
theorem unquote_eq (w : List UInt8) : unquoteF w = unquoteR w := by
  unfold unquoteF unquoteR
  by_cases h0 : w = [37]
  · rw [if_pos h0, if_pos h0]
  · rw [if_neg h0, if_neg h0]
    cases hp : unqP w with
    | some o =>
      have := unqP_R _ w o (Nat.le_refl _) hp
      rw [this.1]
      simp only
      by_cases ho : o = []
      · subst ho
        have hw : w = [] := by simpa using this.2.symm
        rw [if_neg (by rw [hw]; simp [quoteF])]
        rfl
      · have e : quoteF o = w := by rw [quoteF, if_neg ho]; exact this.2
        rw [if_pos e]
        cases o with
        | nil => exact absurd rfl ho
        | cons => rfl
    | none =>
      cases hr : unqR w with
      | none => rfl
      | some o =>
        simp only
        by_cases hq : quoteF o = w
        · exfalso
          by_cases ho : o = []
          · subst ho; exact h0 (by simpa [quoteF] using hq.symm)
          · have := unqR_P _ w o (Nat.le_refl _) hr (by simpa [quoteF, ho] using hq)
            rw [hp] at this
            cases this
        · rw [if_neg hq]
theorem unqP_append : ∀ (c : UInt8) (r : List UInt8), unqP (quB c ++ r) = (unqP r).map (c :: ·) := by
  intro c r
  by_cases hc : plB c = true
  · have e : quB c = [c] := by simp [quB, hc]
    rw [e, List.cons_append, List.nil_append, unqP_plain hc]
  · have hc' : plB c = false := by simpa using hc
    have hlt := c.toNat_lt
    have e : quB c = [37, hexD.getD (c.toNat / 16) 0, hexD.getD (c.toNat % 16) 0] := by simp only [quB, hc', Bool.false_eq_true, if_false, pairB]
    have h1 := hexI_of (c.toNat / 16) (by omega)
    have h2 := hexI_of (c.toNat % 16) (by omega)
    rw [e]
    simp only [List.cons_append, List.nil_append]
    rw [unqP, if_neg (by decide), if_pos ⟨rfl, by rw [h1]; omega, by rw [h2]; omega, by rw [byteOf_pair]; exact hc'⟩, byteOf_pair]
theorem unqP_quote : ∀ (l : List UInt8), unqP (l.flatMap quB) = some l
  | [] => rfl
  | c :: r => by rw [List.flatMap_cons, unqP_append, unqP_quote r]; rfl
theorem unquote_quote (l : List UInt8) : unquoteF (quoteF l) = (l, true) := by
  unfold unquoteF quoteF
  by_cases h : l = []
  · subst h; rfl
  · rw [if_neg h]
    rw [if_neg (by
      intro he
      have := unqP_quote l
      rw [he] at this
      simp [unqP, plB] at this), unqP_quote l]
    cases l with
    | nil => exact absurd rfl h
    | cons => rfl
end Go.Proofs.YtmlbomblbdbikaaGreatDoor
/-
  Slices of texts.
-/
namespace Go.Proofs.YtmlbomblbdbikaaGreatDoor
set_option linter.unusedSimpArgs false
set_option linter.unusedVariables false
set_option linter.unusedSectionVars false
open Go.ChangeShapes Go.WideShapes Go.ChangeAt Go.RowKit Go.Deep Go.Shelf

/-! Slices of texts. -/
def txtIs (s : List UInt8) (cs : List Value) : Prop := cs = [bstr s] ∧ s.length ≤ maxLen
abbrev SlX (w : World) (B : Nat) (a : Option Addr) (l : List (List UInt8)) : Prop := SlR w B 1 txtIs a l
theorem SlR.atX {w : World} {B : Nat} {a : Option Addr} {l : List (List UInt8)} (h : SlR w B 1 txtIs a l) {k : Nat} (hk : k < l.length) : ∃ b off, a = some ⟨b, off, none⟩ ∧ b < B ∧ w.cell? ⟨b, off + k, none⟩ = some (bstr l[k]) ∧ l[k].length ≤ 9223372036854775807 := by
  obtain ⟨b, off, cs, ha, hb, ⟨rfl, h1⟩, hc⟩ := h k hk
  have := hc 0 _ rfl
  rw [Nat.mul_one, Nat.add_zero] at this
  unfold maxLen at h1
  exact ⟨b, off, ha, hb, this, h1⟩
theorem slX_new {w : World} {g : Nat} {t : TypeId} {cs : Array Value} {l : List (List UInt8)} (h : Blk w g t cs) (hl : cs.toList = l.map bstr) (hR : ∀ x ∈ l, x.length ≤ maxLen) : SlX w (g + 1) (some ⟨g, 0, none⟩) l :=
  SlR.of_blk (c := fun s => [bstr s]) h (by rw [hl]; clear h hl hR; induction l <;> simp_all) (fun _ _ => rfl) (fun x hx => ⟨rfl, hR x hx⟩)
def okW (w : List UInt8) : Bool := !w.isEmpty && !decide (0 ≤ Lib.indexByte w 32) && !decide (0 ≤ Lib.indexByte w 10)
theorem slX_pre {w : World} {g : Nat} {t : TypeId} {cs : Array Value} {l r : List (List UInt8)} (h : Blk w g t cs) (hl : cs.toList = (l ++ r).map bstr) (hR : ∀ x ∈ l ++ r, x.length ≤ maxLen) : SlX w w.heap.size (some ⟨g, 0, none⟩) l := by
  have h1 := (slX_new h hl hR).take l.length
  rw [List.take_left] at h1
  exact h1.mono h.lt (fun _ _ _ h => h)
end Go.Proofs.YtmlbomblbdbikaaGreatDoor
/-
  What strings.Split hands back.
-/
namespace Go.Proofs.YtmlbomblbdbikaaGreatDoor
set_option linter.unusedSimpArgs false
set_option linter.unusedVariables false
set_option linter.unusedSectionVars false
open Go.ChangeShapes Go.WideShapes Go.ChangeAt Go.RowKit Go.Deep Go.Shelf

theorem splitK_len (sep : List UInt8) : ∀ (k : Nat) (s : List UInt8), ∀ x ∈ Lib.splitK sep 0 k s, x.length ≤ s.length
  | 0, s, x, h => by simp [Lib.splitK] at h; subst h; exact Nat.le_refl _
  | k + 1, s, x, h => by
    unfold Lib.splitK at h
    split at h
    · simp at h; subst h; exact Nat.le_refl _
    · rcases List.mem_cons.1 h with rfl | h
      · simp; omega
      · have := splitK_len sep k _ x h
        simp at this; omega
theorem split_map (l : List UInt8) (c : UInt8) : (Lib.splitB ⟨#[c]⟩ 0 (Lib.countB ⟨l.toArray⟩ ⟨#[c]⟩) ⟨l.toArray⟩).map Value.string = (Lib.split l [c]).map bstr := by
  have h := Lib.splitB_data ⟨#[c]⟩ 0 (Lib.countB ⟨l.toArray⟩ ⟨#[c]⟩) ⟨l.toArray⟩
  have e : (Lib.split l [c]) = (Lib.splitB ⟨#[c]⟩ 0 (Lib.countB ⟨l.toArray⟩ ⟨#[c]⟩) ⟨l.toArray⟩).map (·.data.toList) := by rw [h]; rfl
  rw [e, List.map_map]
  rfl
theorem split_len (l : List UInt8) (c : UInt8) : (Lib.split l [c]).length = Lib.countB ⟨l.toArray⟩ ⟨#[c]⟩ + 1 := by
  have h := Lib.splitB_all ⟨#[c]⟩ (Nat.le_refl 1) 0 _ ⟨l.toArray⟩ rfl
  have := congrArg List.length (split_map l c)
  simp only [List.length_map] at this
  rw [← this, h]
theorem split_le (l : List UInt8) (c : UInt8) : (Lib.split l [c]).length ≤ l.length + 1 := by
  rw [split_len]
  have := Lib.countB_le ⟨#[c]⟩ (Nat.le_refl 1) _ ⟨l.toArray⟩ (Nat.le_refl _)
  have e : (ByteArray.mk l.toArray).size = l.length := rfl
  omega
theorem strings_split (l : List UInt8) (c : UInt8) (m : Int) (w : World) (hm : l.length ≤ 1048576) (hM : w.cell? ⟨2, 0, none⟩ = some (.int .i64 m)) :
    Calls Tryz.prog 21 #[bstr l, bstr [c]] w fun e w' => e = .returned (.slice (some ⟨w.heap.size, 0, none⟩) (Lib.split l [c]).length (Lib.split l [c]).length) ∧ w' = w.alloc (.cells ((Lib.split l [c]).map bstr).toArray 9) :=
  (Tryz.strings_Split ⟨l.toArray⟩ ⟨#[c]⟩ m w (by show l.length < _; omega) hM (Nat.le_refl 1)).mono fun e w' ⟨he, hw⟩ => ⟨by rw [he, split_len], by rw [hw, ← split_map]⟩
theorem split_slX (l : List UInt8) (c : UInt8) (w : World) (hm : l.length ≤ 1048576) : SlX (w.alloc (.cells ((Lib.split l [c]).map bstr).toArray 9)) (w.heap.size + 1) (some ⟨w.heap.size, 0, none⟩) (Lib.split l [c]) :=
  slX_new (Blk.at_ _ _ _ rfl) (by simp) (fun x hx => by have := splitK_len [c] _ l x hx; unfold maxLen; omega)
abbrev MaxA : Addr := ⟨2, 0, none⟩
theorem max_more {w : World} {m : Int} (hM : w.cell? MaxA = some (.int .i64 m)) (j : Junk) : (w.more j).cell? MaxA = some (.int .i64 m) :=
  (World.cell?_more _ _ _ (World.block_lt_of_cell? w MaxA hM)).trans hM
end Go.Proofs.YtmlbomblbdbikaaGreatDoor
/-
  The one variable of the library's that strings.Split reads: a number, whichever.
-/
namespace Go.Proofs.YtmlbomblbdbikaaGreatDoor
set_option linter.unusedSimpArgs false
set_option linter.unusedVariables false
set_option linter.unusedSectionVars false
open Go.ChangeShapes Go.WideShapes Go.ChangeAt Go.RowKit Go.Deep

theorem max_cell {W : World} (h : W.ShapedOpen Tryz.prog) : ∃ m, W.cell? MaxA = some (.int .i64 m) :=
  Go.Proofs.cell_of_shapedOpen_int (zero := #[.int .i64 0]) (t := 3) h (of_decide_eq_true (by kernel_rfl)) (by kernel_rfl) rfl (by kernel_rfl) (by kernel_rfl) Tryz.underlying3
end Go.Proofs.YtmlbomblbdbikaaGreatDoor
/-
  What the walks ask of the library's variables, in any world that has grown since.
-/
namespace Go.Proofs.YtmlbomblbdbikaaGreatDoor
set_option linter.unusedSimpArgs false
set_option linter.unusedVariables false
set_option linter.unusedSectionVars false
open Go.ChangeShapes Go.WideShapes Go.ChangeAt Go.RowKit Go.Deep Go.Shelf

def ErrCell (w : World) (g : Nat) : Prop := ∃ ev, w.cell? ⟨g, 0, none⟩ = some ev ∧ (ev = .nilIface ∨ ∃ te pe, ev = .iface te pe)
theorem cell_lt {w : World} {g : Nat} {v : Value} (h : w.cell? ⟨g, 0, none⟩ = some v) : g < w.heap.size := by
  rcases Nat.lt_or_ge g w.heap.size with hlt | hge
  · exact hlt
  · unfold World.cell? at h; rw [Array.getElem?_eq_none hge] at h; cases h
theorem cell_keep {w w' : World} {g : Nat} {v : Value} (h : w.cell? ⟨g, 0, none⟩ = some v) (hb : Below w.heap.size w w') : w'.cell? ⟨g, 0, none⟩ = some v :=
  (hb.cell (p := ⟨g, 0, none⟩) (cell_lt h)).trans h
theorem ErrCell.below {w w' : World} {g : Nat} (h : ErrCell w g) (hb : Below w.heap.size w w') : ErrCell w' g := by
  obtain ⟨ev, h1, h2⟩ := h
  exact ⟨ev, cell_keep h1 hb, h2⟩
theorem var_lt {w : World} {P : Program} {n : String} {g : Nat} {cs : Array Value} (hg : P.globalNamed n = some g) (h : w.var? P n = some cs) : g < w.heap.size := by
  unfold World.var? at h
  rw [hg] at h
  rcases Nat.lt_or_ge g w.heap.size with hlt | hge
  · exact hlt
  · simp [Array.getElem?_eq_none hge] at h
theorem grow_junk (w : World) (k : Nat) (os : Array Obj) : ∃ j, Go.Sort.grow (w.drewN k) os = w.more j := ⟨⟨os, (w.drewN k).drawn⟩, rfl⟩
theorem atoi_cases (s : List UInt8) : (∃ v, Lib.atoiAll s = .ok v) ∨ Lib.atoiAll s = Lib.atoiAll [] ∨ Lib.atoiAll s = .range := by
  cases Lib.atoiAll s
  all_goals first | exact .inl ⟨_, rfl⟩ | exact .inr (.inl rfl) | exact .inr (.inr rfl)
def AtoiBad (w : World) (e : Ending) (w' : World) : Prop := ∃ (n : Int) (t : TypeId) (p : Value), e = .returned (.tuple #[.int .i64 n, .iface t p]) ∧ ∃ j, w' = w.more j
end Go.Proofs.YtmlbomblbdbikaaGreatDoor
/-
  From the row's list of variables to what the walks ask of the world.
-/
namespace Go.Proofs.YtmlbomblbdbikaaGreatDoor
set_option linter.unusedSimpArgs false
set_option linter.unusedVariables false
set_option linter.unusedSectionVars false
open Go.ChangeShapes Go.WideShapes Go.ChangeAt Go.RowKit Go.Deep

section
variable {P : Program} {W : World}
theorem laid_drop : ∀ (k : Nat) (l : List (String × DataW Unit)), laidMet P l W → laidMet P (l.drop k) W
  | 0, l, h => h
  | k + 1, [], h => h
  | k + 1, x :: r, h => laid_drop k r h.tail
theorem laid_iface {n nm : String} {d : DataW Unit} {r : List (String × DataW Unit)} {g : Nat} {ti : TypeId} {ms : Array (String × TypeId)} (h : laidMet P ((n, .iface nm d) :: r) W) (hg : P.globalNamed n = some g)
    (ht : (P.globals[g]?).map (·.type) = some ti) (hi : P.underlying ti = some (.interface ms)) : ∃ u v, W.cell? ⟨g, 0, none⟩ = some (.iface u v) := by
  obtain ⟨ps, ⟨g0, t0, cs0, f0, p0, q0, hg0, ht0, hv0, hd0, _, e0⟩, _, hrows⟩ := h
  obtain rfl := Option.some.inj (hg.symm.trans hg0)
  obtain rfl := Option.some.inj (ht.symm.trans ht0)
  obtain ⟨f1, u, v, hcs, hn, h1⟩ := iface_of_trod hi hd0
  obtain ⟨l0⟩ := cs0
  have hcs' : l0 = [.iface u v] := hcs
  subst hcs'
  exact ⟨u, v, by simpa using World.var?_cell hg0 hv0 0⟩
def strsData {H : Type} (xs : List (List UInt8)) : DataW H := .agg (xs.map fun s => .lit (.string s))
theorem cells_of_strs {H : Type} {enc : TypeId × Value → H} {w : World} {base : Nat} {sp : Nat → Bool} {held : Bool} {fuel : Nat} {t e : TypeId} {n : Nat} {cs : List Value} {xs : List (List UInt8)} {p : List MemPlace}
    (ht : P.underlying t = some (.array n e)) (he : P.underlying e = some .string) (hce : P.cellsOf e = 1) (hct : P.cellsOf t = n)
    (h : DataW.trod enc P w base sp held fuel t cs = some (strsData xs, p)) : cs = xs.map bstr := by
  cases fuel with
  | zero => simp [DataW.trod] at h
  | succ fuel =>
    simp only [DataW.trod, ht, hce, hct, Nat.mul_one] at h
    split at h
    · rename_i hl
      obtain ⟨ys, hm, hx⟩ := Option.map_eq_some_iff.1 h
      have hys : ys.map (·.1) = xs.map fun s => (DataW.lit (.string s) : DataW H) := by
        have := congrArg Prod.fst hx
        simpa [strsData] using this
      have hyl : ys.length = n := by simpa using Lib.mapM_length hm
      have hxl : xs.length = n := by
        have := congrArg List.length hys
        simp at this
        omega
      apply List.ext_getElem?
      intro i
      by_cases hi : i < n
      · obtain ⟨b, hb, hf⟩ := Lib.mapM_at hm i i (by simp [hi])
        obtain ⟨s, hc, h2, _⟩ := DataW.trod_string he hf
        have h1 : cs[i]? = some (.string s) := by
          have := congrArg (·[0]?) hc
          simpa [List.getElem?_take, List.getElem?_drop] using this
        have h3 : (ys.map (·.1))[i]? = some b.1 := by simp [hb]
        rw [hys] at h3
        simp only [List.getElem?_map, Option.map_eq_some_iff] at h3
        obtain ⟨z, hz, hz2⟩ := h3
        rw [h2] at hz2
        injection hz2 with hz2
        injection hz2 with hz2
        rw [h1, List.getElem?_map, hz, Option.map_some, hz2]
      · rw [List.getElem?_eq_none (by omega), List.getElem?_eq_none (by simp; omega)]
    · cases h
theorem strs_of_head {name : String} {xs : List (List UInt8)} {rest : List (String × DataW Unit)} {g : Nat} {t e : TypeId} {n : Nat}
    (hg : P.globalNamed name = some g) (hty : (P.globals[g]?).map (·.type) = some t) (ht : P.underlying t = some (.array n e)) (he : P.underlying e = some .string) (hce : P.cellsOf e = 1) (hct : P.cellsOf t = n)
    (h : laidMet P ((name, strsData xs) :: rest) W) : W.var? P name = some (xs.map bstr).toArray := by
  obtain ⟨ps, ⟨g', t', cs, fuel, p, q, hg', ht', hvar, hd, _, _⟩, _⟩ := h
  obtain rfl := Option.some.inj (hg.symm.trans hg')
  obtain rfl := Option.some.inj (hty.symm.trans ht')
  rw [hvar, ← cells_of_strs ht he hce hct hd]
end
end Go.Proofs.YtmlbomblbdbikaaGreatDoor
/-
  Short words for regions that draw their order: an operation that only reads is taken, the frame in its plain form.
-/
namespace Go.Proofs.YtmlbomblbdbikaaGreatDoor
set_option linter.unusedSimpArgs false
set_option linter.unusedVariables false
set_option linter.unusedSectionVars false
open Go.ChangeShapes Go.WideShapes Go.ChangeAt Go.RowKit Go.Deep

section
variable {P : Program} {ops : Array Oper} {Q : Exit → Act → World → Prop} {md : Region.Mode} {S : World → Prop} {oi : Oper} {v : Value} {fuel : Nat} {listed l' : Array Bool} {a a' : Act} {w : World}
/-- The world gets a name. -/
theorem wnm {c : Code} (h : ∀ wz, wz = w → Code.wp P c Q a wz) : Code.wp P c Q a w := h w rfl
theorem nfa {α : Type} {l : List α} {i : Nat} (h : i < l.toArray.size) : l.toArray[i] = l[i]'(by simpa using h) := by simp
theorem nfb {α : Type} {a : α} {l : List α} {i : Nat} (h : i + 1 < (a :: l).length) : (a :: l)[i + 1] = l[i]'(by simpa using h) := rfl
theorem nfc {α : Type} {a : α} {l : List α} (h : 0 < (a :: l).length) : (a :: l)[0] = a := rfl
theorem nfd {α : Type} {l : List α} {i : Nat} {a : α} : l.toArray.setIfInBounds i a = (l.set i a).toArray := by simp
theorem tk (i : Nat) (h : wpAnyH P md ops Q S fuel l' a' w)
    (hi : ops[i]? = some oi := by exact rfl)
    (hs : Region.noSelect ops = true := by kernel_rfl) (hf : Region.free md ops listed i = true := by kernel_rfl) (hr : (Region.ready md ops listed).contains i = true := by kernel_rfl)
    (hQ : ∀ c a w, Q (.panic c) (a.put oi.dst v) w → Q (.panic c) a w := by exact fun _ _ _ h => h)
    (hy : YieldsIf P ops S oi v a := by (refine Or.inl ⟨by first | kernel_rfl | rfl, ?_⟩; intro wS hSw; (try have hSc := hSw.cell); clear hSw; go_simp; try with_reducible rfl))
    (hS : S w := by first | exact Below.refl _ _ | exact trivial | exact ⟨rfl, rfl, rfl, Nat.le_refl _, fun _ _ _ => rfl⟩)
    (hl : listed.setIfInBounds i true = l' := by ((try simp only [List.setIfInBounds_toArray, List.set_cons_zero, List.set_cons_succ]); all_goals exact rfl))
    (ha : a.put oi.dst v = a' := by ((try simp only [Act.put, List.getElem_toArray, List.getElem_cons_succ, List.getElem_cons_zero, List.setIfInBounds_toArray, List.set_cons_zero, List.set_cons_succ]); all_goals exact rfl)) :
    wpAnyH P md ops Q S (fuel + 1) listed a w := by
  subst hl ha
  exact wpAnyH_take hi hs hf hr hQ hy hS h
theorem tkc (i : Nat) (h : wpAnyH P md ops Q S fuel l' a' w)
    (hi : ops[i]? = some oi := by exact rfl)
    (hs : Region.noSelect ops = true := by kernel_rfl) (hf : Region.free md ops listed i = true := by kernel_rfl) (hr : (Region.ready md ops listed).contains i = true := by kernel_rfl)
    (hQ : ∀ c a w, Q (.panic c) (a.put oi.dst v) w → Q (.panic c) a w := by exact fun _ _ _ h => h)
    (hy : YieldsIf P ops S oi v a := by (refine Or.inl ⟨by first | kernel_rfl | rfl, ?_⟩; intro wS hSw; (try have hSc := hSw.cell); clear hSw; go_simp; first | (with_reducible rfl) | (rw [if_neg (by first | omega | (simp only [List.length_append, List.length_cons, List.length_nil]; omega))])))
    (hS : S w := by first | exact Below.refl _ _ | exact trivial | exact ⟨rfl, rfl, rfl, Nat.le_refl _, fun _ _ _ => rfl⟩)
    (hl : listed.setIfInBounds i true = l' := by ((try simp only [List.setIfInBounds_toArray, List.set_cons_zero, List.set_cons_succ]); all_goals exact rfl))
    (ha : a.put oi.dst v = a' := by ((try simp only [Act.put, List.getElem_toArray, List.getElem_cons_succ, List.getElem_cons_zero, List.setIfInBounds_toArray, List.set_cons_zero, List.set_cons_succ]); all_goals exact rfl)) :
    wpAnyH P md ops Q S (fuel + 1) listed a w := by
  subst hl ha
  exact wpAnyH_take hi hs hf hr hQ hy hS h
theorem tks (i : Nat) (h : wpAnyH P md ops Q S fuel l' a' w)
    (hi : ops[i]? = some oi := by exact rfl)
    (hs : Region.noSelect ops = true := by kernel_rfl) (hf : Region.free md ops listed i = true := by kernel_rfl) (hr : (Region.ready md ops listed).contains i = true := by kernel_rfl)
    (hQ : ∀ c a w, Q (.panic c) (a.put oi.dst v) w → Q (.panic c) a w := by exact fun _ _ _ h => h)
    (hy : YieldsIf P ops S oi v a := by exact Or.inr ⟨by kernel_rfl, rfl⟩)
    (hS : S w := by first | exact Below.refl _ _ | exact trivial | exact ⟨rfl, rfl, rfl, Nat.le_refl _, fun _ _ _ => rfl⟩)
    (hl : listed.setIfInBounds i true = l' := by ((try simp only [List.setIfInBounds_toArray, List.set_cons_zero, List.set_cons_succ]); all_goals exact rfl))
    (ha : a.put oi.dst v = a' := by ((try simp only [Act.put, List.getElem_toArray, List.getElem_cons_succ, List.getElem_cons_zero, List.setIfInBounds_toArray, List.set_cons_zero, List.set_cons_succ]); all_goals exact rfl)) :
    wpAnyH P md ops Q S (fuel + 1) listed a w := by
  subst hl ha
  exact wpAnyH_take hi hs hf hr hQ hy hS h
theorem tke (i : Nat) {E : World → Prop} (hE : ∀ wS, S wS → E wS) (h : wpAnyH P md ops Q S fuel l' a' w)
    (hi : ops[i]? = some oi := by exact rfl)
    (hs : Region.noSelect ops = true := by kernel_rfl) (hf : Region.free md ops listed i = true := by kernel_rfl) (hr : (Region.ready md ops listed).contains i = true := by kernel_rfl)
    (hQ : ∀ c a w, Q (.panic c) (a.put oi.dst v) w → Q (.panic c) a w := by exact fun _ _ _ h => h)
    (hw : Region.wanted oi (yielded ops a.tmps) = true := by first | kernel_rfl | rfl)
    (hy : ∀ wS, E wS → (execOp a.eval oi).run P wS = .ok (.value v) wS := by (intro wS hSc; go_simp; try with_reducible rfl))
    (hS : S w := by first | exact Below.refl _ _ | exact trivial | exact ⟨rfl, rfl, rfl, Nat.le_refl _, fun _ _ _ => rfl⟩)
    (hl : listed.setIfInBounds i true = l' := by ((try simp only [List.setIfInBounds_toArray, List.set_cons_zero, List.set_cons_succ]); all_goals exact rfl))
    (ha : a.put oi.dst v = a' := by ((try simp only [Act.put, List.getElem_toArray, List.getElem_cons_succ, List.getElem_cons_zero, List.setIfInBounds_toArray, List.set_cons_zero, List.set_cons_succ]); all_goals exact rfl)) :
    wpAnyH P md ops Q S (fuel + 1) listed a w := by
  subst hl ha
  exact wpAnyH_take hi hs hf hr hQ (.inl ⟨hw, fun wS hs => hy wS (hE wS hs)⟩) hS h
/-- A whole row is loaded, that stays as long as S. -/
theorem tkl (i : Nat) {b : Nat} {t : TypeId} {cs : Array Value} (hb : ∀ wS, S wS → Blk wS b t cs) {ty : TypeId} {x : Operand} {d : TypeDesc} (hu : P.underlying ty = some d) (h : wpAnyH P md ops Q S fuel l' a' w)
    (hi : ops[i]? = some oi := by exact rfl)
    (hs : Region.noSelect ops = true := by kernel_rfl) (hf : Region.free md ops listed i = true := by kernel_rfl) (hr : (Region.ready md ops listed).contains i = true := by kernel_rfl)
    (hQ : ∀ c a w, Q (.panic c) (a.put oi.dst (.agg cs)) w → Q (.panic c) a w := by exact fun _ _ _ h => h)
    (hw : Region.wanted oi (yielded ops a.tmps) = true := by first | kernel_rfl | rfl) (ho : oi.op = .load ty x := by exact rfl) (hx : a.eval x = .pointer (some ⟨b, 0, none⟩) := by exact rfl)
    (hd : d.isRow = true := by exact rfl) (hsz : (P.info? ty).map (·.size) = some cs.size := by kernel_rfl)
    (hS : S w := by first | exact Below.refl _ _ | exact trivial | exact ⟨rfl, rfl, rfl, Nat.le_refl _, fun _ _ _ => rfl⟩)
    (hl : listed.setIfInBounds i true = l' := by ((try simp only [List.setIfInBounds_toArray, List.set_cons_zero, List.set_cons_succ]); all_goals exact rfl))
    (ha : a.put oi.dst (.agg cs) = a' := by ((try simp only [Act.put, List.getElem_toArray, List.getElem_cons_succ, List.getElem_cons_zero, List.setIfInBounds_toArray, List.set_cons_zero, List.set_cons_succ]); all_goals exact rfl)) :
    wpAnyH P md ops Q S (fuel + 1) listed a w := by
  subst hl ha
  refine wpAnyH_take hi hs hf hr hQ ?_ hS h
  have := yieldsIf_load_mid (P := P) (ops := ops) (S := S) (op := oi) (a := a) hw ty x ho b 0 hx cs.toList d (fun w' hw' j v hj => by
    rw [Nat.zero_add, (hb w' hw').cell j, ← Array.getElem?_toList]
    exact hj) hu hd (by simpa using hsz)
  simpa using this
/-! Any relation between worlds that may be held. -/
theorem gg_mono {S S' : World → Prop} (hS : ∀ w, S' w → S w) : ∀ (fuel : Nat) (listed : Array Bool) (a : Act) (w : World), wpAnyH P md ops Q S' fuel listed a w → wpAnyH P md ops Q S fuel listed a w
  | 0, _, _, _, h => h
  | fuel + 1, listed, a, w, h => ⟨h.1, fun i hi => wpOp_mono (fun a' w' h' => ⟨hS _ h'.1, gg_mono hS fuel _ a' w' h'.2⟩) (h.2 i hi)⟩
theorem gg_start {id : Nat} (G : World → World → Prop) (hr : ∀ w, G w w) (hm : P.follows .mixedOrders = true := by kernel_rfl)
    (h : wpAnyH P .any ops Q (G w.drew) ops.size (Array.replicate ops.size false) a w.drew) : (Code.region id ops true).wp P Q a w :=
  wp_region_held_drew hm (hr _) (fun _ => h)
theorem gg_step {G : World → World → Prop} (ht : ∀ a b c, G a b → G b c → G a c) (i : Nat) {o : Oper} (hr : Region.ready md ops listed = [i]) (ho : ops[i]? = some o)
    (h : ∀ K' : Act → World → Prop, Shut (∀ a' w', G w w' → wpAnyH P md ops Q (G w') fuel (listed.setIfInBounds i true) a' w' → K' a' w') → if Region.wanted o (yielded ops a.tmps) = true then Oper.wp P o a w K' Q else K' (a.put o.dst undef) w) :
    wpAnyH P md ops Q (G w) (fuel + 1) listed a w :=
  wpAnyH_ready hr (by simp) (AllReadyH.cons ho (fun K' hK => h K' (fun a' w' hg hw => hK.out a' w' hg (fun _ => gg_mono (fun w2 h2 => ht _ _ _ hg h2) _ _ _ _ hw))) AllReadyH.nil)
end
end Go.Proofs.YtmlbomblbdbikaaGreatDoor
/-
  A scope through which the run jumps to and fro between labels: what holds at each jump, and a measure that each pass lowers.
-/
namespace Go

/-- As Q; by a goto: what the label asks. -/
def Exit.jumps (J : Nat → Act → World → Prop) (Q : Exit → Act → World → Prop) : Exit → Act → World → Prop
  | .goto l, a, w => J l a w
  | e, a, w => Q e a w
section
variable {P : Program} {a : Act} {w : World} {Q : Exit → Act → World → Prop}
theorem wp_scope_multi {c : Code} (rest : Nat → Code) (J : Nat → Act → World → Prop) (μ : Nat → Act → World → Nat) (hf : ∀ l a w, J l a w → findLabel c l = some (rest l))
    (first : c.wp P (Exit.jumps J Q) a w)
    (pass : ∀ l a w, J l a w → (rest l).wp P (Exit.jumps (fun l' a' w' => J l' a' w' ∧ μ l' a' w' < μ l a w) Q) a w) : (Code.scope c).wp P Q a w := by
  intro b k cs
  have hg : ∀ l a w, J l a w → gotoIn l (.inScope c :: k) = some (.code (rest l) :: .inScope c :: k) := fun l a w hj => by simp [gotoIn, hf l a w hj]
  have key : ∀ n l a w, μ l a w = n → J l a w → ∃ e a' w', Q e a' w' ∧ Arrives P (lone (b.at a (.code (rest l) :: .inScope c :: k)) cs w) b k cs e a' w' := by
    intro n
    induction n using Nat.strongRecOn with
    | _ n ih =>
      intro l a w hn hJ
      obtain ⟨e, a₁, w₁, hq, harr⟩ := pass l a w hJ b (.inScope c :: k) cs
      cases e with
      | normal => exact ⟨.normal, a₁, w₁, hq, Steps.trans harr (.one step_inScope)⟩
      | exit id => exact ⟨.exit id, a₁, w₁, hq, fun k' hk => harr k' (by simp [exitTo, hk])⟩
      | goto l' =>
        obtain ⟨hJ', hlt⟩ := hq
        obtain ⟨e₂, a₂, w₂, hq₂, harr₂⟩ := ih _ (by omega) l' a₁ w₁ rfl hJ'
        exact ⟨e₂, a₂, w₂, hq₂, .of_steps (harr _ (hg l' a₁ w₁ hJ')) harr₂⟩
      | ret => exact ⟨_, a₁, w₁, hq, harr⟩
      | panic ch => exact ⟨_, a₁, w₁, hq, harr⟩
      | outgrown => exact ⟨_, a₁, w₁, hq, harr⟩
  obtain ⟨e, a₁, w₁, hq, harr⟩ := first b (.inScope c :: k) cs
  cases e with
  | normal => exact ⟨.normal, a₁, w₁, hq, .head step_scope (Steps.trans harr (.one step_inScope))⟩
  | exit id => exact ⟨.exit id, a₁, w₁, hq, fun k' hk => .head step_scope (harr k' (by simp [exitTo, hk]))⟩
  | goto l' =>
    obtain ⟨e₂, a₂, w₂, hq₂, harr₂⟩ := key _ l' a₁ w₁ rfl hq
    exact ⟨e₂, a₂, w₂, hq₂, .of_steps (.head step_scope (harr _ (hg l' a₁ w₁ hq))) harr₂⟩
  | ret => exact ⟨_, a₁, w₁, hq, .of_steps (.one step_scope) harr⟩
  | panic ch => exact ⟨_, a₁, w₁, hq, .of_steps (.one step_scope) harr⟩
  | outgrown => exact ⟨_, a₁, w₁, hq, .of_steps (.one step_scope) harr⟩
theorem Exit.jumps_ret {J : Nat → Act → World → Prop} : Exit.jumps J Q .ret a w = Q .ret a w := rfl
theorem Exit.jumps_goto {J : Nat → Act → World → Prop} {l : Nat} : Exit.jumps J Q (.goto l) a w = J l a w := rfl
theorem Exit.jumps_panic {J : Nat → Act → World → Prop} {ch} : Exit.jumps J Q (.panic ch) a w = Q (.panic ch) a w := rfl
theorem stl {f : FuncId} {args : Array Value} {v : Value} (h : Calls P f args w fun e w' => e = .returned v ∧ w = w') : Calls P f args w fun e w'' => e = .returned v ∧ w'' = w := h.mono fun _ _ ⟨he, hw⟩ => ⟨he, hw.symm⟩
/-- The post-condition gets a name. -/
theorem wp_named {c : Code} (h : ∀ Q', RowKit.Hid (Q' = Q) → c.wp P Q' a w) : c.wp P Q a w := h Q rfl
/-- One label. -/
theorem wp_scope_one {c r0 : Code} (J : Act → World → Prop) (μ : Act → World → Nat) (h0 : findLabel c 0 = some r0)
    (first : c.wp P (Exit.jumps (fun l a w => l = 0 ∧ J a w) Q) a w)
    (pass : ∀ a w, J a w → r0.wp P (Exit.jumps (fun l' a' w' => (l' = 0 ∧ J a' w') ∧ μ a' w' < μ a w) Q) a w) : (Code.scope c).wp P Q a w :=
  wp_scope_multi (fun _ => r0) (fun l a w => l = 0 ∧ J a w) (fun _ => μ) (fun _ _ _ ⟨hl, _⟩ => hl ▸ h0) first (fun _ a w ⟨_, hj⟩ => pass a w hj)
/-- Three labels. -/
theorem wp_scope_three {c r0 r1 r2 : Code} (J0 J1 J2 : Act → World → Prop) (μ : Nat → Act → World → Nat) (h0 : findLabel c 0 = some r0) (h1 : findLabel c 1 = some r1) (h2 : findLabel c 2 = some r2)
    (first : c.wp P (Exit.jumps (fun l a w => (l = 0 ∧ J0 a w) ∨ (l = 1 ∧ J1 a w) ∨ (l = 2 ∧ J2 a w)) Q) a w)
    (p0 : ∀ a w, J0 a w → r0.wp P (Exit.jumps (fun l' a' w' => ((l' = 0 ∧ J0 a' w') ∨ (l' = 1 ∧ J1 a' w') ∨ (l' = 2 ∧ J2 a' w')) ∧ μ l' a' w' < μ 0 a w) Q) a w)
    (p1 : ∀ a w, J1 a w → r1.wp P (Exit.jumps (fun l' a' w' => ((l' = 0 ∧ J0 a' w') ∨ (l' = 1 ∧ J1 a' w') ∨ (l' = 2 ∧ J2 a' w')) ∧ μ l' a' w' < μ 1 a w) Q) a w)
    (p2 : ∀ a w, J2 a w → r2.wp P (Exit.jumps (fun l' a' w' => ((l' = 0 ∧ J0 a' w') ∨ (l' = 1 ∧ J1 a' w') ∨ (l' = 2 ∧ J2 a' w')) ∧ μ l' a' w' < μ 2 a w) Q) a w) : (Code.scope c).wp P Q a w := by
  refine wp_scope_multi (fun l => if l = 0 then r0 else if l = 1 then r1 else r2) (fun l a w => (l = 0 ∧ J0 a w) ∨ (l = 1 ∧ J1 a w) ∨ (l = 2 ∧ J2 a w)) μ (fun l a w hj => ?_) first (fun l a w hj => ?_)
  · rcases hj with ⟨rfl, _⟩ | ⟨rfl, _⟩ | ⟨rfl, _⟩
    · exact h0
    · exact h1
    · exact h2
  · rcases hj with ⟨rfl, h⟩ | ⟨rfl, h⟩ | ⟨rfl, h⟩
    · exact p0 a w h
    · exact p1 a w h
    · exact p2 a w h
end
end Go
/-
  Field blocks, in plain words: numbers that begin within a byte, Huffman's code, texts, how a field stands there, tables, and a whole block.
-/
namespace Go.Proofs.YtmlbomblbdbikaaGreatDoor
set_option linter.unusedSimpArgs false
set_option linter.unusedVariables false
set_option linter.unusedSectionVars false

/-! Numbers that begin within a byte. -/
def pfxGo (l : List UInt8) : Nat → Nat → Int → Int × Int × Int
  | 0, _, _ => (0, 0, 5)
  | f + 1, k, n =>
    if l.length ≤ k then (0, 0, 3)
    else if (l.getD k 0).toNat < 128 then
      (if 2147483647 < n + (((l.getD k 0).toNat % 128 * 2 ^ (7 * (k - 1)) : Nat) : Int) then (0, 0, 5) else (n + (((l.getD k 0).toNat % 128 * 2 ^ (7 * (k - 1)) : Nat) : Int), (k : Int) + 1, 0))
    else pfxGo l f (k + 1) (n + (((l.getD k 0).toNat % 128 * 2 ^ (7 * (k - 1)) : Nat) : Int))
def pfxF (l : List UInt8) (bits : Nat) : Int × Int × Int :=
  if l.length = 0 then (0, 0, 3)
  else if (l.headD 0).toNat % 2 ^ bits < 2 ^ bits - 1 then (((l.headD 0).toNat % 2 ^ bits : Nat), 1, 0)
  else pfxGo l 5 1 ((l.headD 0).toNat % 2 ^ bits : Nat)
theorem pfxGo_ok {l : List UInt8} : ∀ (f k : Nat) (n : Int), 0 ≤ n → (pfxGo l f k n).2.2 = 0 → 0 ≤ (pfxGo l f k n).1 ∧ (pfxGo l f k n).1 ≤ 2147483647 ∧ (k : Int) < (pfxGo l f k n).2.1 ∧ (pfxGo l f k n).2.1 ≤ l.length
  | 0, k, n, hn, h => by simp [pfxGo] at h
  | f + 1, k, n, hn, h => by
    unfold pfxGo at h ⊢
    split at h
    · simp at h
    · rename_i hk
      rw [if_neg hk]
      split at h
      · rename_i hc
        rw [if_pos hc]
        split at h
        · simp at h
        · rename_i hm
          rw [if_neg hm]
          simp only
          omega
      · rename_i hc
        rw [if_neg hc]
        have := pfxGo_ok f (k + 1) _ (by omega) h
        omega
theorem pfxF_ok {l : List UInt8} {bits : Nat} (hb : bits ≤ 8) (h : (pfxF l bits).2.2 = 0) : 0 ≤ (pfxF l bits).1 ∧ (pfxF l bits).1 ≤ 2147483647 ∧ 1 ≤ (pfxF l bits).2.1 ∧ (pfxF l bits).2.1 ≤ l.length := by
  unfold pfxF at h ⊢
  split at h
  · simp at h
  · rename_i hl
    rw [if_neg hl]
    split at h
    · rename_i hc
      rw [if_pos hc]
      have : (l.headD 0).toNat % 2 ^ bits < 256 := Nat.lt_of_le_of_lt (Nat.mod_le _ _) (UInt8.toNat_lt _)
      simp only
      omega
    · rename_i hc
      rw [if_neg hc]
      have := pfxGo_ok 5 1 _ (by omega) h
      omega
theorem pfxGo_err {l : List UInt8} : ∀ (f k : Nat) (n : Int), (pfxGo l f k n).2.2 ≠ 0 → (pfxGo l f k n).1 = 0 ∧ (pfxGo l f k n).2.1 = 0
  | 0, k, n, h => ⟨rfl, rfl⟩
  | f + 1, k, n, h => by
    unfold pfxGo at h ⊢
    split
    · exact ⟨rfl, rfl⟩
    · rename_i hk
      rw [if_neg hk] at h
      split
      · rename_i hc
        rw [if_pos hc] at h
        split
        · exact ⟨rfl, rfl⟩
        · rename_i hm
          rw [if_neg hm] at h
          exact absurd rfl h
      · rename_i hc
        rw [if_neg hc] at h
        exact pfxGo_err f (k + 1) _ h

/-! Huffman's code. -/
def hlens : List Nat :=
  [13, 23, 28, 28, 28, 28, 28, 28, 28, 24, 30, 28, 28, 30, 28, 28,
   28, 28, 28, 28, 28, 28, 30, 28, 28, 28, 28, 28, 28, 28, 28, 28,
   6, 10, 10, 12, 13, 6, 8, 11, 10, 10, 8, 11, 8, 6, 6, 6,
   5, 5, 5, 6, 6, 6, 6, 6, 6, 6, 7, 8, 15, 6, 12, 10,
   13, 6, 7, 7, 7, 7, 7, 7, 7, 7, 7, 7, 7, 7, 7, 7,
   7, 7, 7, 7, 7, 7, 7, 7, 8, 7, 8, 13, 19, 13, 14, 6,
   15, 5, 6, 5, 6, 5, 6, 6, 6, 5, 7, 7, 6, 6, 6, 5,
   6, 7, 6, 5, 5, 6, 7, 7, 7, 7, 7, 15, 11, 14, 13, 28,
   20, 22, 20, 20, 22, 22, 22, 23, 22, 23, 23, 23, 23, 23, 24, 23,
   24, 24, 22, 23, 24, 23, 23, 23, 23, 21, 22, 23, 22, 23, 23, 24,
   22, 21, 20, 22, 22, 23, 23, 21, 23, 22, 22, 24, 21, 22, 23, 23,
   21, 21, 22, 21, 23, 22, 23, 23, 20, 22, 22, 22, 23, 22, 22, 23,
   26, 26, 20, 19, 22, 23, 22, 25, 26, 26, 26, 27, 27, 26, 24, 25,
   19, 21, 26, 27, 27, 26, 27, 24, 21, 21, 26, 26, 28, 27, 27, 27,
   20, 24, 20, 21, 22, 21, 21, 23, 22, 22, 25, 25, 24, 24, 26, 23,
   26, 27, 26, 26, 27, 27, 27, 27, 27, 28, 27, 27, 27, 27, 27, 26,
   30]
/-- The symbols of one length, in order. -/
def hrow (n : Nat) : List Nat := (List.range 257).filter fun s => hlens.getD s 0 == n
def horder : List Nat := (List.range 30).flatMap fun i => hrow (i + 1)
/-- Of each length the first code, and how many codes are shorter. -/
def hfirst : Nat → Nat
  | 0 => 0
  | n + 1 => 2 * (hfirst n + (hrow n).length)
def hbase : Nat → Nat
  | 0 => 0
  | n + 1 => hbase n + (hrow n).length
/-- The symbol of a code of a length. -/
def findH (code n : Int) : Option Nat :=
  if n < 1 ∨ 30 < n ∨ code < hfirst n.toNat then none else (hrow n.toNat)[(code - hfirst n.toNat).toNat]?
def hcode (s : Nat) : Nat := hfirst (hlens.getD s 0) + (hrow (hlens.getD s 0)).idxOf s
/-! Bits of bytes. -/
def bit8 (c : UInt8) (i : Nat) : Int := ((c.toNat / 2 ^ (7 - i) % 2 : Nat) : Int)
def bits8 (c : UInt8) : List Int := [bit8 c 0, bit8 c 1, bit8 c 2, bit8 c 3, bit8 c 4, bit8 c 5, bit8 c 6, bit8 c 7]
def bitsF (l : List UInt8) : List Int := l.flatMap bits8
theorem bits_len (l : List UInt8) : (bitsF l).length = 8 * l.length := by
  induction l with
  | nil => rfl
  | cons c r ih => simp only [bitsF, List.flatMap_cons, List.length_append, List.length_cons] at ih ⊢; simp only [bits8, List.length_cons, List.length_nil]; omega
theorem bit8_01 (c : UInt8) (i : Nat) : bit8 c i = 0 ∨ bit8 c i = 1 := by unfold bit8; omega
theorem bits_01 (l : List UInt8) : ∀ x ∈ bitsF l, x = 0 ∨ x = 1 := by
  intro x hx
  unfold bitsF at hx
  obtain ⟨c, _, hc⟩ := List.mem_flatMap.1 hx
  simp only [bits8, List.mem_cons, or_false, List.not_mem_nil] at hc
  rcases hc with rfl | rfl | rfl | rfl | rfl | rfl | rfl | rfl <;> exact bit8_01 _ _
/-- The bits from a code's beginning on: what is read already of it, and the bytes of what was read. -/
def endH (n : Nat) (code : Int) (out : List UInt8) : List UInt8 × Int := if 7 < n ∨ code ≠ 2 ^ n - 1 then ([], 10) else (out, 0)
def hufGo : List Int → Int → Nat → List UInt8 → List UInt8 × Int
  | [], code, n, out => endH n code out
  | b :: r, code, n, out =>
    match findH (2 * code + b) (n + 1) with
    | none => hufGo r (2 * code + b) (n + 1) out
    | some s => if s = 256 then ([], 11) else hufGo r 0 0 (out ++ [UInt8.ofNat s])
theorem huf_cons (b : Int) (r : List Int) (code : Int) (n : Nat) (out : List UInt8) : hufGo (b :: r) code n out = match findH (2 * code + b) (n + 1) with
    | none => hufGo r (2 * code + b) (n + 1) out
    | some s => if s = 256 then ([], 11) else hufGo r 0 0 (out ++ [UInt8.ofNat s]) := by rw [hufGo]
def hufF (l : List UInt8) : List UInt8 × Int := hufGo (bitsF l) 0 0 []
theorem hufGo_len : ∀ (l : List Int) (code : Int) (n : Nat) (out : List UInt8), (hufGo l code n out).1.length ≤ out.length + l.length
  | [], code, n, out => by unfold hufGo endH; split <;> simp
  | b :: r, code, n, out => by
    unfold hufGo
    split
    · have := hufGo_len r (2 * code + b) (n + 1) out
      simp only [List.length_cons]; omega
    · split
      · simp
      · rename_i s _ _
        have := hufGo_len r 0 0 (out ++ [UInt8.ofNat s])
        simp only [List.length_cons, List.length_append, List.length_nil] at this ⊢; omega
theorem hufGo_err : ∀ (l : List Int) (code : Int) (n : Nat) (out : List UInt8), (hufGo l code n out).2 ≠ 0 → (hufGo l code n out).1 = []
  | [], code, n, out, h => by
    unfold hufGo endH at h ⊢
    split
    · rfl
    · rename_i hc; rw [if_neg hc] at h; exact absurd rfl h
  | b :: r, code, n, out, h => by
    unfold hufGo at h ⊢
    split
    · rename_i hf; rw [hf] at h; exact hufGo_err r _ _ out h
    · rename_i s hf
      rw [hf] at h
      simp only at h
      split
      · rfl
      · rename_i hs
        rw [if_neg hs] at h
        exact hufGo_err r _ _ _ h

/-! Texts. -/
def litF (l : List UInt8) (most : Int) : (List UInt8 × Bool) × Int × Int :=
  if (pfxF l 7).2.2 ≠ 0 then (([], false), 0, (pfxF l 7).2.2)
  else if most < (pfxF l 7).1 then (([], false), 0, 9)
  else if (l.length : Int) - (pfxF l 7).2.1 < (pfxF l 7).1 then (([], false), 0, 3)
  else if (l.headD 0).toNat < 128 then (((l.drop (pfxF l 7).2.1.toNat).take (pfxF l 7).1.toNat, false), (pfxF l 7).2.1 + (pfxF l 7).1, 0)
  else if (hufF ((l.drop (pfxF l 7).2.1.toNat).take (pfxF l 7).1.toNat)).2 ≠ 0 then (([], false), 0, (hufF ((l.drop (pfxF l 7).2.1.toNat).take (pfxF l 7).1.toNat)).2)
  else (((hufF ((l.drop (pfxF l 7).2.1.toNat).take (pfxF l 7).1.toNat)).1, true), (pfxF l 7).2.1 + (pfxF l 7).1, 0)
theorem litF_ok {l : List UInt8} {most : Int} (h : (litF l most).2.2 = 0) : 1 ≤ (litF l most).2.1 ∧ (litF l most).2.1 ≤ l.length ∧ (litF l most).1.1.length ≤ 8 * l.length := by
  unfold litF at h ⊢
  split at h
  · rename_i hc; exact absurd h hc
  rename_i h1
  have h1' : (pfxF l 7).2.2 = 0 := Decidable.not_not.1 h1
  have hp := pfxF_ok (by omega) h1'
  rw [if_neg h1]
  split at h
  · simp at h
  rename_i h2
  rw [if_neg h2]
  split at h
  · simp at h
  rename_i h3
  rw [if_neg h3]
  have hlen : ((l.drop (pfxF l 7).2.1.toNat).take (pfxF l 7).1.toNat).length ≤ l.length := by simp only [List.length_take, List.length_drop]; omega
  split at h
  · rename_i h4
    rw [if_pos h4]
    simp only
    omega
  rename_i h4
  rw [if_neg h4]
  split at h
  · rename_i h5; exact absurd h h5
  rename_i h5
  rw [if_neg h5]
  have := hufGo_len (bitsF ((l.drop (pfxF l 7).2.1.toNat).take (pfxF l 7).1.toNat)) 0 0 []
  rw [bits_len] at this
  simp only [List.length_nil] at this
  show _ ∧ _ ∧ (hufGo _ 0 0 []).1.length ≤ _
  simp only
  omega

/-! How a field stands in a block. -/
structure Rp where
  kind : Int
  index : Int
  name : List UInt8
  sn : Bool
  value : List UInt8
  sv : Bool
  size : Int
abbrev rp0 : Rp := ⟨0, 0, [], false, [], false, 0⟩
def kndF (c : UInt8) : Int := if 128 ≤ c.toNat then 1 else if 64 ≤ c.toNat then 2 else if 32 ≤ c.toNat then 5 else if 16 ≤ c.toNat then 4 else 3
def kbits (k : Int) : Nat := if k = 1 then 7 else if k = 2 then 6 else if k = 5 then 5 else 4
/-- The value, behind the name. -/
def repV (l : List UInt8) (k i : Int) (n : List UInt8 × Bool) (at_ : Int) : Rp × Int × Int :=
  if (litF (l.drop at_.toNat) l.length).2.2 ≠ 0 then (rp0, 0, (litF (l.drop at_.toNat) l.length).2.2)
  else (⟨k, i, n.1, n.2, (litF (l.drop at_.toNat) l.length).1.1, (litF (l.drop at_.toNat) l.length).1.2, 0⟩, at_ + (litF (l.drop at_.toNat) l.length).2.1, 0)
def repN (l : List UInt8) (k i at_ : Int) : Rp × Int × Int :=
  if 0 < i then repV l k i ([], false) at_
  else if (litF (l.drop at_.toNat) l.length).2.2 ≠ 0 then (rp0, 0, (litF (l.drop at_.toNat) l.length).2.2)
  else repV l k i (litF (l.drop at_.toNat) l.length).1 (at_ + (litF (l.drop at_.toNat) l.length).2.1)
def repF (l : List UInt8) : Rp × Int × Int :=
  if l.length = 0 then (rp0, 0, 3)
  else if (pfxF l (kbits (kndF (l.headD 0)))).2.2 ≠ 0 then (rp0, 0, (pfxF l (kbits (kndF (l.headD 0)))).2.2)
  else if kndF (l.headD 0) = 5 then (⟨5, 0, [], false, [], false, (pfxF l 5).1⟩, (pfxF l 5).2.1, 0)
  else if kndF (l.headD 0) = 1 then (if (pfxF l 7).1 = 0 then (rp0, 0, 12) else (⟨1, (pfxF l 7).1, [], false, [], false, 0⟩, (pfxF l 7).2.1, 0))
  else repN l (kndF (l.headD 0)) (pfxF l (kbits (kndF (l.headD 0)))).1 (pfxF l (kbits (kndF (l.headD 0)))).2.1
/-- What is read is within its bounds. -/
def RpOk (l : List UInt8) (p : Rp × Int × Int) : Prop := 1 ≤ p.2.1 ∧ p.2.1 ≤ l.length ∧ 0 ≤ p.1.index ∧ p.1.index ≤ 2147483647 ∧ 0 ≤ p.1.size ∧ p.1.size ≤ 2147483647 ∧ p.1.name.length ≤ 8 * l.length ∧ p.1.value.length ≤ 8 * l.length
theorem repV_ok {l : List UInt8} {k i at_ : Int} {n : List UInt8 × Bool} (hi : 0 ≤ i ∧ i ≤ 2147483647) (hn : n.1.length ≤ 8 * l.length) (ha : 1 ≤ at_ ∧ at_ ≤ l.length) (h : (repV l k i n at_).2.2 = 0) : RpOk l (repV l k i n at_) := by
  unfold repV at h ⊢
  split at h
  · rename_i hc; exact absurd h hc
  rename_i hc
  rw [if_neg hc]
  have hl := litF_ok (Decidable.not_not.1 hc)
  have e : ((l.drop at_.toNat).length : Int) = l.length - at_ := by simp only [List.length_drop]; omega
  unfold RpOk
  simp only
  refine ⟨by omega, by omega, hi.1, hi.2, by omega, by omega, hn, by omega⟩
theorem repN_ok {l : List UInt8} {k i at_ : Int} (hi : 0 ≤ i ∧ i ≤ 2147483647) (ha : 1 ≤ at_ ∧ at_ ≤ l.length) (h : (repN l k i at_).2.2 = 0) : RpOk l (repN l k i at_) := by
  unfold repN at h ⊢
  split at h
  · rename_i hp
    rw [if_pos hp]
    exact repV_ok hi (by simp) ha h
  rename_i hp
  rw [if_neg hp]
  split at h
  · rename_i hc; exact absurd h hc
  rename_i hc
  rw [if_neg hc]
  have hl := litF_ok (Decidable.not_not.1 hc)
  have e : ((l.drop at_.toNat).length : Int) = l.length - at_ := by simp only [List.length_drop]; omega
  exact repV_ok hi (by omega) (by omega) h
theorem kbits_le (k : Int) : kbits k ≤ 8 := by unfold kbits; split <;> (try split) <;> (try split) <;> omega
theorem repF_ok {l : List UInt8} (h : (repF l).2.2 = 0) : RpOk l (repF l) := by
  unfold repF at h ⊢
  split at h
  · simp at h
  rename_i h0
  rw [if_neg h0]
  split at h
  · rename_i hc; exact absurd h hc
  rename_i h1
  rw [if_neg h1]
  have hp := pfxF_ok (kbits_le _) (Decidable.not_not.1 h1)
  split at h
  · rename_i h5
    rw [if_pos h5]
    rw [h5, show kbits 5 = 5 from rfl] at hp
    unfold RpOk
    simp only [List.length_nil]
    omega
  rename_i h5
  rw [if_neg h5]
  split at h
  · rename_i h6
    rw [if_pos h6]
    rw [h6, show kbits 1 = 7 from rfl] at hp
    split at h
    · simp at h
    rename_i h7
    rw [if_neg h7]
    unfold RpOk
    simp only [List.length_nil]
    omega
  rename_i h6
  rw [if_neg h6]
  exact repN_ok ⟨hp.1, hp.2.1⟩ ⟨hp.2.2.1, hp.2.2.2⟩ h

/-! Tables: fields, the newest first. -/
def wgtF (f : Fd) : Int := (f.name.length : Int) + f.value.length + 32
def sizF : List Fd → Int
  | [] => 0
  | f :: r => wgtF f + sizF r
theorem wgt_pos (f : Fd) : 32 ≤ wgtF f := by unfold wgtF; omega
theorem siz_nn : ∀ l : List Fd, 0 ≤ sizF l
  | [] => by unfold sizF; omega
  | f :: r => by have := siz_nn r; have := wgt_pos f; unfold sizF; omega
theorem siz_append (x y : List Fd) : sizF (x ++ y) = sizF x + sizF y := by
  induction x with
  | nil => simp [sizF]
  | cons f r ih => simp only [List.cons_append, sizF, ih]; omega
theorem siz_rev (l : List Fd) : sizF l.reverse = sizF l := by
  induction l with
  | nil => rfl
  | cons f r ih => rw [List.reverse_cons, siz_append, ih]; simp only [sizF]; omega
/-- As many of the newest as come to at most so much. -/
def fitF : List Fd → Int → List Fd
  | [], _ => []
  | f :: r, most => if most < wgtF f then [] else f :: fitF r (most - wgtF f)
/-- The oldest first: as many of the oldest go till the rest comes to at most so much. -/
def dropF : List Fd → Int → List Fd
  | [], _ => []
  | f :: r, most => if most < sizF (f :: r) then dropF r most else f :: r
theorem fit_all : ∀ (l : List Fd) (most : Int), sizF l ≤ most → fitF l most = l
  | [], _, _ => rfl
  | f :: r, most, h => by
    have := siz_nn r
    simp only [sizF] at h
    unfold fitF
    rw [if_neg (by omega), fit_all r _ (by omega)]
theorem fit_snoc : ∀ (l : List Fd) (f : Fd) (most : Int), 0 ≤ most → most < sizF (l ++ [f]) → fitF (l ++ [f]) most = fitF l most
  | [], f, most, h0, h => by
    simp only [List.nil_append, sizF] at h
    simp only [List.nil_append, fitF]
    rw [if_pos (by omega)]
  | g :: r, f, most, h0, h => by
    simp only [List.cons_append, sizF] at h
    simp only [List.cons_append, fitF]
    split
    · rfl
    · rename_i hc
      rw [fit_snoc r f _ (by omega) (by omega)]
theorem drop_fit (l : List Fd) (most : Int) (h0 : 0 ≤ most) : dropF l.reverse most = (fitF l most).reverse := by
  have key : ∀ (m : List Fd), dropF m most = (fitF m.reverse most).reverse := by
    intro m
    induction m with
    | nil => rfl
    | cons f r ih =>
      unfold dropF
      split
      · rename_i hc
        rw [ih, List.reverse_cons, fit_snoc _ _ _ h0 (by rw [siz_append, siz_rev]; simp only [sizF] at hc ⊢; omega)]
      · rename_i hc
        rw [fit_all _ _ (by rw [siz_rev]; omega), List.reverse_reverse]
  rw [key, List.reverse_reverse]
theorem fit_siz : ∀ (l : List Fd) (most : Int), 0 ≤ most → sizF (fitF l most) ≤ most
  | [], most, h => by simpa [fitF, sizF] using h
  | f :: r, most, h => by
    unfold fitF
    split
    · simpa [sizF] using h
    · have := fit_siz r (most - wgtF f) (by omega)
      simp only [sizF]; omega
theorem fit_sub : ∀ (l : List Fd) (most : Int), ∀ f ∈ fitF l most, f ∈ l
  | [], _, f, h => by simp [fitF] at h
  | g :: r, most, f, h => by
    unfold fitF at h
    split at h
    · simp at h
    · rcases List.mem_cons.1 h with rfl | h
      · exact List.mem_cons_self
      · exact List.mem_cons_of_mem _ (fit_sub r _ f h)
/-- A field more. -/
def addF (l : List Fd) (max : Int) (f : Fd) : List Fd := if max < wgtF f then [] else ⟨f.name, f.value, false⟩ :: fitF l (max - wgtF f)
end Go.Proofs.YtmlbomblbdbikaaGreatDoor
