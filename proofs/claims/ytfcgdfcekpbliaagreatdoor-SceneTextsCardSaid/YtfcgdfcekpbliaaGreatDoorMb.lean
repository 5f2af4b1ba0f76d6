/-
  Parts of the proof, one behind the other: contracts of the program and plain laws; no condition of their own.
-/
import Derived.Test.YtfcgdfcekpbliaaGreatDoorMa
import Derived.Deep.RegionHeld3
import Derived.Maps.AppendAt
import Derived.Test.YtfcgdfcekpbliaaGreatDoorShelf
/-
  The one variable of the library's that strings.Split reads: a number, whichever.
-/
namespace Go.Proofs.YtfcgdfcekpbliaaGreatDoor
set_option linter.unusedSimpArgs false
set_option linter.unusedVariables false
set_option linter.unusedSectionVars false
open Go.ChangeShapes Go.WideShapes Go.ChangeAt Go.RowKit Go.Deep

theorem max_cell {W : World} (h : W.ShapedOpen Tryz.prog) : ∃ m, W.cell? MaxA = some (.int .i64 m) :=
  Go.Proofs.cell_of_shapedOpen_int (zero := #[.int .i64 0]) (t := 3) h (of_decide_eq_true (by kernel_rfl)) (by kernel_rfl) rfl (by kernel_rfl) (by kernel_rfl) Tryz.underlying3
end Go.Proofs.YtfcgdfcekpbliaaGreatDoor
/-
  Faults: their order, and sets of them: plain laws.
-/
namespace Go.Proofs.YtfcgdfcekpbliaaGreatDoor
set_option linter.unusedSimpArgs false
set_option linter.unusedVariables false
set_option linter.unusedSectionVars false
open Go.ChangeShapes Go.WideShapes Go.ChangeAt Go.RowKit Go.Deep

structure Fl where
  scope : Int
  code : Int
deriving DecidableEq
def Fl.cells (f : Fl) : List Value := [.int .i64 f.scope, .int .i64 f.code]
def ltFl (a b : Fl) : Bool := if a.scope = b.scope then decide (a.code < b.code) else decide (a.scope < b.scope)
theorem Fl.ext' {a b : Fl} (h1 : a.scope = b.scope) (h2 : a.code = b.code) : a = b := by cases a; cases b; simp_all
theorem ordFl : Ord ltFl := by
  refine ⟨fun a => by simp [ltFl], fun a b c h1 h2 => ?_, fun a b h => ?_⟩
  · unfold ltFl at *
    split at h1 <;> split at h2 <;> split <;> simp only [decide_eq_true_eq] at * <;> omega
  · unfold ltFl
    by_cases hs : a.scope = b.scope
    · rw [if_pos hs, if_pos hs.symm]
      have : a.code ≠ b.code := fun e => h (Fl.ext' hs e)
      simp only [decide_eq_true_eq]; omega
    · rw [if_neg hs, if_neg (Ne.symm hs)]
      simp only [decide_eq_true_eq]; omega
def flR (f : Fl) : Bool := (decide (f.scope = 1) || decide (f.scope = 2)) && (decide (0 ≤ f.code) && decide (f.code < 4294967296))
def ofF (l : List Fl) : List Fl := setS ltFl (l.filter flR)
theorem mem_ofF (l : List Fl) (x : Fl) : x ∈ ofF l ↔ x ∈ l ∧ flR x = true := by unfold ofF; rw [mem_setS, List.mem_filter]
theorem strict_ofF (l : List Fl) : Strict ltFl (ofF l) := strict_setS ordFl _
theorem ofF_len (l : List Fl) : (ofF l).length ≤ l.length := Nat.le_trans (setS_len _) (List.length_filter_le _ _)
theorem ofF_congr {l m : List Fl} (h : ∀ x, flR x = true → (x ∈ l ↔ x ∈ m)) : ofF l = ofF m := by
  unfold ofF
  refine setS_congr ordFl fun x => ?_
  rw [List.mem_filter, List.mem_filter]
  constructor
  · rintro ⟨h1, h2⟩; exact ⟨(h x h2).1 h1, h2⟩
  · rintro ⟨h1, h2⟩; exact ⟨(h x h2).2 h1, h2⟩
theorem ofF_idem (l : List Fl) : ofF (ofF l) = ofF l := ofF_congr fun x hx => by rw [mem_ofF]; simp [hx]
theorem ofF_of {l : List Fl} (hs : Strict ltFl l) (hr : ∀ x ∈ l, flR x = true) : ofF l = l := by
  unfold ofF
  rw [List.filter_eq_self.2 hr]
  exact setS_of_strict ordFl hs
theorem flR_zero : flR ⟨0, 0⟩ = false := rfl
/-- The document's best one, step by step: no fault that is right stands for none. -/
def optFl : Option Fl → Fl
  | none => ⟨0, 0⟩
  | some f => f
end Go.Proofs.YtfcgdfcekpbliaaGreatDoor
/-
  Faults: codes and their names, faults and sets as texts: plain laws.
-/
namespace Go.Proofs.YtfcgdfcekpbliaaGreatDoor
set_option linter.unusedSimpArgs false
set_option linter.unusedVariables false
set_option linter.unusedSectionVars false
open Go.ChangeShapes Go.WideShapes Go.ChangeAt Go.RowKit Go.Deep

def cdNames : List (List UInt8) := [[78, 79, 95, 69, 82, 82, 79, 82], [80, 82, 79, 84, 79, 67, 79, 76, 95, 69, 82, 82, 79, 82], [73, 78, 84, 69, 82, 78, 65, 76, 95, 69, 82, 82, 79, 82], [70, 76, 79, 87, 95, 67, 79, 78, 84, 82, 79, 76, 95, 69, 82, 82, 79, 82], [83, 69, 84, 84, 73, 78, 71, 83, 95, 84, 73, 77, 69, 79, 85, 84], [83, 84, 82, 69, 65, 77, 95, 67, 76, 79, 83, 69, 68], [70, 82, 65, 77, 69, 95, 83, 73, 90, 69, 95, 69, 82, 82, 79, 82], [82, 69, 70, 85, 83, 69, 68, 95, 83, 84, 82, 69, 65, 77], [67, 65, 78, 67, 69, 76], [67, 79, 77, 80, 82, 69, 83, 83, 73, 79, 78, 95, 69, 82, 82, 79, 82], [67, 79, 78, 78, 69, 67, 84, 95, 69, 82, 82, 79, 82], [69, 78, 72, 65, 78, 67, 69, 95, 89, 79, 85, 82, 95, 67, 65, 76, 77], [73, 78, 65, 68, 69, 81, 85, 65, 84, 69, 95, 83, 69, 67, 85, 82, 73, 84, 89], [72, 84, 84, 80, 95, 49, 95, 49, 95, 82, 69, 81, 85, 73, 82, 69, 68]]
def cdName (n : Nat) : List UInt8 := cdNames.getD n []
def cdAt (t : Int) : List UInt8 := cdName t.toNat
theorem cdName_lit : ∀ m : Fin 14, cdNames[m.val]? = some (cdName m.val) := by decide
theorem cdName_inj : ∀ m n : Fin 14, cdName m.val = cdName n.val → m = n := by decide
theorem cdName_ok : ∀ m : Fin 14, cdName m.val ≠ [] ∧ (cdName m.val).length ≤ 19 ∧ readF (cdName m.val) = (0, false) ∧ (cdName m.val).all (fun c => (65 ≤ c && c ≤ 90) || c == 95 || (48 ≤ c && c ≤ 57)) = true := by decide
/-- A code's name. -/
def codeN (c : Int) : List UInt8 := if c < 0 ∨ 4294967295 < c then [] else if c < 14 then cdAt c else Lib.itoa c
/-- The code of a name. -/
def codeOf (s : List UInt8) : Int × Bool :=
  if (scanF cdAt s 14 0).2 = true then scanF cdAt s 14 0 else if (readF s).2 = true ∧ 14 ≤ (readF s).1 ∧ (readF s).1 ≤ 4294967295 then ((readF s).1, true) else (0, false)
theorem codeN_lo {c : Int} (h0 : 0 ≤ c) (h1 : c < 14) : codeN c = cdAt c := by unfold codeN; rw [if_neg (by omega), if_pos h1]
theorem codeN_hi {c : Int} (h0 : 14 ≤ c) (h1 : c ≤ 4294967295) : codeN c = Lib.itoa c := by unfold codeN; rw [if_neg (by omega), if_neg (by omega)]
theorem codeN_out {c : Int} (h : c < 0 ∨ 4294967295 < c) : codeN c = [] := by unfold codeN; rw [if_pos h]
theorem scan_code {c : Int} (h0 : 0 ≤ c) (h1 : c < 14) : scanF cdAt (cdAt c) 14 0 = (c, true) :=
  scan_hit cdAt _ c rfl 14 0 h0 (by omega) fun m h2 h3 e => by
    have := cdName_inj ⟨m.toNat, by omega⟩ ⟨c.toNat, by omega⟩ e
    simp only [Fin.mk.injEq] at this
    omega
theorem scan_digits {c : Int} (g0 : -9223372036854775808 ≤ c) (g1 : c ≤ 9223372036854775807) : scanF cdAt (Lib.itoa c) 14 0 = (0, false) :=
  scan_none cdAt _ 14 0 fun m h2 h3 e => by
    have h := (cdName_ok ⟨m.toNat, by omega⟩).2.2.1
    have e : cdName m.toNat = Lib.itoa c := e
    simp only at h
    rw [e, readF_itoa g0 g1] at h
    cases h
theorem codeOf_name {c : Int} (h0 : 0 ≤ c) (h1 : c ≤ 4294967295) : codeOf (codeN c) = (c, true) := by
  by_cases h : c < 14
  · rw [codeN_lo h0 h]; unfold codeOf; rw [scan_code h0 h, if_pos rfl]
  · rw [codeN_hi (by omega) h1]; unfold codeOf; rw [scan_digits (by omega) (by omega), if_neg (by simp), readF_itoa (by omega) (by omega), if_pos ⟨rfl, by omega, h1⟩]
theorem codeOf_yes {s : List UInt8} (h : (codeOf s).2 = true) : codeN (codeOf s).1 = s ∧ 0 ≤ (codeOf s).1 ∧ (codeOf s).1 ≤ 4294967295 := by
  unfold codeOf at h ⊢
  by_cases h1 : (scanF cdAt s 14 0).2 = true
  · rw [if_pos h1]
    obtain ⟨h2, h3, h4⟩ := scan_true cdAt s 14 0 (scanF cdAt s 14 0).1 (by rw [← h1])
    exact ⟨by rw [codeN_lo h3 (by omega)]; exact h2, h3, by omega⟩
  · rw [if_neg h1] at h ⊢
    by_cases h2 : (readF s).2 = true ∧ 14 ≤ (readF s).1 ∧ (readF s).1 ≤ 4294967295
    · rw [if_pos h2]
      exact ⟨by rw [codeN_hi h2.2.1 h2.2.2]; exact (readF_yes h2.1).1, by omega, h2.2.2⟩
    · rw [if_neg h2] at h; cases h
theorem codeOf_no {s : List UInt8} (h : (codeOf s).2 = false) : codeOf s = (0, false) := by
  unfold codeOf at h ⊢
  by_cases h1 : (scanF cdAt s 14 0).2 = true
  · rw [if_pos h1, h1] at h; cases h
  · rw [if_neg h1] at h ⊢
    by_cases h2 : (readF s).2 = true ∧ 14 ≤ (readF s).1 ∧ (readF s).1 ≤ 4294967295
    · rw [if_pos h2] at h; cases h
    · rw [if_neg h2]
theorem codeN_ne {c : Int} (h0 : 0 ≤ c) (h1 : c ≤ 4294967295) : codeN c ≠ [] := by
  by_cases h : c < 14
  · rw [codeN_lo h0 h]; exact (cdName_ok ⟨c.toNat, by omega⟩).1
  · rw [codeN_hi (by omega) h1]; intro e
    have := readF_itoa (n := c) (by omega) (by omega)
    rw [e, show readF [] = (0, false) by decide] at this
    cases this
theorem codeN_len (c : Int) : (codeN c).length ≤ 20 := by
  unfold codeN
  split
  · simp
  · rename_i h
    split
    · exact Nat.le_trans (cdName_ok ⟨c.toNat, by omega⟩).2.1 (by omega)
    · exact itoa_len (by omega) (by omega)

/-- A fault's text, and a set's. -/
def scopeW (n : Int) : List UInt8 := if n = 1 then [115, 116, 114, 101, 97, 109] else [99, 111, 110, 110, 101, 99, 116, 105, 111, 110]
def textW (f : Fl) : List UInt8 := if flR f = true then scopeW f.scope ++ 58 :: codeN f.code else []
def showW (l : List Fl) : List UInt8 := if ofF l = [] then [45] else Lib.join ((ofF l).map textW) [44]
theorem textW_len (f : Fl) : (textW f).length ≤ 31 := by
  unfold textW scopeW
  have := codeN_len f.code
  split
  · split <;> simp <;> omega
  · simp
theorem textW_right {f : Fl} (h : flR f = true) : textW f = scopeW f.scope ++ 58 :: codeN f.code := by unfold textW; rw [if_pos h]
end Go.Proofs.YtfcgdfcekpbliaaGreatDoor
/-
  Faults: texts read as faults, and as sets: plain laws.
-/
namespace Go.Proofs.YtfcgdfcekpbliaaGreatDoor
set_option linter.unusedSimpArgs false
set_option linter.unusedVariables false
set_option linter.unusedSectionVars false
open Go.ChangeShapes Go.WideShapes Go.ChangeAt Go.RowKit Go.Deep

def hdF (c : UInt8) : List UInt8 → Option (List UInt8 × List UInt8)
  | [] => none
  | x :: r => if x = c then some ([], r) else (hdF c r).map fun p => (x :: p.1, p.2)
theorem hd_some {c : UInt8} : ∀ {s a b : List UInt8}, hdF c s = some (a, b) → s = a ++ c :: b ∧ c ∉ a
  | [], a, b, h => by cases h
  | x :: r, a, b, h => by
    unfold hdF at h
    split at h
    · rename_i hx
      injection h with h
      obtain ⟨rfl, rfl⟩ := Prod.mk.inj h
      exact ⟨by rw [hx]; rfl, by simp⟩
    · rename_i hx
      obtain ⟨⟨a', b'⟩, h1, h2⟩ := Option.map_eq_some_iff.1 h
      obtain ⟨rfl, rfl⟩ := Prod.mk.inj h2
      obtain ⟨rfl, h3⟩ := hd_some h1
      refine ⟨rfl, ?_⟩
      simp only [List.mem_cons, not_or]
      exact ⟨fun e => hx e.symm, h3⟩
theorem hd_app (c : UInt8) (b : List UInt8) : ∀ a : List UInt8, c ∉ a → hdF c (a ++ c :: b) = some (a, b)
  | [], _ => by simp [hdF]
  | x :: r, h => by
    simp only [List.mem_cons, not_or] at h
    rw [List.cons_append, hdF, if_neg (fun e => h.1 e.symm), hd_app c b r h.2]
    rfl
theorem hd_none {c : UInt8} : ∀ {s : List UInt8}, hdF c s = none → c ∉ s
  | [], _ => by simp
  | x :: r, h => by
    unfold hdF at h
    split at h
    · cases h
    · rename_i hx
      simp only [List.mem_cons, not_or]
      exact ⟨fun e => hx e.symm, hd_none (Option.map_eq_none_iff.1 h)⟩
/-- What the program reads, and what the document reads. -/
def readW (s : List UInt8) : Fl × Bool :=
  match hdF 58 s with
  | none => (⟨0, 0⟩, false)
  | some (a, b) => if (codeOf b).2 = true ∧ a = [115, 116, 114, 101, 97, 109] then (⟨1, (codeOf b).1⟩, true) else if (codeOf b).2 = true ∧ a = [99, 111, 110, 110, 101, 99, 116, 105, 111, 110] then (⟨2, (codeOf b).1⟩, true) else (⟨0, 0⟩, false)
def docFl (a b : List UInt8) : Fl := ⟨if a = [99, 111, 110, 110, 101, 99, 116, 105, 111, 110] then 2 else 1, (codeOf b).1⟩
def readD (s : List UInt8) : Fl × Bool :=
  match hdF 58 s with
  | none => (⟨0, 0⟩, false)
  | some (a, b) => if (codeOf b).2 = true ∧ textW (docFl a b) = s then (docFl a b, true) else (⟨0, 0⟩, false)
theorem scope_inj {a x y : List UInt8} (h : a ++ 58 :: y = x ++ 58 :: y) : a = x := List.append_cancel_right h
theorem flR_mk {n c : Int} (hn : n = 1 ∨ n = 2) (h0 : 0 ≤ c) (h1 : c ≤ 4294967295) : flR ⟨n, c⟩ = true := by
  unfold flR
  simp only [Bool.and_eq_true, Bool.or_eq_true, decide_eq_true_eq]
  exact ⟨hn, h0, by omega⟩
theorem flR_parts {f : Fl} (h : flR f = true) : (f.scope = 1 ∨ f.scope = 2) ∧ 0 ≤ f.code ∧ f.code ≤ 4294967295 := by
  unfold flR at h
  simp only [Bool.and_eq_true, Bool.or_eq_true, decide_eq_true_eq] at h
  exact ⟨h.1, h.2.1, by omega⟩
theorem readW_eq (s : List UInt8) : readW s = readD s := by
  unfold readW readD
  cases h : hdF 58 s with
  | none => rfl
  | some p =>
    obtain ⟨a, b⟩ := p
    obtain ⟨rfl, hna⟩ := hd_some h
    simp only
    cases hc : (codeOf b).2
    · simp
    · obtain ⟨c1, c2, c3⟩ := codeOf_yes hc
      simp only [true_and]
      by_cases h1 : a = [115, 116, 114, 101, 97, 109]
      · subst h1
        rw [if_pos rfl]
        have hd : docFl [115, 116, 114, 101, 97, 109] b = ⟨1, (codeOf b).1⟩ := by unfold docFl; rw [if_neg (by decide)]
        rw [hd, textW_right (flR_mk (.inl rfl) c2 c3), if_pos]
        show scopeW 1 ++ 58 :: codeN (codeOf b).1 = _
        rw [c1]; rfl
      · rw [if_neg h1]
        by_cases h2 : a = [99, 111, 110, 110, 101, 99, 116, 105, 111, 110]
        · subst h2
          rw [if_pos rfl]
          have hd : docFl [99, 111, 110, 110, 101, 99, 116, 105, 111, 110] b = ⟨2, (codeOf b).1⟩ := by unfold docFl; rw [if_pos rfl]
          rw [hd, textW_right (flR_mk (.inr rfl) c2 c3), if_pos]
          show scopeW 2 ++ 58 :: codeN (codeOf b).1 = _
          rw [c1]; rfl
        · rw [if_neg h2]
          have hd : docFl a b = ⟨1, (codeOf b).1⟩ := by unfold docFl; rw [if_neg h2]
          rw [hd, textW_right (flR_mk (.inl rfl) c2 c3), if_neg]
          show ¬ scopeW 1 ++ 58 :: codeN (codeOf b).1 = _
          rw [c1]
          exact fun e => h1 (scope_inj e).symm
theorem scope_colon (n : Int) : (58 : UInt8) ∉ scopeW n := by unfold scopeW; split <;> decide
theorem readW_text {f : Fl} (h : flR f = true) : readW (textW f) = (f, true) := by
  obtain ⟨h1, h2, h3⟩ := flR_parts h
  rw [textW_right h]
  unfold readW
  rw [hd_app _ _ _ (scope_colon _)]
  simp only
  rw [codeOf_name h2 h3]
  obtain ⟨n, c⟩ := f
  simp only at h1 ⊢
  rcases h1 with rfl | rfl
  · rw [if_pos ⟨trivial, rfl⟩]
  · rw [if_neg (by decide), if_pos ⟨trivial, rfl⟩]
theorem readW_yes {s : List UInt8} (h : (readW s).2 = true) : flR (readW s).1 = true ∧ textW (readW s).1 = s := by
  have he := readW_eq s
  rw [he] at h ⊢
  unfold readD at h ⊢
  cases hh : hdF 58 s with
  | none => rw [hh] at h; cases h
  | some p =>
    obtain ⟨a, b⟩ := p
    rw [hh] at h
    simp only at h ⊢
    by_cases hc : (codeOf b).2 = true ∧ textW (docFl a b) = s
    · rw [if_pos hc]
      obtain ⟨c1, c2, c3⟩ := codeOf_yes hc.1
      refine ⟨?_, hc.2⟩
      show flR (docFl a b) = true
      unfold docFl
      exact flR_mk (by split <;> simp) c2 c3
    · rw [if_neg hc] at h; cases h
theorem readW_no {s : List UInt8} (h : (readW s).2 = false) : readW s = (⟨0, 0⟩, false) := by
  have he := readW_eq s
  rw [he] at h ⊢
  unfold readD at h ⊢
  cases hh : hdF 58 s with
  | none => rfl
  | some p =>
    obtain ⟨a, b⟩ := p
    rw [hh] at h
    simp only at h ⊢
    by_cases hc : (codeOf b).2 = true ∧ textW (docFl a b) = s
    · rw [if_pos hc] at h; cases h
    · rw [if_neg hc]
theorem textW_inj {f g : Fl} (hf : flR f = true) (hg : flR g = true) (h : textW f = textW g) : f = g := by
  have h1 := readW_text hf
  rw [h, readW_text hg] at h1
  exact ((Prod.mk.inj h1).1).symm

/-! Sets. 'goW': the program's reading of a set's words, behind some that were read; 'allD': the document's. -/
def okBy (last : Option Fl) (f : Fl) : Bool := match last with
  | none => true
  | some x => ltFl x f
def goW : List (List UInt8) → Option Fl → Option (List Fl)
  | [], _ => some []
  | s :: r, last => if (readW s).2 = true ∧ okBy last (readW s).1 = true then (goW r (some (readW s).1)).map ((readW s).1 :: ·) else none
def allD : List (List UInt8) → Option (List Fl)
  | [] => some []
  | s :: r => if (readW s).2 = true then (allD r).map ((readW s).1 :: ·) else none
def setE : Option (List Fl) → List Fl × Bool
  | none => ([], false)
  | some l => (l, true)
def setW (s : List UInt8) : List Fl × Bool := if s = [45] then ([], true) else setE (goW (cutF 44 s) none)
def setD (s : List UInt8) : List Fl × Bool := if s = [45] then ([], true) else match allD (cutF 44 s) with
  | none => ([], false)
  | some l => if showW l = s then (l, true) else ([], false)
theorem allD_text : ∀ {p : List (List UInt8)} {l : List Fl}, allD p = some l → p = l.map textW ∧ ∀ f ∈ l, flR f = true
  | [], l, h => by simp only [allD] at h; injection h with h; subst h; simp
  | s :: r, l, h => by
    unfold allD at h
    split at h
    · rename_i hs
      obtain ⟨m, h1, rfl⟩ := Option.map_eq_some_iff.1 h
      obtain ⟨h2, h3⟩ := allD_text h1
      obtain ⟨h4, h5⟩ := readW_yes hs
      refine ⟨by rw [List.map_cons, h5, ← h2], fun f hf => ?_⟩
      rcases List.mem_cons.1 hf with rfl | hf
      · exact h4
      · exact h3 f hf
    · cases h
theorem goW_all : ∀ {p : List (List UInt8)} {last : Option Fl} {l : List Fl}, goW p last = some l ↔ allD p = some l ∧ (∀ x f, last = some x → l.head? = some f → ltFl x f = true) ∧ Strict ltFl l
  | [], last, l => by
    simp only [goW, allD]
    constructor
    · intro h; injection h with h; subst h; exact ⟨rfl, by simp, List.Pairwise.nil⟩
    · rintro ⟨h, _, _⟩; exact h
  | s :: r, last, l => by
    unfold goW allD
    cases hs : (readW s).2
    · simp
    · simp only [true_and, if_true]
      generalize (readW s).1 = f
      constructor
      · intro h
        split at h
        · rename_i hok
          obtain ⟨m, h1, rfl⟩ := Option.map_eq_some_iff.1 h
          obtain ⟨h2, h3, h4⟩ := goW_all.1 h1
          refine ⟨by rw [h2]; rfl, ?_, ?_⟩
          · intro x g hx hg
            simp only [List.head?_cons, Option.some.injEq] at hg
            subst hg hx
            exact hok
          · refine List.pairwise_cons.2 ⟨fun y hy => ?_, h4⟩
            cases m with
            | nil => cases hy
            | cons z t =>
              have hz := h3 f z rfl rfl
              rcases List.mem_cons.1 hy with rfl | hy
              · exact hz
              · exact ordFl.tr _ _ _ hz ((List.pairwise_cons.1 h4).1 y hy)
        · cases h
      · rintro ⟨h1, h2, h3⟩
        obtain ⟨m, h4, rfl⟩ := Option.map_eq_some_iff.1 h1
        have hok : okBy last f = true := by
          cases last with
          | none => rfl
          | some x => exact h2 x f rfl rfl
        rw [if_pos hok]
        have h5 : goW r (some f) = some m := goW_all.2 ⟨h4, fun x g hx hg => by
          injection hx with hx
          subst hx
          cases m with
          | nil => cases hg
          | cons z t =>
            simp only [List.head?_cons, Option.some.injEq] at hg
            subst hg
            exact (List.pairwise_cons.1 h3).1 _ (by simp), (List.pairwise_cons.1 h3).2⟩
        rw [h5]; rfl
theorem digits_comma (n : Int) : (44 : UInt8) ∉ Lib.itoa n := itoa_free n
theorem codeN_comma (c : Int) : (44 : UInt8) ∉ codeN c := by
  unfold codeN
  split
  · simp
  · split
    · rename_i h1 h2
      have : ∀ m : Fin 14, (44 : UInt8) ∉ cdName m.val := by decide
      exact this ⟨c.toNat, by omega⟩
    · exact digits_comma c
theorem textW_comma (f : Fl) : (44 : UInt8) ∉ textW f := by
  unfold textW
  split
  · simp only [List.mem_append, List.mem_cons, not_or]
    refine ⟨?_, by decide, codeN_comma _⟩
    unfold scopeW
    split <;> decide
  · simp
theorem cut_show (l : List Fl) (h : ofF l ≠ []) : cutF 44 (showW l) = (ofF l).map textW := by
  unfold showW
  rw [if_neg h]
  exact cut_join 44 _ (by simpa using h) (by simp only [List.mem_map]; rintro w ⟨f, _, rfl⟩; exact textW_comma f)
theorem map_text_inj : ∀ {l m : List Fl}, (∀ f ∈ l, flR f = true) → (∀ f ∈ m, flR f = true) → l.map textW = m.map textW → l = m
  | [], [], _, _, _ => rfl
  | [], g :: m, _, _, h => by simp at h
  | f :: l, [], _, _, h => by simp at h
  | f :: l, g :: m, hl, hm, h => by
    simp only [List.map_cons, List.cons.injEq] at h
    rw [textW_inj (hl f (by simp)) (hm g (by simp)) h.1, map_text_inj (fun x hx => hl x (by simp [hx])) (fun x hx => hm x (by simp [hx])) h.2]
theorem ofF_right (l : List Fl) : ∀ f ∈ ofF l, flR f = true := fun f hf => ((mem_ofF l f).1 hf).2
theorem setW_eq (s : List UInt8) : setW s = setD s := by
  unfold setW setD
  by_cases hd : s = [45]
  · rw [if_pos hd, if_pos hd]
  · rw [if_neg hd, if_neg hd]
    cases ha : allD (cutF 44 s) with
    | none =>
      have : goW (cutF 44 s) none = none := by
        cases hg : goW (cutF 44 s) none with
        | none => rfl
        | some l => rw [(goW_all.1 hg).1] at ha; cases ha
      rw [this]; rfl
    | some l =>
      obtain ⟨h1, h2⟩ := allD_text ha
      have hne : l ≠ [] := by
        obtain ⟨x, t, e⟩ := cut_ne 44 s
        intro hl
        rw [hl, e] at h1; simp at h1
      simp only
      by_cases hst : Strict ltFl l
      · have ho := ofF_of hst h2
        have hg : goW (cutF 44 s) none = some l := goW_all.2 ⟨ha, fun x f hx => (by cases hx), hst⟩
        rw [hg, if_pos]
        · rfl
        · unfold showW
          rw [ho, if_neg hne, ← h1, join_cut]
      · have hg : goW (cutF 44 s) none = none := by
          cases hg : goW (cutF 44 s) none with
          | none => rfl
          | some m =>
            obtain ⟨h3, _, h4⟩ := goW_all.1 hg
            rw [ha] at h3
            injection h3 with h3
            subst h3
            exact absurd h4 hst
        rw [hg, if_neg]
        · rfl
        · intro hs
          by_cases h0 : ofF l = []
          · unfold showW at hs
            rw [if_pos h0] at hs
            exact hd hs.symm
          · have h5 := cut_show l h0
            rw [hs, h1] at h5
            have h6 := map_text_inj h2 (ofF_right l) h5
            exact hst (by rw [h6]; exact strict_ofF l)
theorem setW_show (l : List Fl) : setW (showW l) = (ofF l, true) := by
  by_cases h0 : ofF l = []
  · unfold setW showW
    rw [if_pos h0, if_pos rfl, h0]
  · have hc := cut_show l h0
    have hne : showW l ≠ [45] := by
      intro e
      rw [e] at hc
      have h1 : cutF 44 [45] = [[45]] := by decide
      rw [h1] at hc
      cases hl : ofF l with
      | nil => exact h0 hl
      | cons f t =>
        rw [hl] at hc
        simp only [List.map_cons, List.cons.injEq] at hc
        have h2 := readW_text (ofF_right l f (by rw [hl]; simp))
        rw [← hc.1, show readW [45] = ((⟨0, 0⟩ : Fl), false) by decide] at h2
        cases h2
    unfold setW
    rw [if_neg hne, hc]
    have hr := ofF_right l
    have hst := strict_ofF l
    have ha : ∀ m : List Fl, (∀ f ∈ m, flR f = true) → allD (m.map textW) = some m := by
      intro m
      induction m with
      | nil => intro _; rfl
      | cons f t ih =>
        intro hm
        rw [List.map_cons, allD, readW_text (hm f (by simp)), if_pos rfl, ih (fun x hx => hm x (by simp [hx]))]
        rfl
    rw [goW_all.2 ⟨ha _ hr, fun x f hx => (by cases hx), hst⟩]
    rfl
end Go.Proofs.YtfcgdfcekpbliaaGreatDoor
/-
  A region that draws its order, in which one block is written and all else only grows.
-/
namespace Go.Proofs.YtfcgdfcekpbliaaGreatDoor
set_option linter.unusedSimpArgs false
set_option linter.unusedVariables false
set_option linter.unusedSectionVars false
open Go.ChangeShapes Go.WideShapes Go.ChangeAt Go.RowKit Go.Deep

section
variable {P : Program} {ops : Array Oper} {Q : Exit → Act → World → Prop} {md : Region.Mode} {mb : Nat}
def Gm (mb : Nat) (w w' : World) : Prop := w.grownBy w' (some mb)
theorem Gm.refl (w : World) : Gm mb w w := World.grownBy.refl w _
theorem Gm.cell {w w' : World} (h : Gm mb w w') (b o : Nat) (hb : b < w.heap.size) (hne : b ≠ mb) : w'.cell? ⟨b, o, none⟩ = w.cell? ⟨b, o, none⟩ :=
  World.cell?_of_block (h.block b hb (by simpa using hne))
theorem gm_mono {S S' : World → Prop} (hS : ∀ w, S' w → S w) : ∀ (fuel : Nat) (listed : Array Bool) (a : Act) (w : World), wpAnyH P md ops Q S' fuel listed a w → wpAnyH P md ops Q S fuel listed a w
  | 0, _, _, _, h => h
  | fuel + 1, listed, a, w, h => ⟨h.1, fun i hi => wpOp_mono (fun a' w' h' => ⟨hS _ h'.1, gm_mono hS fuel _ a' w' h'.2⟩) (h.2 i hi)⟩
theorem gm_start {id : Nat} {a : Act} {w : World} (mb : Nat) (hm : P.follows .mixedOrders = true)
    (h : wpAnyH P .any ops Q (Gm mb w.drew) ops.size (Array.replicate ops.size false) a w.drew) : (Code.region id ops true).wp P Q a w :=
  wp_region_held_drew hm (Gm.refl _) (fun _ => h)
theorem gm_take (i : Nat) {oi : Oper} {v : Value} {fuel : Nat} {listed : Array Bool} {a : Act} {w : World} (hi : ops[i]? = some oi)
    (hs : Region.noSelect ops = true) (hf : Region.free md ops listed i = true) (hr : (Region.ready md ops listed).contains i = true)
    (hQ : ∀ c a w, Q (.panic c) (a.put oi.dst v) w → Q (.panic c) a w) (hy : YieldsIf P ops (Gm mb w) oi v a)
    (h : wpAnyH P md ops Q (Gm mb w) fuel (listed.setIfInBounds i true) (a.put oi.dst v) w) : wpAnyH P md ops Q (Gm mb w) (fuel + 1) listed a w :=
  wpAnyH_take hi hs hf hr hQ hy (Gm.refl _) h
theorem gm_one {i : Nat} {o : Oper} {fuel : Nat} {listed : Array Bool} {a : Act} {w : World} (ho : ops[i]? = some o)
    (h : ∀ K' : Act → World → Prop, Shut (∀ a' w', Gm mb w w' → wpAnyH P md ops Q (Gm mb w') fuel (listed.setIfInBounds i true) a' w' → K' a' w') → if Region.wanted o (yielded ops a.tmps) = true then Oper.wp P o a w K' Q else K' (a.put o.dst undef) w)
    {rs : List Nat} (hrs : AllReadyH P md ops Q (Gm mb w) fuel listed a w rs) : AllReadyH P md ops Q (Gm mb w) fuel listed a w (i :: rs) :=
  AllReadyH.cons ho (fun K' hK => h K' (fun a' w' hg hw => hK.out a' w' hg (fun _ => gm_mono (fun w2 h2 => hg.trans h2) _ _ _ _ hw))) hrs
theorem gm_step (i : Nat) {o : Oper} {fuel : Nat} {listed : Array Bool} {a : Act} {w : World} (hr : Region.ready md ops listed = [i]) (ho : ops[i]? = some o)
    (h : ∀ K' : Act → World → Prop, Shut (∀ a' w', Gm mb w w' → wpAnyH P md ops Q (Gm mb w') fuel (listed.setIfInBounds i true) a' w' → K' a' w') → if Region.wanted o (yielded ops a.tmps) = true then Oper.wp P o a w K' Q else K' (a.put o.dst undef) w) :
    wpAnyH P md ops Q (Gm mb w) (fuel + 1) listed a w :=
  wpAnyH_ready hr (by simp) (gm_one ho h AllReadyH.nil)
theorem gm_two (i j : Nat) {o p : Oper} {fuel : Nat} {listed : Array Bool} {a : Act} {w : World} (hr : Region.ready md ops listed = [i, j]) (ho : ops[i]? = some o) (hp : ops[j]? = some p)
    (h : ∀ K' : Act → World → Prop, Shut (∀ a' w', Gm mb w w' → wpAnyH P md ops Q (Gm mb w') fuel (listed.setIfInBounds i true) a' w' → K' a' w') → if Region.wanted o (yielded ops a.tmps) = true then Oper.wp P o a w K' Q else K' (a.put o.dst undef) w)
    (h2 : ∀ K' : Act → World → Prop, Shut (∀ a' w', Gm mb w w' → wpAnyH P md ops Q (Gm mb w') fuel (listed.setIfInBounds j true) a' w' → K' a' w') → if Region.wanted p (yielded ops a.tmps) = true then Oper.wp P p a w K' Q else K' (a.put p.dst undef) w) :
    wpAnyH P md ops Q (Gm mb w) (fuel + 1) listed a w :=
  wpAnyH_ready hr (by simp) (gm_one ho h (gm_one hp h2 AllReadyH.nil))
end
/-! A region in which nothing floats but what asks no world. -/
section
variable {P : Program} {ops : Array Oper} {Q : Exit → Act → World → Prop} {md : Region.Mode}
theorem gt_start {id : Nat} {a : Act} {w : World} (hm : P.follows .mixedOrders = true)
    (h : wpAnyH P .any ops Q (fun _ => True) ops.size (Array.replicate ops.size false) a w.drew) : (Code.region id ops true).wp P Q a w :=
  wp_region_held_drew hm trivial (fun _ => h)
theorem gt_take (i : Nat) {oi : Oper} {v : Value} {fuel : Nat} {listed : Array Bool} {a : Act} {w : World} (hi : ops[i]? = some oi)
    (hs : Region.noSelect ops = true) (hf : Region.free md ops listed i = true) (hr : (Region.ready md ops listed).contains i = true)
    (hQ : ∀ c a w, Q (.panic c) (a.put oi.dst v) w → Q (.panic c) a w) (hy : YieldsIf P ops (fun _ => True) oi v a)
    (h : wpAnyH P md ops Q (fun _ => True) fuel (listed.setIfInBounds i true) (a.put oi.dst v) w) : wpAnyH P md ops Q (fun _ => True) (fuel + 1) listed a w :=
  wpAnyH_take hi hs hf hr hQ hy trivial h
theorem gt_step (i : Nat) {o : Oper} {fuel : Nat} {listed : Array Bool} {a : Act} {w : World} (hr : Region.ready md ops listed = [i]) (ho : ops[i]? = some o)
    (h : ∀ K' : Act → World → Prop, Shut (∀ a' w', wpAnyH P md ops Q (fun _ => True) fuel (listed.setIfInBounds i true) a' w' → K' a' w') → if Region.wanted o (yielded ops a.tmps) = true then Oper.wp P o a w K' Q else K' (a.put o.dst undef) w) :
    wpAnyH P md ops Q (fun _ => True) (fuel + 1) listed a w :=
  wpAnyH_ready hr (by simp) (AllReadyH.cons ho (fun K' hK => h K' (fun a' w' hw => hK.out a' w' trivial (fun _ => hw))) AllReadyH.nil)
end
/-! Steps whose run is known. -/
section
variable {P : Program} {ops : Array Oper} {o : Oper} {a : Act} {K : Act → World → Prop} {Q : Exit → Act → World → Prop} {E : Prop} {w w' : World}
theorem step_look {t : TypeId} {m x : Operand} {vm vx v : Value} (hw : Region.wanted o (yielded ops a.tmps) = true) (ho : o.op = .lookup t m x false) (hm : a.eval m = vm) (hx : a.eval x = vx)
    (hrun : (Instr.lookup t vm vx false).run P w = .ok v w') (h : K (a.put o.dst v) w') : if Region.wanted o (yielded ops a.tmps) = true then Oper.wp P o a w K Q else E := by
  rw [if_pos hw]
  unfold Oper.wp
  simp [execOp, ho, hm, hx, hrun, Result.andThen]
  exact h
theorem step_entry {t : TypeId} {m x : Operand} {vm vx v : Value} (hw : Region.wanted o (yielded ops a.tmps) = true) (ho : o.op = .mapEntry t m x) (hm : a.eval m = vm) (hx : a.eval x = vx)
    (hrun : (Instr.mapEntry t vm vx).run P w = .ok v w') (h : K (a.put o.dst v) w') : if Region.wanted o (yielded ops a.tmps) = true then Oper.wp P o a w K Q else E := by
  rw [if_pos hw]
  unfold Oper.wp
  simp [execOp, ho, hm, hx, hrun, Result.andThen]
  exact h
theorem step_estore {t : TypeId} {m s x : Operand} {vm vs vx : Value} (hw : Region.wanted o (yielded ops a.tmps) = true) (ho : o.op = .entryStore t m s x) (hm : a.eval m = vm) (hs : a.eval s = vs) (hx : a.eval x = vx)
    (hrun : (Instr.entryStore t vm vs vx).run P w = .ok () w') (h : K (a.put o.dst undef) w') : if Region.wanted o (yielded ops a.tmps) = true then Oper.wp P o a w K Q else E := by
  rw [if_pos hw]
  unfold Oper.wp
  simp [execOp, ho, hm, hs, hx, hrun, Result.andThen]
  exact h
theorem step_delete {t k : TypeId} {m x : Operand} {vm vx : Value} (hw : Region.wanted o (yielded ops a.tmps) = true) (ho : o.op = .call { callee := .builtin .delete, args := #[m, x], argTypes := #[t, k] }) (hm : a.eval m = vm) (hx : a.eval x = vx)
    (hrun : (Builtin.delete_ #[t, k] o.type #[vm, vx]).run P w = .ok (.tuple #[]) w') (h : K (a.put o.dst (.tuple #[])) w') : if Region.wanted o (yielded ops a.tmps) = true then Oper.wp P o a w K Q else E := by
  rw [if_pos hw]
  unfold Oper.wp
  simp [execOp, ho, resolve, invoke, builtin, hm, hx, hrun, Result.andThen]
  exact h
end
end Go.Proofs.YtfcgdfcekpbliaaGreatDoor
/-
  Rows of texts that the call itself has built.
-/
namespace Go.Proofs.YtfcgdfcekpbliaaGreatDoor
set_option linter.unusedSimpArgs false
set_option linter.unusedVariables false
set_option linter.unusedSectionVars false
open Go.ChangeShapes Go.WideShapes Go.ChangeAt Go.RowKit Go.Deep Go.Shelf

theorem st_texts : SliceTy Tryz.prog 53 9 (.string .empty) 1 16 := .mk' Tryz.underlying53 (by kernel_rfl) rfl (by omega)
def OwnX (B : Nat) (w : World) (v : Value) (l : List (List UInt8)) : Prop := w.ownsRow B 9 1 v l.length (l.map bstr)
theorem OwnX.nil (B : Nat) (w : World) : OwnX B w (.slice none 0 0) [] := World.ownsRow_nil _ _ _ _
theorem OwnX.alloc {B : Nat} {w : World} {v : Value} {l : List (List UInt8)} (h : OwnX B w v l) (o : Obj) : OwnX B (w.alloc o) v l := World.ownsRow.alloc h o
theorem OwnX.below {B C : Nat} {w w' : World} {v : Value} {l : List (List UInt8)} (h : OwnX B w v l) (hb : Below C w w') (hC : w.heap.size ≤ C) : OwnX B w' v l := own_below h hb hC
theorem OwnX.read {B : Nat} {w : World} {v : Value} {l : List (List UInt8)} (h : OwnX B w v l) (hl : ∀ x ∈ l, x.length ≤ maxLen) : ∃ a cap, v = .slice a l.length cap ∧ SlX w w.heap.size a l := by
  have e : l.map bstr = l.flatMap (fun s => [bstr s]) := by clear h hl; induction l <;> simp_all
  unfold OwnX at h
  rw [e] at h
  obtain ⟨a, cap, hv, hs⟩ := own_slr h (fun _ _ => rfl)
  exact ⟨a, cap, hv, hs.mono (Nat.le_refl _) (fun x hx cs hc => ⟨hc, hl x hx⟩)⟩
theorem OwnX.cap {B : Nat} {w : World} {v : Value} {l : List (List UInt8)} (h : OwnX B w v l) : ∃ a cap, v = .slice a l.length cap ∧ l.length ≤ cap := by
  have h0 : w.ownsRow B 9 1 v l.length (l.map bstr) := h
  rcases h0.2 with ⟨rfl, hn⟩ | ⟨g, cap, cur, rfl, hg, hh, h3, h4, h5, h6⟩
  · have : l = [] := List.eq_nil_of_length_eq_zero hn
    subst this
    exact ⟨none, 0, rfl, Nat.le_refl _⟩
  · exact ⟨_, cap, rfl, h3⟩
theorem app_text {ops : Array Oper} {rest : List Oper} {o : Oper} {a : Act} {Q : Exit → Act → World → Prop} {w : World}
    (s x : Operand) (hgd : o.guard = none) (ho : o.op = .call { callee := .builtin .append, args := #[s, x], argTypes := #[53, 53] })
    {B : Nat} {v : Value} {l : List (List UInt8)} {c : List UInt8} (hs : a.eval s = v) (hown : OwnX B w v l)
    {g cc : Nat} {e' : TypeId} (hx : a.eval x = .slice (some ⟨g, 0, none⟩) 1 cc) (hb : Blk w g e' #[bstr c])
    (hl : l.length + 1 ≤ 1048576) (hB : B ≤ w.heap.size)
    (h : ∀ v' w', OwnX B w' v' (l ++ [c]) → Below B w w' → wpList Tryz.prog ops Q rest (a.put o.dst v') w') : wpList Tryz.prog ops Q (o :: rest) a w := by
  refine wpList_app st_texts s x hgd ho hs hown hx hb rfl (by intro u hu; simp at hu; subst hu; rfl) (by unfold maxLen; omega) (by omega) hB (fun v' w' h1 h2 => h v' w' ?_ (own_grown (Below.refl B w) hown h2 (Nat.le_refl _) hB))
  unfold OwnX
  rw [List.map_append, List.length_append]
  exact h1
theorem pre_pre (p q : List UInt8) (l : List (List UInt8)) : preF p (preF q l) = preF (p ++ q) l := by cases l <;> simp [preF]
end Go.Proofs.YtfcgdfcekpbliaaGreatDoor
/-
  What strings.Split hands back, piece by piece.
-/
namespace Go.Proofs.YtfcgdfcekpbliaaGreatDoor
set_option linter.unusedSimpArgs false
set_option linter.unusedVariables false
set_option linter.unusedSectionVars false
open Go.ChangeShapes Go.WideShapes Go.ChangeAt Go.RowKit Go.Deep Go.Shelf

theorem strings_cut (l : List UInt8) (c : UInt8) (m : Int) (w : World) (hm : l.length ≤ 1048576) (hM : w.cell? MaxA = some (.int .i64 m)) :
    Calls Tryz.prog 47 #[bstr l, bstr [c]] w fun e w' => e = .returned (.slice (some ⟨w.heap.size, 0, none⟩) (cutF c l).length (cutF c l).length) ∧ SlX w' w'.heap.size (some ⟨w.heap.size, 0, none⟩) (cutF c l) ∧ Below w.heap.size w w' := by
  have h := strings_split l c m w hm hM
  have h2 := split_slX l c w hm
  rw [split_cut] at h h2
  refine h.mono fun e w' ⟨he, hw⟩ => ⟨he, ?_, ?_⟩
  · rw [hw, World.size_alloc]; exact h2
  · rw [hw]; exact (Below.refl _ _).alloc (Nat.le_refl _) _
end Go.Proofs.YtfcgdfcekpbliaaGreatDoor
/-
  A builder's next byte: the contracts of (*strings.Builder).copyCheck and WriteByte at this program (the shelf lays them not: copyCheck's stop is a refused place here).
-/
namespace Go.Proofs.YtfcgdfcekpbliaaGreatDoor
set_option linter.unusedSimpArgs false
set_option linter.unusedVariables false
set_option linter.unusedSectionVars false
open Go.ChangeShapes Go.WideShapes Go.ChangeAt Go.RowKit Go.Deep Go.Shelf

abbrev BT : TypeId := 59
abbrev BytT : TypeId := 5

set_option maxRecDepth 100000 in
theorem copyCheck_used (b : Nat) (w : World) (h0 : w.cell? ⟨b, 0, none⟩ = some (.pointer (some ⟨b, 0, none⟩))) :
    Calls Tryz.prog 49 #[.pointer (some ⟨b, 0, none⟩)] w fun e w' => e = .returned (.tuple #[]) ∧ w' = w := by
  obtain ⟨j, hj, _⟩ := Option.map_eq_some_iff.1 Tryz.Builder_Extra_169.sizeBuilder
  go_enter Tryz.func49, Tryz.ntmps49
  go_wp2
  rw [Lib.run_neq_ptr_same w _ Tryz.underlying56 hj]
  go_wp2
  go_end0
  exact ⟨rfl, rfl⟩

set_option maxRecDepth 100000 in
theorem copyCheck_fresh (b : Nat) (w : World) (h0 : w.cell? ⟨b, 0, none⟩ = some (.pointer none)) (hsh : w.shape? b = some (BT, 2)) (hfz : w.frozen? ⟨b, 0, none⟩ = false) :
    Calls Tryz.prog 49 #[.pointer (some ⟨b, 0, none⟩)] w fun e w' => e = .returned (.tuple #[]) ∧ w' = w.setCell ⟨b, 0, none⟩ (.pointer (some ⟨b, 0, none⟩)) := by
  obtain ⟨j, hj, hjs⟩ := Option.map_eq_some_iff.1 Tryz.Builder_Extra_169.sizeBuilder
  go_enter Tryz.func49, Tryz.ntmps49
  go_wp2
  rw [Lib.run_to_unsafe w ⟨b, 0, none⟩ Tryz.underlying56 Tryz.underlying115 hj (by rw [hjs]; decide) hsh (Nat.zero_lt_succ 1)]
  simp only [Result.andThen]
  rw [Oper.upon_value]
  go_wp2
  rw [run_callFunc_extern Tryz.func74 (by kernel_rfl) (by kernel_rfl) (by kernel_rfl) (e := Extern.AbiNoEscape.same) (by kernel_rfl)]
  rw [Lib.run_noEscape]
  simp only [Result.andThen]
  rw [Oper.upon_value]
  go_wp2
  rw [Lib.run_from_unsafe w ⟨b, 0, none⟩ Tryz.underlying115 Tryz.underlying56 hj hsh Tryz.Builder_Extra_169.liesBuilder]
  simp only [Result.andThen]
  rw [Oper.upon_value]
  go_wp2
  go_end0
  exact ⟨rfl, rfl⟩

theorem copyCheck (B b : Nat) (bs : List Value) (w : World) (h : Lib.IsBuilder BT BytT B b bs w) :
    Calls Tryz.prog 49 #[.pointer (some ⟨b, 0, none⟩)] w fun e w' => e = .returned (.tuple #[]) ∧ (Lib.BuilderAt BT BytT B b (.pointer (some ⟨b, 0, none⟩)) bs w' ∧ Below B w w') := by
  rcases h with h | h
  · refine (copyCheck_fresh b w h.cell0 h.shape h.frozen0).mono ?_
    rintro e w' ⟨rfl, rfl⟩
    exact ⟨rfl, h.used _, (Below.refl B w).setCell (p := ⟨b, 0, none⟩) h.1 _⟩
  · refine (copyCheck_used b w h.cell0).mono ?_
    rintro e w' ⟨rfl, rfl⟩
    exact ⟨rfl, h, Below.refl B _⟩

set_option maxHeartbeats 2000000 in
set_option maxRecDepth 100000 in
theorem writeByte (B b : Nat) (bs : List Value) (c : Int) (w : World) (h : Lib.IsBuilder BT BytT B b bs w) (hlen : bs.length + 1 ≤ 140737488355328) (hBw : B ≤ w.heap.size) :
    Calls Tryz.prog 23 #[.pointer (some ⟨b, 0, none⟩), .int .u8 c] w fun e w' => e = .returned .nilIface ∧ (Lib.BuilderAt BT BytT B b (.pointer (some ⟨b, 0, none⟩)) (bs ++ [.int .u8 c]) w' ∧ Below B w w') := by
  obtain ⟨i0, hi, hz0, hz1, hz2⟩ := info_parts Tryz.Builder_Extra_169.infoByte
  go_enter Tryz.func23, Tryz.ntmps23
  go_wp2_with (go_at_call 49; refine (copyCheck B b bs _ h).mono ?_)
  rintro e w1 ⟨rfl, h1, hb1⟩
  obtain ⟨hB, v, hbk, hown, hne⟩ := h1
  have c0 : w1.cell? ⟨b, 0, none⟩ = some (.pointer (some ⟨b, 0, none⟩)) := by rw [Lib.cell_of_heap hbk]; rfl
  have c1 : w1.cell? ⟨b, 1, none⟩ = some v := by rw [Lib.cell_of_heap hbk]; rfl
  go_wp2_with (at_builtin; refine wpList_append_own _ rfl _ _ 57 rfl B 5 i0 (.int .u8 0) 1 1 Tryz.underlying57 hi hz0 hz1 hz2 rfl (by decide) _ _ _ rfl (hown.alloc _) ⟨w1.heap.size, 0, none⟩ 1 1 [.int .u8 c] rfl rfl ?c1 ?c2 ?c3 ?c4 ?c5 ?_)
  case c1 =>
    intro j u hj
    match j, hj with
    | 0, hj => simp at hj; subst hj; simp [Addr.add]
  case c2 => intro u hu; simp at hu; subst hu; rfl
  case c3 => unfold maxLen; omega
  case c4 => omega
  case c5 => have := hb1.size; simp; omega
  intro v' w2 hown' hgrow _
  have hlt : b < w1.heap.size := by
    rcases Nat.lt_or_ge b w1.heap.size with h' | h'
    · exact h'
    · simp [Array.getElem?_eq_none h'] at hbk
  have hb2 : w2.heap[b]? = some (.cells #[.pointer (some ⟨b, 0, none⟩), v] BT (0, 0)) := by
    rw [hgrow.block b (by simp; omega) (fun e => hne e.symm), Lib.alloc_old w1 _ b hlt]
    exact hbk
  have d0 : w2.cell? ⟨b, 0, none⟩ = some (.pointer (some ⟨b, 0, none⟩)) := by rw [Lib.cell_of_heap hb2]; rfl
  have d1 : w2.cell? ⟨b, 1, none⟩ = some v := by rw [Lib.cell_of_heap hb2]; rfl
  have f1 : w2.frozen? ⟨b, 1, none⟩ = false := Lib.frozen_of_heap hb2 1
  obtain ⟨g, cap, rfl⟩ : ∃ g cap, v' = .slice (some ⟨g, 0, none⟩) (bs.length + 1) cap := by
    rcases hown'.2 with ⟨_, h0⟩ | ⟨g, cap, cur, hv, _⟩
    · omega
    · exact ⟨g, cap, hv⟩
  go_wp2
  go_ret
  refine ⟨rfl, ?_, ?_⟩
  · exact Lib.BuilderAt.put (T := BT) (e := BytT) hB hb2 (bs' := bs ++ [.int .u8 c]) (by simpa using hown') Tryz.Builder_Extra_169.neB5
  · exact ((hb1.alloc (by have := hb1.size; omega) _).grown hgrow (by have := hb1.size; simp; omega) (fun k hk => (hown.lt k hk).1)).setCell (p := ⟨b, 1, none⟩) hB _

theorem writeB (B b : Nat) (l : List UInt8) (c : UInt8) (w : World) (h : Lib.IsBuilder BT BytT B b (Lib.byteCells l) w) (hlen : l.length + 1 ≤ 140737488355328) (hBw : B ≤ w.heap.size) :
    Calls Tryz.prog 23 #[.pointer (some ⟨b, 0, none⟩), .int .u8 (c.toNat : Int)] w fun e w' => e = .returned .nilIface ∧ (Lib.IsBuilder BT BytT B b (Lib.byteCells (l ++ [c])) w' ∧ Below B w w') :=
  (writeByte B b (Lib.byteCells l) c.toNat w h (by rw [byteCells_len]; exact hlen) hBw).mono fun e w' ⟨he, h1, h2⟩ => ⟨he, Or.inr (by rw [byteCells_snoc]; exact h1), h2⟩
end Go.Proofs.YtfcgdfcekpbliaaGreatDoor
/-
  A region that draws its order, in which some blocks are written and all else only grows.
-/
namespace Go.Proofs.YtfcgdfcekpbliaaGreatDoor
set_option linter.unusedSimpArgs false
set_option linter.unusedVariables false
set_option linter.unusedSectionVars false
open Go.ChangeShapes Go.WideShapes Go.ChangeAt Go.RowKit Go.Deep

/-- All blocks but those of p stay as they were. -/
structure Gp (p : Nat → Prop) (w w' : World) : Prop where
  os : w'.os = w.os
  tape : w'.tape = w.tape
  output : w'.output = w.output
  size : w.heap.size ≤ w'.heap.size
  block : ∀ k, k < w.heap.size → ¬ p k → w'.heap[k]? = w.heap[k]?
theorem Gp.refl {p : Nat → Prop} (w : World) : Gp p w w := ⟨rfl, rfl, rfl, Nat.le_refl _, fun _ _ _ => rfl⟩
theorem Gp.trans {p : Nat → Prop} {a b c : World} (h : Gp p a b) (h2 : Gp p b c) : Gp p a c :=
  ⟨h2.os.trans h.os, h2.tape.trans h.tape, h2.output.trans h.output, Nat.le_trans h.size h2.size, fun k hk hp => (h2.block k (Nat.lt_of_lt_of_le hk h.size) hp).trans (h.block k hk hp)⟩
theorem Gp.cell {p : Nat → Prop} {w w' : World} (h : Gp p w w') (b o : Nat) (hb : b < w.heap.size) (hne : ¬ p b) : w'.cell? ⟨b, o, none⟩ = w.cell? ⟨b, o, none⟩ :=
  World.cell?_of_block (h.block b hb hne)
theorem Gp.of_gm {p : Nat → Prop} {w w' : World} {g : Nat} (h : Gm g w w') (hp : p g) : Gp p w w' :=
  ⟨h.os, h.tape, h.output, h.size, fun k hk hn => h.block k hk (fun e => hn (by injection e with e; rw [e]; exact hp))⟩
theorem Gp.of_below {p : Nat → Prop} {w w' : World} (h : Below w.heap.size w w') : Gp p w w' := ⟨h.os, h.tape, h.output, h.size, fun k hk _ => h.block k hk⟩
theorem Gp.below {p : Nat → Prop} {w w' : World} {B : Nat} (h : Gp p w w') (hB : ∀ k, p k → B ≤ k) (hz : B ≤ w.heap.size) : Below B w w' := ⟨h.os, h.tape, h.output, h.size, fun k hk => h.block k (by omega) (fun hp => by have := hB k hp; omega)⟩
theorem Gp.blk {p : Nat → Prop} {w w' : World} {g : Nat} {t : TypeId} {cs : Array Value} (h : Gp p w w') (hb : Blk w g t cs) (hn : ¬ p g) : Blk w' g t cs := (h.block g hb.lt hn).trans hb
theorem Gp.set {p : Nat → Prop} {w : World} {g o : Nat} (v : Value) (hp : p g) : Gp p w (w.setCell ⟨g, o, none⟩ v) :=
  have hb := (Below.refl 0 w).setCell (p := ⟨g, o, none⟩) (Nat.zero_le _) v
  ⟨hb.os, hb.tape, hb.output, hb.size, fun k _ hne => Below.heap_setCell w ⟨g, o, none⟩ v k (fun e => hne (by rw [show k = g from e]; exact hp))⟩

/-- One of two blocks. -/
def P2 (g h : Nat) (k : Nat) : Prop := k = g ∨ k = h
theorem Gp.cell2 {g h : Nat} {w w' : World} (hp : Gp (P2 g h) w w') (b o : Nat) (hb : b < w.heap.size) (h1 : b ≠ g) (h2 : b ≠ h) : w'.cell? ⟨b, o, none⟩ = w.cell? ⟨b, o, none⟩ :=
  hp.cell b o hb (fun e => e.elim h1 h2)

section
variable {P : Program} {ops : Array Oper} {Q : Exit → Act → World → Prop} {md : Region.Mode} {p : Nat → Prop}
theorem gp_mono {S S' : World → Prop} (hS : ∀ w, S' w → S w) : ∀ (fuel : Nat) (listed : Array Bool) (a : Act) (w : World), wpAnyH P md ops Q S' fuel listed a w → wpAnyH P md ops Q S fuel listed a w
  | 0, _, _, _, h => h
  | fuel + 1, listed, a, w, h => ⟨h.1, fun i hi => wpOp_mono (fun a' w' h' => ⟨hS _ h'.1, gp_mono hS fuel _ a' w' h'.2⟩) (h.2 i hi)⟩
theorem gp_start {id : Nat} {a : Act} {w : World} (p : Nat → Prop) (hm : P.follows .mixedOrders = true)
    (h : wpAnyH P .any ops Q (Gp p w.drew) ops.size (Array.replicate ops.size false) a w.drew) : (Code.region id ops true).wp P Q a w :=
  wp_region_held_drew hm (Gp.refl _) (fun _ => h)
theorem gp_take (i : Nat) {oi : Oper} {v : Value} {fuel : Nat} {listed : Array Bool} {a : Act} {w : World} (hi : ops[i]? = some oi)
    (hs : Region.noSelect ops = true) (hf : Region.free md ops listed i = true) (hr : (Region.ready md ops listed).contains i = true)
    (hQ : ∀ c a w, Q (.panic c) (a.put oi.dst v) w → Q (.panic c) a w) (hy : YieldsIf P ops (Gp p w) oi v a)
    (h : wpAnyH P md ops Q (Gp p w) fuel (listed.setIfInBounds i true) (a.put oi.dst v) w) : wpAnyH P md ops Q (Gp p w) (fuel + 1) listed a w :=
  wpAnyH_take hi hs hf hr hQ hy (Gp.refl _) h
theorem gp_one {i : Nat} {o : Oper} {fuel : Nat} {listed : Array Bool} {a : Act} {w : World} (ho : ops[i]? = some o)
    (h : ∀ K' : Act → World → Prop, Shut (∀ a' w', Gp p w w' → wpAnyH P md ops Q (Gp p w') fuel (listed.setIfInBounds i true) a' w' → K' a' w') → if Region.wanted o (yielded ops a.tmps) = true then Oper.wp P o a w K' Q else K' (a.put o.dst undef) w)
    {rs : List Nat} (hrs : AllReadyH P md ops Q (Gp p w) fuel listed a w rs) : AllReadyH P md ops Q (Gp p w) fuel listed a w (i :: rs) :=
  AllReadyH.cons ho (fun K' hK => h K' (fun a' w' hg hw => hK.out a' w' hg (fun _ => gp_mono (fun w2 h2 => hg.trans h2) _ _ _ _ hw))) hrs
theorem gp_step (i : Nat) {o : Oper} {fuel : Nat} {listed : Array Bool} {a : Act} {w : World} (hr : Region.ready md ops listed = [i]) (ho : ops[i]? = some o)
    (h : ∀ K' : Act → World → Prop, Shut (∀ a' w', Gp p w w' → wpAnyH P md ops Q (Gp p w') fuel (listed.setIfInBounds i true) a' w' → K' a' w') → if Region.wanted o (yielded ops a.tmps) = true then Oper.wp P o a w K' Q else K' (a.put o.dst undef) w) :
    wpAnyH P md ops Q (Gp p w) (fuel + 1) listed a w :=
  wpAnyH_ready hr (by simp) (gp_one ho h AllReadyH.nil)
theorem gp_undrew {w w' : World} (h : Gp p w w') : Gp p w.drew w' := ⟨h.os, h.tape, h.output, h.size, h.block⟩
end
end Go.Proofs.YtfcgdfcekpbliaaGreatDoor
