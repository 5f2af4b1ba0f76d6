/-
  Faults: texts read as faults, and as sets: plain laws.
-/
import Derived.Test.YtamklaehaadiaaaGreatDoorFltC
import Derived.Test.YtamklaehaadiaaaGreatDoorLine1
namespace Go.Proofs.YtamklaehaadiaaaGreatDoor
set_option linter.unusedSimpArgs false
set_option linter.unusedVariables false
set_option linter.unusedSectionVars false
open Go.ChangeShapes Go.WideShapes Go.ChangeAt Go.RowKit Go.Deep

def hdF (c : UInt8) : List UInt8 → Option (List UInt8 × List UInt8)
  | [] => none
  | x :: r => if x = c then some ([], r) else (hdF c r).map fun p => (x :: p.1, p.2)
theorem hd_some {c : UInt8} : ∀ {s a b : List UInt8}, hdF c s = some (a, b) → s = a ++ c :: b ∧ c ∉ a
  | [], a, b, h => by cases h
  | x :: r, a, b, h => by
    unfold hdF at h
    split at h
    · rename_i hx
      injection h with h
      obtain ⟨rfl, rfl⟩ := Prod.mk.inj h
      exact ⟨by rw [hx]; rfl, by simp⟩
    · rename_i hx
      obtain ⟨⟨a', b'⟩, h1, h2⟩ := Option.map_eq_some_iff.1 h
      obtain ⟨rfl, rfl⟩ := Prod.mk.inj h2
      obtain ⟨rfl, h3⟩ := hd_some h1
      refine ⟨rfl, ?_⟩
      simp only [List.mem_cons, not_or]
      exact ⟨fun e => hx e.symm, h3⟩
theorem hd_app (c : UInt8) (b : List UInt8) : ∀ a : List UInt8, c ∉ a → hdF c (a ++ c :: b) = some (a, b)
  | [], _ => by simp [hdF]
  | x :: r, h => by
    simp only [List.mem_cons, not_or] at h
    rw [List.cons_append, hdF, if_neg (fun e => h.1 e.symm), hd_app c b r h.2]
    rfl
theorem hd_none {c : UInt8} : ∀ {s : List UInt8}, hdF c s = none → c ∉ s
  | [], _ => by simp
  | x :: r, h => by
    unfold hdF at h
    split at h
    · cases h
    · rename_i hx
      simp only [List.mem_cons, not_or]
      exact ⟨fun e => hx e.symm, hd_none (Option.map_eq_none_iff.1 h)⟩
/-- What the program reads, and what the document reads. -/
def readW (s : List UInt8) : Fl × Bool :=
  match hdF 58 s with
  | none => (⟨0, 0⟩, false)
  | some (a, b) => if (codeOf b).2 = true ∧ a = [115, 116, 114, 101, 97, 109] then (⟨1, (codeOf b).1⟩, true) else if (codeOf b).2 = true ∧ a = [99, 111, 110, 110, 101, 99, 116, 105, 111, 110] then (⟨2, (codeOf b).1⟩, true) else (⟨0, 0⟩, false)
def docFl (a b : List UInt8) : Fl := ⟨if a = [99, 111, 110, 110, 101, 99, 116, 105, 111, 110] then 2 else 1, (codeOf b).1⟩
def readD (s : List UInt8) : Fl × Bool :=
  match hdF 58 s with
  | none => (⟨0, 0⟩, false)
  | some (a, b) => if (codeOf b).2 = true ∧ textW (docFl a b) = s then (docFl a b, true) else (⟨0, 0⟩, false)
theorem scope_inj {a x y : List UInt8} (h : a ++ 58 :: y = x ++ 58 :: y) : a = x := List.append_cancel_right h
theorem flR_mk {n c : Int} (hn : n = 1 ∨ n = 2) (h0 : 0 ≤ c) (h1 : c ≤ 4294967295) : flR ⟨n, c⟩ = true := by
  unfold flR
  simp only [Bool.and_eq_true, Bool.or_eq_true, decide_eq_true_eq]
  exact ⟨hn, h0, by omega⟩
theorem flR_parts {f : Fl} (h : flR f = true) : (f.scope = 1 ∨ f.scope = 2) ∧ 0 ≤ f.code ∧ f.code ≤ 4294967295 := by
  unfold flR at h
  simp only [Bool.and_eq_true, Bool.or_eq_true, decide_eq_true_eq] at h
  exact ⟨h.1, h.2.1, by omega⟩
theorem readW_eq (s : List UInt8) : readW s = readD s := by
  unfold readW readD
  cases h : hdF 58 s with
  | none => rfl
  | some p =>
    obtain ⟨a, b⟩ := p
    obtain ⟨rfl, hna⟩ := hd_some h
    simp only
    cases hc : (codeOf b).2
    · simp
    · obtain ⟨c1, c2, c3⟩ := codeOf_yes hc
      simp only [true_and]
      by_cases h1 : a = [115, 116, 114, 101, 97, 109]
      · subst h1
        rw [if_pos rfl]
        have hd : docFl [115, 116, 114, 101, 97, 109] b = ⟨1, (codeOf b).1⟩ := by unfold docFl; rw [if_neg (by decide)]
        rw [hd, textW_right (flR_mk (.inl rfl) c2 c3), if_pos]
        show scopeW 1 ++ 58 :: codeN (codeOf b).1 = _
        rw [c1]; rfl
      · rw [if_neg h1]
        by_cases h2 : a = [99, 111, 110, 110, 101, 99, 116, 105, 111, 110]
        · subst h2
          rw [if_pos rfl]
          have hd : docFl [99, 111, 110, 110, 101, 99, 116, 105, 111, 110] b = ⟨2, (codeOf b).1⟩ := by unfold docFl; rw [if_pos rfl]
          rw [hd, textW_right (flR_mk (.inr rfl) c2 c3), if_pos]
          show scopeW 2 ++ 58 :: codeN (codeOf b).1 = _
          rw [c1]; rfl
        · rw [if_neg h2]
          have hd : docFl a b = ⟨1, (codeOf b).1⟩ := by unfold docFl; rw [if_neg h2]
          rw [hd, textW_right (flR_mk (.inl rfl) c2 c3), if_neg]
          show ¬ scopeW 1 ++ 58 :: codeN (codeOf b).1 = _
          rw [c1]
          exact fun e => h1 (scope_inj e).symm
theorem scope_colon (n : Int) : (58 : UInt8) ∉ scopeW n := by unfold scopeW; split <;> decide
theorem readW_text {f : Fl} (h : flR f = true) : readW (textW f) = (f, true) := by
  obtain ⟨h1, h2, h3⟩ := flR_parts h
  rw [textW_right h]
  unfold readW
  rw [hd_app _ _ _ (scope_colon _)]
  simp only
  rw [codeOf_name h2 h3]
  obtain ⟨n, c⟩ := f
  simp only at h1 ⊢
  rcases h1 with rfl | rfl
  · rw [if_pos ⟨trivial, rfl⟩]
  · rw [if_neg (by decide), if_pos ⟨trivial, rfl⟩]
theorem readW_yes {s : List UInt8} (h : (readW s).2 = true) : flR (readW s).1 = true ∧ textW (readW s).1 = s := by
  have he := readW_eq s
  rw [he] at h ⊢
  unfold readD at h ⊢
  cases hh : hdF 58 s with
  | none => rw [hh] at h; cases h
  | some p =>
    obtain ⟨a, b⟩ := p
    rw [hh] at h
    simp only at h ⊢
    by_cases hc : (codeOf b).2 = true ∧ textW (docFl a b) = s
    · rw [if_pos hc]
      obtain ⟨c1, c2, c3⟩ := codeOf_yes hc.1
      refine ⟨?_, hc.2⟩
      show flR (docFl a b) = true
      unfold docFl
      exact flR_mk (by split <;> simp) c2 c3
    · rw [if_neg hc] at h; cases h
theorem readW_no {s : List UInt8} (h : (readW s).2 = false) : readW s = (⟨0, 0⟩, false) := by
  have he := readW_eq s
  rw [he] at h ⊢
  unfold readD at h ⊢
  cases hh : hdF 58 s with
  | none => rfl
  | some p =>
    obtain ⟨a, b⟩ := p
    rw [hh] at h
    simp only at h ⊢
    by_cases hc : (codeOf b).2 = true ∧ textW (docFl a b) = s
    · rw [if_pos hc] at h; cases h
    · rw [if_neg hc]
theorem textW_inj {f g : Fl} (hf : flR f = true) (hg : flR g = true) (h : textW f = textW g) : f = g := by
  have h1 := readW_text hf
  rw [h, readW_text hg] at h1
  exact ((Prod.mk.inj h1).1).symm

/-! Sets. 'goW': the program's reading of a set's words, behind some that were read; 'allD': the document's. -/
def okBy (last : Option Fl) (f : Fl) : Bool := match last with
  | none => true
  | some x => ltFl x f
def goW : List (List UInt8) → Option Fl → Option (List Fl)
  | [], _ => some []
  | s :: r, last => if (readW s).2 = true ∧ okBy last (readW s).1 = true then (goW r (some (readW s).1)).map ((readW s).1 :: ·) else none
def allD : List (List UInt8) → Option (List Fl)
  | [] => some []
  | s :: r => if (readW s).2 = true then (allD r).map ((readW s).1 :: ·) else none
def setE : Option (List Fl) → List Fl × Bool
  | none => ([], false)
  | some l => (l, true)
def setW (s : List UInt8) : List Fl × Bool := if s = [45] then ([], true) else setE (goW (cutF 44 s) none)
def setD (s : List UInt8) : List Fl × Bool := if s = [45] then ([], true) else match allD (cutF 44 s) with
  | none => ([], false)
  | some l => if showW l = s then (l, true) else ([], false)
theorem allD_text : ∀ {p : List (List UInt8)} {l : List Fl}, allD p = some l → p = l.map textW ∧ ∀ f ∈ l, flR f = true
  | [], l, h => by simp only [allD] at h; injection h with h; subst h; simp
  | s :: r, l, h => by
    unfold allD at h
    split at h
    · rename_i hs
      obtain ⟨m, h1, rfl⟩ := Option.map_eq_some_iff.1 h
      obtain ⟨h2, h3⟩ := allD_text h1
      obtain ⟨h4, h5⟩ := readW_yes hs
      refine ⟨by rw [List.map_cons, h5, ← h2], fun f hf => ?_⟩
      rcases List.mem_cons.1 hf with rfl | hf
      · exact h4
      · exact h3 f hf
    · cases h
theorem goW_all : ∀ {p : List (List UInt8)} {last : Option Fl} {l : List Fl}, goW p last = some l ↔ allD p = some l ∧ (∀ x f, last = some x → l.head? = some f → ltFl x f = true) ∧ Strict ltFl l
  | [], last, l => by
    simp only [goW, allD]
    constructor
    · intro h; injection h with h; subst h; exact ⟨rfl, by simp, List.Pairwise.nil⟩
    · rintro ⟨h, _, _⟩; exact h
  | s :: r, last, l => by
    unfold goW allD
    cases hs : (readW s).2
    · simp
    · simp only [true_and, if_true]
      generalize (readW s).1 = f
      constructor
      · intro h
        split at h
        · rename_i hok
          obtain ⟨m, h1, rfl⟩ := Option.map_eq_some_iff.1 h
          obtain ⟨h2, h3, h4⟩ := goW_all.1 h1
          refine ⟨by rw [h2]; rfl, ?_, ?_⟩
          · intro x g hx hg
            simp only [List.head?_cons, Option.some.injEq] at hg
            subst hg hx
            exact hok
          · refine List.pairwise_cons.2 ⟨fun y hy => ?_, h4⟩
            cases m with
            | nil => cases hy
            | cons z t =>
              have hz := h3 f z rfl rfl
              rcases List.mem_cons.1 hy with rfl | hy
              · exact hz
              · exact ordFl.tr _ _ _ hz ((List.pairwise_cons.1 h4).1 y hy)
        · cases h
      · rintro ⟨h1, h2, h3⟩
        obtain ⟨m, h4, rfl⟩ := Option.map_eq_some_iff.1 h1
        have hok : okBy last f = true := by
          cases last with
          | none => rfl
          | some x => exact h2 x f rfl rfl
        rw [if_pos hok]
        have h5 : goW r (some f) = some m := goW_all.2 ⟨h4, fun x g hx hg => by
          injection hx with hx
          subst hx
          cases m with
          | nil => cases hg
          | cons z t =>
            simp only [List.head?_cons, Option.some.injEq] at hg
            subst hg
            exact (List.pairwise_cons.1 h3).1 _ (by simp), (List.pairwise_cons.1 h3).2⟩
        rw [h5]; rfl
theorem digits_comma (n : Int) : (44 : UInt8) ∉ Lib.itoa n := itoa_free n
theorem codeN_comma (c : Int) : (44 : UInt8) ∉ codeN c := by
  unfold codeN
  split
  · simp
  · split
    · rename_i h1 h2
      have : ∀ m : Fin 14, (44 : UInt8) ∉ cdName m.val := by decide
      exact this ⟨c.toNat, by omega⟩
    · exact digits_comma c
theorem textW_comma (f : Fl) : (44 : UInt8) ∉ textW f := by
  unfold textW
  split
  · simp only [List.mem_append, List.mem_cons, not_or]
    refine ⟨?_, by decide, codeN_comma _⟩
    unfold scopeW
    split <;> decide
  · simp
theorem cut_show (l : List Fl) (h : ofF l ≠ []) : cutF 44 (showW l) = (ofF l).map textW := by
  unfold showW
  rw [if_neg h]
  exact cut_join 44 _ (by simpa using h) (by simp only [List.mem_map]; rintro w ⟨f, _, rfl⟩; exact textW_comma f)
theorem map_text_inj : ∀ {l m : List Fl}, (∀ f ∈ l, flR f = true) → (∀ f ∈ m, flR f = true) → l.map textW = m.map textW → l = m
  | [], [], _, _, _ => rfl
  | [], g :: m, _, _, h => by simp at h
  | f :: l, [], _, _, h => by simp at h
  | f :: l, g :: m, hl, hm, h => by
    simp only [List.map_cons, List.cons.injEq] at h
    rw [textW_inj (hl f (by simp)) (hm g (by simp)) h.1, map_text_inj (fun x hx => hl x (by simp [hx])) (fun x hx => hm x (by simp [hx])) h.2]
theorem ofF_right (l : List Fl) : ∀ f ∈ ofF l, flR f = true := fun f hf => ((mem_ofF l f).1 hf).2
theorem setW_eq (s : List UInt8) : setW s = setD s := by
  unfold setW setD
  by_cases hd : s = [45]
  · rw [if_pos hd, if_pos hd]
  · rw [if_neg hd, if_neg hd]
    cases ha : allD (cutF 44 s) with
    | none =>
      have : goW (cutF 44 s) none = none := by
        cases hg : goW (cutF 44 s) none with
        | none => rfl
        | some l => rw [(goW_all.1 hg).1] at ha; cases ha
      rw [this]; rfl
    | some l =>
      obtain ⟨h1, h2⟩ := allD_text ha
      have hne : l ≠ [] := by
        obtain ⟨x, t, e⟩ := cut_ne 44 s
        intro hl
        rw [hl, e] at h1; simp at h1
      simp only
      by_cases hst : Strict ltFl l
      · have ho := ofF_of hst h2
        have hg : goW (cutF 44 s) none = some l := goW_all.2 ⟨ha, fun x f hx => (by cases hx), hst⟩
        rw [hg, if_pos]
        · rfl
        · unfold showW
          rw [ho, if_neg hne, ← h1, join_cut]
      · have hg : goW (cutF 44 s) none = none := by
          cases hg : goW (cutF 44 s) none with
          | none => rfl
          | some m =>
            obtain ⟨h3, _, h4⟩ := goW_all.1 hg
            rw [ha] at h3
            injection h3 with h3
            subst h3
            exact absurd h4 hst
        rw [hg, if_neg]
        · rfl
        · intro hs
          by_cases h0 : ofF l = []
          · unfold showW at hs
            rw [if_pos h0] at hs
            exact hd hs.symm
          · have h5 := cut_show l h0
            rw [hs, h1] at h5
            have h6 := map_text_inj h2 (ofF_right l) h5
            exact hst (by rw [h6]; exact strict_ofF l)
theorem setW_show (l : List Fl) : setW (showW l) = (ofF l, true) := by
  by_cases h0 : ofF l = []
  · unfold setW showW
    rw [if_pos h0, if_pos rfl, h0]
  · have hc := cut_show l h0
    have hne : showW l ≠ [45] := by
      intro e
      rw [e] at hc
      have h1 : cutF 44 [45] = [[45]] := by decide
      rw [h1] at hc
      cases hl : ofF l with
      | nil => exact h0 hl
      | cons f t =>
        rw [hl] at hc
        simp only [List.map_cons, List.cons.injEq] at hc
        have h2 := readW_text (ofF_right l f (by rw [hl]; simp))
        rw [← hc.1, show readW [45] = ((⟨0, 0⟩ : Fl), false) by decide] at h2
        cases h2
    unfold setW
    rw [if_neg hne, hc]
    have hr := ofF_right l
    have hst := strict_ofF l
    have ha : ∀ m : List Fl, (∀ f ∈ m, flR f = true) → allD (m.map textW) = some m := by
      intro m
      induction m with
      | nil => intro _; rfl
      | cons f t ih =>
        intro hm
        rw [List.map_cons, allD, readW_text (hm f (by simp)), if_pos rfl, ih (fun x hx => hm x (by simp [hx]))]
        rfl
    rw [goW_all.2 ⟨ha _ hr, fun x f hx => (by cases hx), hst⟩]
    rfl
end Go.Proofs.YtamklaehaadiaaaGreatDoor
