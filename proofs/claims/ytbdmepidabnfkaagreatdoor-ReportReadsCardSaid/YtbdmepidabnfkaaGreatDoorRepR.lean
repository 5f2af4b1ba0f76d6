/-
  Reports: plain: the document's road back; both roads are one.
-/
import Derived.Test.YtbdmepidabnfkaaGreatDoorRepP
namespace Go.Proofs.YtbdmepidabnfkaaGreatDoor
set_option linter.unusedSimpArgs false
set_option linter.unusedVariables false
set_option linter.unusedSectionVars false
open Go.ChangeShapes Go.WideShapes Go.ChangeAt Go.RowKit Go.Deep

def nmR (l : List (List UInt8)) (i : Nat) : Int := if (readF (atD l i)).2 = true then (readF (atD l i)).1 else -1
theorem nm_good (l : List (List UInt8)) (i : Nat) : goodI (nmR l i) := by
  unfold nmR
  split
  · rename_i h
    exact (readF_yes h).2
  · unfold goodI; omega
theorem nm_itoa {l : List (List UInt8)} {i : Nat} {n : Int} (h : atD l i = Lib.itoa n) (hg : goodI n) : nmR l i = n := by
  unfold nmR
  rw [h, readF_itoa hg.1 hg.2, if_pos rfl]
def spR (L : List (List UInt8)) (i : Nat) : List (List UInt8) := (splitF (atD L i)).1
def recsR : List (List UInt8) → Option (List Rec)
  | [] => some []
  | x :: r => if (readRecF x).2 = true then (recsR r).map ((readRecF x).1 :: ·) else none
theorem recsR_map : ∀ (l : List Rec), (∀ r ∈ l, recR r = true) → recsR (l.map recLine) = some l
  | [], _ => rfl
  | r :: l, h => by
    rw [List.map_cons, recsR, readRec_line (h r (by simp)), if_pos rfl, recsR_map l (fun x hx => h x (by simp [hx]))]
    rfl
theorem recsR_len : ∀ {L : List (List UInt8)} {l : List Rec}, recsR L = some l → l.length = L.length
  | [], l, h => by simp only [recsR] at h; injection h with h; subst h; rfl
  | x :: r, l, h => by
    unfold recsR at h
    split at h
    · obtain ⟨m, h1, rfl⟩ := Option.map_eq_some_iff.1 h
      simp [recsR_len h1]
    · cases h
def mkR (L : List (List UInt8)) (n : Nat) (recs : List Rec) : Rpt :=
  ⟨nmR (spR L 1) 1, nmR (spR L 1) 2, nmR (spR L 1) 3, nmR (spR L 1) 4, nmR (spR L 1) 5, nmR (spR L 1) 6, recs, (kindB (atD (spR L (3 + n)) 1)).1, nmR (spR L (3 + n)) 2,
    (setW (atD (spR L (4 + n)) 1)).1, (setRD (atD (spR L (5 + n)) 1)).1, nmR (spR L (6 + n)) 1, nmR (spR L (6 + n)) 2⟩
def endR (s : List UInt8) (x : Rpt) : Rpt × Bool := if rightD x = true ∧ textD x = s then (x, true) else (zRpt, false)
def bodyR (s : List UInt8) (L : List (List UInt8)) (n : Nat) : Option (List Rec) → Rpt × Bool
  | none => (zRpt, false)
  | some recs => endR s (mkR L n recs)
def refRp (s : List UInt8) : Rpt × Bool :=
  if (linesF s).2 = false ∨ (linesF s).1.length < 7 then (zRpt, false)
  else bodyR s (linesF s).1 ((linesF s).1.length - 7) (recsR (((linesF s).1.drop 3).take ((linesF s).1.length - 7)))
theorem linesF_le (s : List UInt8) : (linesF s).1.length ≤ s.length + 1 := by
  have h := cut_len 10 s
  unfold linesF
  split
  · simp; omega
  · simp
theorem refRp_yes {s : List UInt8} (hs : s.length ≤ 90000) (h : (refRp s).2 = true) : rightD (refRp s).1 = true ∧ textD (refRp s).1 = s ∧ goodR (refRp s).1 := by
  have hl := linesF_le s
  unfold refRp at h ⊢
  split at h
  · cases h
  · rename_i hc
    rw [if_neg hc]
    generalize (linesF s).1 = L at h hl ⊢
    cases hr : recsR ((L.drop 3).take (L.length - 7)) with
    | none => rw [hr] at h; cases h
    | some recs =>
      rw [hr] at h
      have hlen := recsR_len hr
      simp only [bodyR] at h ⊢
      unfold endR at h ⊢
      split at h
      · rename_i hx
        rw [if_pos hx]
        refine ⟨hx.1, hx.2, nm_good _ _, nm_good _ _, nm_good _ _, ?_⟩
        show recs.length ≤ 100000
        rw [hlen]
        simp only [List.length_take, List.length_drop]
        omega
      · cases h
theorem refRp_no {s : List UInt8} (h : (refRp s).2 = false) : refRp s = (zRpt, false) := by
  unfold refRp at h ⊢
  split
  · rfl
  · rename_i hc
    rw [if_neg hc] at h
    generalize recsR _ = o at h ⊢
    cases o with
    | none => rfl
    | some recs =>
      simp only [bodyR] at h ⊢
      unfold endR at h ⊢
      split
      · rename_i hx; rw [if_pos hx] at h; cases h
      · rfl
theorem linesD_len (x : Rpt) : (linesD x).length = x.l.length + 7 := by simp [linesD]
theorem at_app (a b : List (List UInt8)) (k : Nat) : atD (a ++ b) (a.length + k) = atD b k := by
  unfold atD
  rw [List.getD_eq_getElem?_getD, List.getD_eq_getElem?_getD, List.getElem?_append_right (by omega)]
  congr 2; omega
theorem at_tail (x : Rpt) (k : Nat) : atD (linesD x) (3 + x.l.length + k) = atD [lineW (w4D x), lineW (w5D x), lineW (w6D x), lineW (w7D x)] k := by
  have h := at_app ([lineW w1D, lineW (w2D x), lineW (w3D x)] ++ x.l.map recLine) [lineW (w4D x), lineW (w5D x), lineW (w6D x), lineW (w7D x)] k
  simp only [List.length_append, List.length_map, List.length_cons, List.length_nil] at h
  unfold linesD
  rw [← List.append_assoc]
  exact h
theorem refRp_text {x : Rpt} (h : rightD x = true) (hg : goodR x) : refRp (textD x) = (x, true) := by
  obtain ⟨g0, g1, g2, g3, g4, g5⟩ := cfg_good (right_cfg h)
  obtain ⟨gt, gf, gg, gl⟩ := hg
  obtain ⟨hf, hu⟩ := right_sets h
  unfold refRp
  rw [lines_of h]
  simp only
  rw [if_neg (by rw [linesD_len]; simp), linesD_len, Nat.add_sub_cancel]
  have e1 : ((linesD x).drop 3).take x.l.length = x.l.map recLine := by
    unfold linesD
    show (x.l.map recLine ++ _).take x.l.length = _
    exact List.take_left' (by simp)
  rw [e1, recsR_map x.l (List.all_eq_true.1 (right_l h))]
  simp only [bodyR]
  have s1 : spR (linesD x) 1 = w2D x := by
    unfold spR
    rw [show atD (linesD x) 1 = lineW (w2D x) from rfl]
    unfold lineW
    rw [split_line _ (w2_ok x)]
  have s4 : spR (linesD x) (3 + x.l.length) = w4D x := by
    unfold spR
    rw [show atD (linesD x) (3 + x.l.length) = lineW (w4D x) from at_tail x 0]
    unfold lineW
    rw [split_line _ (w4_ok (right_v h))]
  have s5 : spR (linesD x) (4 + x.l.length) = w5D x := by
    unfold spR
    rw [show 4 + x.l.length = 3 + x.l.length + 1 by omega, show atD (linesD x) (3 + x.l.length + 1) = lineW (w5D x) from at_tail x 1]
    unfold lineW
    rw [split_line _ (w5_ok x)]
  have s6 : spR (linesD x) (5 + x.l.length) = w6D x := by
    unfold spR
    rw [show 5 + x.l.length = 3 + x.l.length + 2 by omega, show atD (linesD x) (3 + x.l.length + 2) = lineW (w6D x) from at_tail x 2]
    unfold lineW
    rw [split_line _ (w6_ok x)]
  have s7 : spR (linesD x) (6 + x.l.length) = w7D x := by
    unfold spR
    rw [show 6 + x.l.length = 3 + x.l.length + 3 by omega, show atD (linesD x) (3 + x.l.length + 3) = lineW (w7D x) from at_tail x 3]
    unfold lineW
    rw [split_line _ (w7_ok x)]
  have hx : mkR (linesD x) x.l.length x.l = x := by
    unfold mkR
    rw [s1, s4, s5, s6, s7, nm_itoa (i := 1) (n := x.c0) rfl g0, nm_itoa (i := 2) (n := x.c1) rfl g1, nm_itoa (i := 3) (n := x.c2) rfl g2, nm_itoa (i := 4) (n := x.c3) rfl g3, nm_itoa (i := 5) (n := x.c4) rfl g4, nm_itoa (i := 6) (n := x.c5) rfl g5,
      nm_itoa (i := 2) (n := x.t) rfl gt, nm_itoa (l := w7D x) (i := 1) (n := x.f0) rfl gf, nm_itoa (l := w7D x) (i := 2) (n := x.f1) rfl gg,
      show atD (w4D x) 1 = kindF x.v from rfl, kindB_kind (right_v h), show atD (w5D x) 1 = showW x.fs from rfl, setW_show, show atD (w6D x) 1 = showR x.us from rfl, ← setR_eq, setR_show, hf, hu]
  rw [hx]
  unfold endR
  rw [if_pos ⟨h, rfl⟩]
theorem readRp_good {s : List UInt8} (hs : s.length ≤ 90000) (h : (readRp s).2 = true) : goodR (readRp s).1 := by
  obtain ⟨h1, h2, h3, h4, h5⟩ := readRp_yes h
  refine ⟨h3, h4, h5, ?_⟩
  have hl := linesF_le s
  rw [← h2, lines_of h1, linesD_len, h2] at hl
  omega
theorem read_ref {s : List UInt8} (hs : s.length ≤ 90000) : readRp s = refRp s := by
  cases h : (readRp s).2 with
  | true =>
    obtain ⟨h1, h2, _⟩ := readRp_yes h
    have := refRp_text h1 (readRp_good hs h)
    rw [h2] at this
    rw [this]
    exact Prod.ext rfl h
  | false =>
    cases h2 : (refRp s).2 with
    | true =>
      obtain ⟨h1, h3, h4⟩ := refRp_yes hs h2
      have := readRp_text h1 h4
      rw [h3] at this
      rw [this] at h
      cases h
    | false => rw [readRp_no h, refRp_no h2]
end Go.Proofs.YtbdmepidabnfkaaGreatDoor
