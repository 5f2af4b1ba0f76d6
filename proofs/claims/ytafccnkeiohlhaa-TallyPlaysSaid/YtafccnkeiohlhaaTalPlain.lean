/-
  A tally: the two states go together. Plain laws.
-/
import Derived.Test.YtafccnkeiohlhaaTal6
namespace Go.Proofs.Ytafccnkeiohlhaa
set_option linter.unusedSimpArgs false
set_option linter.unusedVariables false
open Go.ChangeShapes Go.WideShapes Go.ChangeAt Go.RowKit Go.Deep Go.Shelf

theorem natGo_le (most : Int) : ∀ (l : List UInt8) (n : Int), 0 ≤ n → n ≤ most → 0 ≤ (natGo most l n).1 ∧ (natGo most l n).1 ≤ most
  | [], n, h0, h1 => ⟨h0, h1⟩
  | c :: r, n, h0, h1 => by
    unfold natGo
    split
    · exact ⟨by simp, by simp; omega⟩
    · split
      · exact ⟨by simp, by simp; omega⟩
      · exact natGo_le most r _ (by omega) (by omega)
theorem natF_le (l : List UInt8) : 0 ≤ (natF l 4503599627370496).1 ∧ (natF l 4503599627370496).1 ≤ 4503599627370496 := by
  unfold natF
  split
  · exact ⟨by simp, by simp⟩
  · exact natGo_le _ _ _ (by omega) (by omega)
theorem lenGo_le : ∀ (l : List Fd) (n : Int) (t : Bool), 0 ≤ n → n ≤ 4503599627370496 → 0 ≤ (lenGo l n t).1 ∧ (lenGo l n t).1 ≤ 4503599627370496
  | [], n, t, h0, h1 => ⟨h0, h1⟩
  | f :: r, n, t, h0, h1 => by
    by_cases hn : f.name = contentLength
    · by_cases h2 : (!(natF f.value 4503599627370496).2 || (t && (natF f.value 4503599627370496).1 != n)) = true
      · rw [lenGo_bad hn h2]; exact ⟨by simp, by simp⟩
      · rw [lenGo_ok hn (by simpa using h2)]; exact lenGo_le r _ _ (natF_le _).1 (natF_le _).2
    · rw [lenGo_skip hn]; exact lenGo_le r n t h0 h1
theorem chkF_le (k : Int) (l : List Fd) : 0 ≤ (chkF k l).1.n ∧ (chkF k l).1.n ≤ 4503599627370496 := by
  have := lenGo_le l 0 false (by omega) (by omega)
  unfold chkF chkOf
  split
  · unfold chkEnd
    split
    · exact ⟨by simp, by simp⟩
    · split
      · exact ⟨by simp, by simp⟩
      · split
        · exact ⟨by simp, by simp⟩
        · exact this
  · exact ⟨by simp, by simp⟩

structure Rel (t : Ta) (s : St) : Prop where
  a : t.answers = s.answers
  m : t.method = s.method
  p : t.phase = s.phase
  q : t.phase = 0 → t.may = 0
  f : t.phase ≠ 0 → t.may = s.may
  l : t.may = 2 → t.left = s.want - s.came
  b1 : 0 ≤ s.came
  b2 : s.came ≤ s.want
  b3 : s.want ≤ 4503599627370496
  l0 : 0 ≤ t.left
  l1 : t.left ≤ 4503599627370496
  c0 : t.phase = 0 → s.came = 0
theorem rel_flow {t : Ta} {s : St} (h : Rel t s) (h0 : t.phase = 0) (m : Ms) (hm0 : 0 ≤ m.n) (hm1 : m.n ≤ 4503599627370496) : Rel (flowF t m) (rbegF s m) := by
  obtain ⟨ha, hmm, hp, hq, hf, hl, b1, b2, b3, l0, l1, c0⟩ := h
  obtain ⟨ans, met, ph, may, lef⟩ := t
  obtain ⟨ans', met', ph', may', wa, ca⟩ := s
  obtain ⟨mm, mst, mn, mto⟩ := m
  simp only at ha hmm hp hq hf hl b1 b2 b3 l0 l1 c0 h0 hm0 hm1
  subst ha hmm h0
  have hq := hq rfl
  have c0 := c0 rfl
  subst hq c0 hp
  generalize hh : (met == vHead) = hd
  generalize hc : (met == vConnect) = cn
  generalize hc' : (mm == vConnect) = cm
  cases ans
  · cases cm <;> cases mto <;> simp only [flowF, emptyF, tunnelF, rbegF, mayF, hc'] <;> simp <;> constructor <;> simp <;> omega
  · by_cases e1 : mst = 204 <;> by_cases e2 : mst = 304 <;> by_cases e3 : mst < 300 <;> cases hd <;> cases cn <;> cases mto <;> simp only [flowF, emptyF, tunnelF, rbegF, mayF, hh, hc, e1, e2, e3] <;> simp [e1, e2, e3] <;> constructor <;> simp <;> omega
theorem rel_no : Rel noTa noSt := ⟨rfl, rfl, rfl, fun _ => rfl, fun _ => rfl, fun h => by simp at h, by simp, by simp, by simp, by simp, by simp, fun _ => rfl⟩

structure Like (x : Tr) (y : Rr) : Prop where
  r : x.r = y.r
  m : x.m = y.m
  o : (x.t.phase == 2) = (y.s.phase == 2)
  k : x.r = 0 → Rel x.t y.s
theorem like_no (r : Int) : Like ⟨noTa, noMs, r⟩ ⟨noSt, noMs, r⟩ := ⟨rfl, rfl, rfl, fun _ => rel_no⟩
theorem like_first {t : Ta} {s : St} (h : Rel t s) (h0 : t.phase = 0) (l : List Fd) (e : Bool) : Like (fstF t l e) (rfstF s l e) := by
  have hk : (if s.answers = true then 1 else 0) = kindF t := by unfold kindF; rw [h.a]
  unfold fstF rfstF
  rw [hk]
  have hb := chkF_le (kindF t) l
  generalize chkF (kindF t) l = c at hb ⊢
  obtain ⟨m, r⟩ := c
  simp only at hb
  by_cases hr : r = 0
  · subst hr
    by_cases he : t.answers = true ∧ m.status < 200
    · have he' : s.answers = true ∧ m.status < 200 := by rw [← h.a]; exact he
      simp only [fstOf, rfstOf, if_true, if_pos he, if_pos he']
      cases e
      · exact ⟨rfl, rfl, by simp [h.p], fun _ => h⟩
      · exact like_no 32
    · have he' : ¬ (s.answers = true ∧ m.status < 200) := by rw [← h.a]; exact he
      simp only [fstOf, rfstOf, if_true, if_neg he, if_neg he']
      have hf := rel_flow h h0 m hb.1 hb.2
      have hfp : (flowF t m).phase = 1 := by unfold flowF; split; rfl; split <;> rfl
      have hca : (rbegF s m).came = 0 := h.c0 h0
      generalize flowF t m = u at hf hfp
      generalize rbegF s m = v at hf hca
      cases e
      · exact ⟨rfl, rfl, (by show (u.phase == 2) = (v.phase == 2); rw [hf.p]), fun _ => hf⟩
      · have hmay := hf.f (by omega)
        have hl := hf.l
        by_cases hx : u.may = 2 ∧ 0 < u.left
        · have hy : v.may = 2 ∧ 0 < v.want := ⟨by omega, by have := hl hx.1; omega⟩
          simp only [closeF, if_pos hx, rfstEnd, if_pos hy, if_true]
          exact like_no 31
        · have hy : ¬ (v.may = 2 ∧ 0 < v.want) := fun ⟨q1, q2⟩ => hx ⟨by omega, by have := hl (by omega); omega⟩
          simp only [closeF, if_neg hx, rfstEnd, if_neg hy, if_true, endTr]
          refine ⟨rfl, rfl, rfl, fun _ => ⟨hf.a, hf.m, rfl, fun q => by simp at q, fun _ => hmay, hl, hf.b1, hf.b2, hf.b3, hf.l0, hf.l1, fun q => by simp at q⟩⟩
  · simp only [fstOf, rfstOf, if_neg hr]
    exact like_no r
theorem like_head {t : Ta} {s : St} (h : Rel t s) (l : List Fd) (e : Bool) : Like (headF t l e) (rheadF s l e) := by
  by_cases h0 : t.phase = 0
  · simp only [headF, rheadF, if_pos h0, if_pos (h.p ▸ h0 : s.phase = 0)]
    exact like_first h h0 l e
  · have h0' : ¬ s.phase = 0 := by rw [← h.p]; exact h0
    simp only [headF, rheadF, if_neg h0, if_neg h0']
    rw [← h.p]
    by_cases h2 : t.phase = 2 ∨ e = false
    · simp only [if_pos h2]; exact like_no 33
    · simp only [if_neg h2]
      generalize chkF 2 l = c
      obtain ⟨m, r⟩ := c
      by_cases hr : r = 0
      · subst hr
        simp only [if_true]
        have hmay := h.f h0
        have hl := h.l
        have q1 := h.b1
        have q2 := h.b2
        by_cases hx : t.may = 2 ∧ 0 < t.left
        · have hy : s.may = 2 ∧ s.came ≠ s.want := ⟨by omega, by have := hl hx.1; omega⟩
          simp only [closeF, if_pos hx, if_pos hy]
          exact like_no 31
        · have hy : ¬ (s.may = 2 ∧ s.came ≠ s.want) := fun ⟨q1, q2⟩ => hx ⟨by omega, by have := hl (by omega); omega⟩
          simp only [closeF, if_neg hx, if_neg hy, endTr, if_true]
          refine ⟨rfl, rfl, rfl, fun _ => ⟨h.a, h.m, rfl, fun q => by simp at q, fun _ => hmay, hl, h.b1, h.b2, h.b3, h.l0, h.l1, fun q => by simp at q⟩⟩
      · simp only [if_neg hr]; exact like_no r
structure LikeD (x : Ta × Int) (y : St × Int) : Prop where
  r : x.2 = y.2
  o : (x.1.phase == 2) = (y.1.phase == 2)
  k : x.2 = 0 → Rel x.1 y.1
theorem likeD_no (r : Int) : LikeD (noTa, r) (noSt, r) := ⟨rfl, rfl, fun _ => rel_no⟩
theorem like_data {t : Ta} {s : St} (h : Rel t s) (n : Int) (e : Bool) : LikeD (datF t n e) (rdatF s n e) := by
  have hn : (if n < 0 then 0 else n) = max n 0 := by split <;> omega
  unfold datF rdatF
  rw [hn]
  have hn0 : 0 ≤ max n 0 := by omega
  generalize max n 0 = k at hn0
  unfold datN rdatN
  by_cases h1 : t.phase = 1
  · have hmay := h.f (by omega)
    rw [← h.p, ← hmay]
    have hl := h.l
    have q1 := h.b1
    have q2 := h.b2
    have q3 := h.b3
    have q4 := h.l0
    have q5 := h.l1
    by_cases h2 : t.may = 1 ∧ 0 < k
    · rw [if_pos (.inr h2), if_pos (.inr h2)]; exact likeD_no 32
    · have n1 : ¬ (¬ t.phase = 1 ∨ (t.may = 1 ∧ 0 < k)) := by omega
      rw [if_neg n1, if_neg n1]
      by_cases h3 : t.may = 2
      · have hl := hl h3
        rw [if_pos h3, if_pos h3]
        by_cases h4 : t.left < k
        · have n4 : s.want - s.came < k := by omega
          rw [if_pos h4, if_pos n4]; exact likeD_no 31
        · have n4 : ¬ s.want - s.came < k := by omega
          rw [if_neg h4, if_neg n4]
          cases e
          · simp only [datEnd, Bool.false_eq_true, if_false, false_and]
            exact ⟨rfl, rfl, fun _ => ⟨h.a, h.m, rfl, fun q => by simp only at q; omega, fun _ => rfl, fun _ => by simp only; omega, by simp only; omega, by simp only; omega, q3, by simp only; omega, by simp only; omega, fun q => by simp only at q; omega⟩⟩
          · simp only [datEnd, if_true, true_and, closeF]
            by_cases h5 : s.came + k < s.want
            · rw [if_pos h5, if_pos ⟨h3, by omega⟩]; exact likeD_no 31
            · have n5 : ¬ (t.may = 2 ∧ 0 < t.left - k) := by omega
              rw [if_neg h5, if_neg n5]
              exact ⟨rfl, rfl, fun _ => ⟨h.a, h.m, rfl, fun q => by simp at q, fun _ => rfl, fun _ => by simp only; omega, by simp only; omega, by simp only; omega, q3, by simp only; omega, by simp only; omega, fun q => by simp at q⟩⟩
      · rw [if_neg h3, if_neg h3]
        cases e
        · simp only [datEnd, Bool.false_eq_true, if_false]
          exact ⟨rfl, rfl, fun _ => ⟨h.a, h.m, rfl, h.q, fun _ => rfl, fun q => absurd q h3, q1, q2, q3, q4, q5, h.c0⟩⟩
        · simp only [datEnd, if_true, closeF]
          rw [if_neg (by omega)]
          exact ⟨rfl, rfl, fun _ => ⟨h.a, h.m, rfl, fun q => by simp at q, fun _ => rfl, fun q => absurd q h3, q1, q2, q3, q4, q5, fun q => by simp at q⟩⟩
  · rw [if_pos (.inl h1), if_pos (.inl (by rw [← h.p]; exact h1))]; exact likeD_no 32
end Go.Proofs.Ytafccnkeiohlhaa
