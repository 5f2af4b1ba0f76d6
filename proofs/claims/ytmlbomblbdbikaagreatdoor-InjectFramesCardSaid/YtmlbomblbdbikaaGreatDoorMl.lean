/-
  Parts of the proof, one behind the other: contracts of the program and plain laws; no condition of their own.
-/
import Derived.Test.YtmlbomblbdbikaaGreatDoorMk
import Derived.Test.YtmlbomblbdbikaaGreatDoorMe
import Derived.Test.YtmlbomblbdbikaaGreatDoorMc
/-
  Scenarios: plain: a step that may be is read back from its words, both roads.
-/
namespace Go.Proofs.YtmlbomblbdbikaaGreatDoor
set_option linter.unusedSimpArgs false
set_option linter.unusedVariables false
set_option linter.unusedSectionVars false
open Go.ChangeShapes Go.WideShapes Go.ChangeAt Go.RowKit Go.Deep

theorem rdN_of {n : Int} (h : goodI n) (r : List (List UInt8)) (b : Bool) : rdN (Lib.itoa n :: r) b = (n, r, b) := by
  have h1 := readF_itoa h.1 h.2
  simp [rdN, rdW, h1]
theorem rdE_end (e : Bool) (r : List (List UInt8)) (b : Bool) : rdE [101, 110, 100] [111, 112, 101, 110] (endW e :: r) b = (e, r, b) := by
  cases e <;> cases b <;> simp [rdE, rdW, endW]
theorem rdE_nev (e : Bool) (r : List (List UInt8)) (b : Bool) : rdE [33] [43] (nevW e :: r) b = (e, r, b) := by
  cases e <;> cases b <;> simp [rdE, rdW, nevW]
theorem rdT_of (s : List UInt8) (r : List (List UInt8)) (b : Bool) : rdT (quoteF s :: r) b = (s, r, b) := by
  simp [rdT, rdW, unquote_quote]
theorem oneF_of (f : Fd) (r : List (List UInt8)) (b : Bool) : oneF (fdW f ++ r) b = (f, r, b) := by
  unfold fdW oneF
  simp only [List.cons_append, List.nil_append, rdE_nev, rdT_of]
theorem oneS_of {p : Int × Int} (h : goodI p.1 ∧ goodI p.2) (r : List (List UInt8)) (b : Bool) : oneS (seW p ++ r) b = (p, r, b) := by
  unfold seW oneS
  simp only [List.cons_append, List.nil_append, rdN_of h.1, rdN_of h.2]
theorem many_of {α : Type} {one : List (List UInt8) → Bool → α × List (List UInt8) × Bool} {W : α → List (List UInt8)} (hW : ∀ x, W x ≠ []) :
    ∀ (xs : List α), (∀ x ∈ xs, ∀ r, one (W x ++ r) false = (x, r, false)) → ∀ n, (xs.flatMap W).length ≤ n → manyP one n (xs.flatMap W) false = (xs, [], false)
  | [], _, n, _ => by cases n <;> simp [manyP]
  | x :: xs, h, n, hn => by
    rw [List.flatMap_cons] at hn ⊢
    have hp := List.length_pos_iff.2 (hW x)
    rw [List.length_append] at hn
    match n, hn with
    | 0, hn => omega
    | n + 1, hn =>
      rw [manyP, if_pos ⟨by simp [hW x], rfl⟩, h x (by simp)]
      simp only
      rw [many_of hW xs (fun y hy => h y (by simp [hy])) n (by omega)]
theorem good_in {n a b : Int} (h : inR n a b = true) (ha : -9223372036854775808 ≤ a) (hb : b ≤ 9223372036854775807) : goodI n := by
  rw [inR_iff] at h
  exact ⟨by omega, by omega⟩
theorem seR_good {p : Int × Int} (h : seR p = true) : goodI p.1 ∧ goodI p.2 := by
  simp only [seR, Bool.and_eq_true] at h
  exact ⟨good_in h.1 (by omega) (by omega), good_in h.2 (by omega) (by omega)⟩
theorem bareS_eq {x : St} (h : bareS x = true) : x.fin = false ∧ x.fs = [] ∧ x.ss = [] := by
  simp only [bareS, Bool.and_eq_true, Bool.not_eq_true', List.isEmpty_iff] at h
  exact ⟨h.1, h.2.1, h.2.2⟩
/-- What a step that may be looks like. -/
inductive StOk : St → Prop
  | headers (s : Int) (e : Bool) (fs : List Fd) (h : goodI s) (hf : ∀ f ∈ fs, fdR f = true) (hl : fs.length ≤ 20) : StOk ⟨1, s, 0, e, fs, []⟩
  | data (s n : Int) (e : Bool) (h : goodI s) (h2 : goodI n) : StOk ⟨2, s, n, e, [], []⟩
  | set (ss : List (Int × Int)) (h : ∀ p ∈ ss, goodI p.1 ∧ goodI p.2) (hl : ss.length ≤ 10) : StOk ⟨3, 0, 0, false, [], ss⟩
  | two (k s n : Int) (hk : k = 4 ∨ k = 5) (h : goodI s) (h2 : goodI n) : StOk ⟨k, s, n, false, [], []⟩
  | one (k n : Int) (hk : k = 6 ∨ k = 7 ∨ k = 8) (h2 : goodI n) : StOk ⟨k, 0, n, false, [], []⟩
theorem stR_ok {x : St} (h : stR x = true) : StOk x := by
  unfold stR topS at h
  obtain ⟨k, s, n, e, fs, ss⟩ := x
  simp only at h
  split at h
  · rename_i hk
    simp only [Bool.and_eq_true, decide_eq_true_eq, List.all_eq_true, List.isEmpty_iff] at h
    obtain ⟨h1, rfl, h2, h3, rfl⟩ := h
    subst hk
    exact .headers s e fs (good_in h1 (by omega) (by omega)) h3 h2
  split at h
  · rename_i hk
    simp only [Bool.and_eq_true, List.isEmpty_iff] at h
    obtain ⟨rfl, rfl, h1, h2⟩ := h
    subst hk
    exact .data s n e (good_in h1 (by omega) (by omega)) (good_in h2 (by omega) (by omega))
  split at h
  · rename_i hk
    simp only [Bool.and_eq_true, decide_eq_true_eq, List.all_eq_true, List.isEmpty_iff, Bool.not_eq_true'] at h
    obtain ⟨rfl, rfl, rfl, rfl, h1, h2⟩ := h
    subst hk
    exact .set ss (fun p hp => seR_good (h2 p hp)) h1
  split at h
  · rename_i hk
    simp only [Bool.and_eq_true] at h
    obtain ⟨h0, h1, h2⟩ := h
    obtain ⟨rfl, rfl, rfl⟩ := bareS_eq h0
    exact .two k s n (.inl hk) (good_in h1 (by omega) (by omega)) (good_in h2 (by omega) (by omega))
  split at h
  · rename_i hk
    simp only [Bool.and_eq_true] at h
    obtain ⟨h0, h1, h2⟩ := h
    obtain ⟨rfl, rfl, rfl⟩ := bareS_eq h0
    exact .two k s n (.inr hk) (good_in h1 (by omega) (by omega)) (good_in h2 (by omega) (by omega))
  split at h
  · rename_i hk
    simp only [Bool.and_eq_true, decide_eq_true_eq] at h
    obtain ⟨h0, rfl, h2⟩ := h
    obtain ⟨rfl, rfl, rfl⟩ := bareS_eq h0
    exact .one k n (.inl hk) (good_in h2 (by omega) (by omega))
  split at h
  · rename_i hk
    simp only [Bool.and_eq_true, decide_eq_true_eq] at h
    obtain ⟨h0, rfl, h2⟩ := h
    obtain ⟨rfl, rfl, rfl⟩ := bareS_eq h0
    exact .one k n (.inr (.inl hk)) (good_in h2 (by omega) (by omega))
  split at h
  · rename_i hk
    simp only [Bool.and_eq_true, decide_eq_true_eq] at h
    obtain ⟨h0, rfl, h2⟩ := h
    obtain ⟨rfl, rfl, rfl⟩ := bareS_eq h0
    exact .one k n (.inr (.inr hk)) (good_in h2 (by omega) (by omega))
  · cases h
theorem words_step {x : St} (h : StOk x) : stepP (wordsS x) false = (x, [], false) := by
  cases h with
  | headers s e fs h hf hl =>
    have hm := many_of (W := fdW) (one := oneF) (fun f => by simp [fdW]) fs (fun f _ r => oneF_of f r false) _ (Nat.le_refl _)
    simp only [stepP, wordsS, restS, headW, rdW, reduceIte, show kindW [104, 101, 97, 100, 101, 114, 115] = 1 from by decide, rdN_of h, rdE_end, hm, Bool.false_or, show decide ((1 : Int) = 0) = false from by decide]
  | data s n e h h2 =>
    simp only [stepP, wordsS, restS, headW, rdW, reduceIte, show ((2 : Int) = 1) = False from by simp, show kindW [100, 97, 116, 97] = 2 from by decide, rdN_of h, rdN_of h2, rdE_end, Bool.false_or, show decide ((2 : Int) = 0) = false from by decide]
  | set ss h hl =>
    have hm := many_of (W := seW) (one := oneS) (fun f => by simp [seW]) ss (fun p hp r => oneS_of (h p hp) r false) _ (Nat.le_refl _)
    simp only [stepP, wordsS, restS, headW, rdW, reduceIte, show ((3 : Int) = 1) = False from by simp, show ((3 : Int) = 2) = False from by simp, show kindW [115, 101, 116] = 3 from by decide, hm, Bool.false_or, show decide ((3 : Int) = 0) = false from by decide]
  | two k s n hk h h2 =>
    rcases hk with rfl | rfl
    · simp [stepP, wordsS, restS, headW, rdW, show kindW [103, 114, 111, 119] = 4 from by decide, rdN_of h, rdN_of h2]
    · simp [stepP, wordsS, restS, headW, rdW, show kindW [99, 117, 116] = 5 from by decide, rdN_of h, rdN_of h2]
  | one k n hk h2 =>
    rcases hk with rfl | rfl | rfl
    · simp [stepP, wordsS, restS, headW, rdW, show kindW [99, 97, 108, 108] = 6 from by decide, rdN_of h2]
    · simp [stepP, wordsS, restS, headW, rdW, show kindW [108, 101, 97, 118, 101] = 7 from by decide, rdN_of h2]
    · simp [stepP, wordsS, restS, headW, rdW, show kindW [119, 97, 105, 116] = 8 from by decide, rdN_of h2]

/-! The document's road back. -/
def fldsR : List (List UInt8) → List Fd
  | a :: b :: c :: r => ⟨(unquoteF b).1, (unquoteF c).1, a == [33]⟩ :: fldsR r
  | _ => []
def numR1 (w : List UInt8) : Int := if (readF w).2 = true then (readF w).1 else -1
def setsR : List (List UInt8) → List (Int × Int)
  | a :: b :: r => (numR1 a, numR1 b) :: setsR r
  | _ => []
def stepD (l : List (List UInt8)) : St :=
  if atD l 0 = [104, 101, 97, 100, 101, 114, 115] then ⟨1, nmR l 1, 0, decide (2 < l.length) && (atD l 2 == [101, 110, 100]), fldsR (l.drop 3), []⟩
  else if atD l 0 = [100, 97, 116, 97] then ⟨2, nmR l 1, nmR l 2, (l.getLast?.getD [] == [101, 110, 100]), [], []⟩
  else if atD l 0 = [115, 101, 116] then ⟨3, 0, 0, false, [], setsR (l.drop 1)⟩
  else if atD l 0 = [103, 114, 111, 119] then ⟨4, nmR l 1, nmR l 2, false, [], []⟩
  else if atD l 0 = [99, 117, 116] then ⟨5, nmR l 1, nmR l 2, false, [], []⟩
  else if atD l 0 = [99, 97, 108, 108] then ⟨6, 0, nmR l 1, false, [], []⟩
  else if atD l 0 = [108, 101, 97, 118, 101] then ⟨7, 0, nmR l 1, false, [], []⟩
  else ⟨8, 0, nmR l 1, false, [], []⟩
theorem flds_of : ∀ fs : List Fd, fldsR (fs.flatMap fdW) = fs
  | [] => rfl
  | f :: r => by
    rw [List.flatMap_cons]
    show fldsR (nevW f.never :: quoteF f.name :: quoteF f.value :: r.flatMap fdW) = _
    rw [fldsR, unquote_quote, unquote_quote, flds_of r]
    obtain ⟨n, v, b⟩ := f
    cases b <;> simp [nevW]
theorem sets_of : ∀ ss : List (Int × Int), (∀ p ∈ ss, goodI p.1 ∧ goodI p.2) → setsR (ss.flatMap seW) = ss
  | [], _ => rfl
  | p :: r, h => by
    rw [List.flatMap_cons]
    show setsR (Lib.itoa p.1 :: Lib.itoa p.2 :: r.flatMap seW) = _
    obtain ⟨h1, h2⟩ := h p (by simp)
    rw [setsR, sets_of r (fun q hq => h q (by simp [hq]))]
    unfold numR1
    rw [readF_itoa h1.1 h1.2, readF_itoa h2.1 h2.2]
    simp
theorem words_stepD {x : St} (h : StOk x) : stepD (wordsS x) = x := by
  cases h with
  | headers s e fs h hf hl =>
    have h1 : nmR (wordsS ⟨1, s, 0, e, fs, []⟩) 1 = s := nm_itoa rfl h
    have h2 : atD (wordsS ⟨1, s, 0, e, fs, []⟩) 2 = endW e := rfl
    have h3 : (wordsS ⟨1, s, 0, e, fs, []⟩).drop 3 = fs.flatMap fdW := rfl
    have h4 : decide (2 < (wordsS ⟨1, s, 0, e, fs, []⟩).length) = true := by simp [wordsS, restS]
    have h0 : atD (wordsS ⟨1, s, 0, e, fs, []⟩) 0 = [104, 101, 97, 100, 101, 114, 115] := rfl
    unfold stepD
    rw [h0, if_pos rfl, h1, h2, h3, h4, flds_of]
    cases e <;> simp [endW]
  | data s n e h h2 =>
    have h1 : nmR (wordsS ⟨2, s, n, e, [], []⟩) 1 = s := nm_itoa rfl h
    have h3 : nmR (wordsS ⟨2, s, n, e, [], []⟩) 2 = n := nm_itoa rfl h2
    have h4 : (wordsS ⟨2, s, n, e, [], []⟩).getLast?.getD [] = endW e := rfl
    have h0 : atD (wordsS ⟨2, s, n, e, [], []⟩) 0 = [100, 97, 116, 97] := rfl
    unfold stepD
    rw [h0, if_neg (by decide), if_pos rfl, h1, h3, h4]
    cases e <;> simp [endW]
  | set ss h hl =>
    have h0 : atD (wordsS ⟨3, 0, 0, false, [], ss⟩) 0 = [115, 101, 116] := rfl
    unfold stepD
    rw [h0, if_neg (by decide), if_neg (by decide), if_pos rfl]
    show (⟨3, 0, 0, false, [], setsR (ss.flatMap seW)⟩ : St) = _
    rw [sets_of ss h]
  | two k s n hk h h2 =>
    rcases hk with rfl | rfl
    · have h1 : nmR (wordsS ⟨4, s, n, false, [], []⟩) 1 = s := nm_itoa rfl h
      have h3 : nmR (wordsS ⟨4, s, n, false, [], []⟩) 2 = n := nm_itoa rfl h2
      have h0 : atD (wordsS ⟨4, s, n, false, [], []⟩) 0 = [103, 114, 111, 119] := rfl
      unfold stepD
      rw [h0, if_neg (by decide), if_neg (by decide), if_neg (by decide), if_pos rfl, h1, h3]
    · have h1 : nmR (wordsS ⟨5, s, n, false, [], []⟩) 1 = s := nm_itoa rfl h
      have h3 : nmR (wordsS ⟨5, s, n, false, [], []⟩) 2 = n := nm_itoa rfl h2
      have h0 : atD (wordsS ⟨5, s, n, false, [], []⟩) 0 = [99, 117, 116] := rfl
      unfold stepD
      rw [h0, if_neg (by decide), if_neg (by decide), if_neg (by decide), if_neg (by decide), if_pos rfl, h1, h3]
  | one k n hk h2 =>
    rcases hk with rfl | rfl | rfl
    · have h1 : nmR (wordsS ⟨6, 0, n, false, [], []⟩) 1 = n := nm_itoa rfl h2
      have h0 : atD (wordsS ⟨6, 0, n, false, [], []⟩) 0 = [99, 97, 108, 108] := rfl
      unfold stepD
      rw [h0, if_neg (by decide), if_neg (by decide), if_neg (by decide), if_neg (by decide), if_neg (by decide), if_pos rfl, h1]
    · have h1 : nmR (wordsS ⟨7, 0, n, false, [], []⟩) 1 = n := nm_itoa rfl h2
      have h0 : atD (wordsS ⟨7, 0, n, false, [], []⟩) 0 = [108, 101, 97, 118, 101] := rfl
      unfold stepD
      rw [h0, if_neg (by decide), if_neg (by decide), if_neg (by decide), if_neg (by decide), if_neg (by decide), if_neg (by decide), if_pos rfl, h1]
    · have h1 : nmR (wordsS ⟨8, 0, n, false, [], []⟩) 1 = n := nm_itoa rfl h2
      have h0 : atD (wordsS ⟨8, 0, n, false, [], []⟩) 0 = [119, 97, 105, 116] := rfl
      unfold stepD
      rw [h0, if_neg (by decide), if_neg (by decide), if_neg (by decide), if_neg (by decide), if_neg (by decide), if_neg (by decide), if_neg (by decide), h1]
end Go.Proofs.YtmlbomblbdbikaaGreatDoor
/-
  Scenarios: the document's line of a step without rows. (Printed by mk_scd2.py.)
-/
namespace Go.Proofs.YtmlbomblbdbikaaGreatDoor
set_option linter.unusedSimpArgs false
set_option linter.unusedVariables false
set_option linter.unusedSectionVars false
open Go.ChangeShapes Go.WideShapes Go.ChangeAt Go.RowKit Go.Deep Go.Shelf

theorem join_sp : ∀ (ws : List (List UInt8)) (h : List UInt8), Lib.join (h :: ws) [32] = h ++ ws.flatMap (fun w => 32 :: w)
  | [], h => by simp [Lib.join_one]
  | w :: r, h => by
    rw [join_two, join_sp r w]
    simp
theorem lineS_eq (x : St) : lineW (wordsS x) = headW x.kd ++ (restS x).flatMap (fun w => 32 :: w) := join_sp _ _
end Go.Proofs.YtmlbomblbdbikaaGreatDoor
/-
  Scenarios: the document's line of a step of settings.
-/
namespace Go.Proofs.YtmlbomblbdbikaaGreatDoor
set_option linter.unusedSimpArgs false
set_option linter.unusedVariables false
set_option linter.unusedSectionVars false
open Go.ChangeShapes Go.WideShapes Go.ChangeAt Go.RowKit Go.Deep Go.Shelf

def seIs (p : Int × Int) (cs : List Value) : Prop := cs = [.int .i64 p.1, .int .i64 p.2]
abbrev SlSe (w : World) (B : Nat) (a : Option Addr) (l : List (Int × Int)) : Prop := SlR w B 2 seIs a l
theorem SlR.atSe {w : World} {B : Nat} {a : Option Addr} {l : List (Int × Int)} (h : SlR w B 2 seIs a l) {k : Nat} (hk : k < l.length) :
    ∃ b off, a = some ⟨b, off, none⟩ ∧ b < B ∧ w.cell? ⟨b, off + k * 2, none⟩ = some (.int .i64 l[k].1) ∧ w.cell? ⟨b, off + k * 2 + 1, none⟩ = some (.int .i64 l[k].2) := by
  obtain ⟨b, off, cs, ha, hb, rfl, hc⟩ := h k hk
  exact ⟨b, off, ha, hb, hc 0 _ rfl, hc 1 _ rfl⟩
def spW (ws : List (List UInt8)) : List UInt8 := ws.flatMap (fun w => 32 :: w)
theorem setT_len : ∀ (ss : List (Int × Int)), (∀ p ∈ ss, goodI p.1 ∧ goodI p.2) → (spW (ss.flatMap seW)).length ≤ 42 * ss.length
  | [], _ => by simp [spW]
  | p :: r, h => by
    obtain ⟨h1, h2⟩ := h p (by simp)
    have l1 := itoa_len h1.1 h1.2
    have l2 := itoa_len h2.1 h2.2
    have ih := setT_len r (fun q hq => h q (by simp [hq]))
    unfold spW at ih ⊢
    simp only [List.flatMap_cons, seW, List.cons_append, List.nil_append, List.length_append, List.length_cons] at ih ⊢
    omega
end Go.Proofs.YtmlbomblbdbikaaGreatDoor
/-
  Settings as bytes: the program's: whether there are any.
-/
namespace Go.Proofs.YtmlbomblbdbikaaGreatDoor
set_option linter.unusedSimpArgs false
set_option linter.unusedVariables false
set_option linter.unusedSectionVars false
open Go.ChangeShapes Go.WideShapes Go.ChangeAt Go.RowKit Go.Deep Go.Shelf

theorem OwnB.lower {B C : Nat} {w : World} {v : Value} {l : List UInt8} (h : OwnB B w v l) (hC : C ≤ B) : OwnB C w v l := by
  have h0 : w.ownsRow B 5 1 v l.length (Lib.byteCells l) := h
  refine ⟨h0.1, ?_⟩
  rcases h0.2 with ⟨h1, h2⟩ | ⟨g, cap, cur, h1, hg, h3⟩
  · exact .inl ⟨h1, h2⟩
  · exact .inr ⟨g, cap, cur, h1, Nat.le_trans hC hg, h3⟩
theorem octet_Put2 (a : Option Addr) (l : List UInt8) (cap : Nat) (n : Int) (h : inR n 0 65535 = true) (hl : l.length ≤ 1000000) (w : World) (hS : SlB w w.heap.size a l) :
    Calls Tryz.prog 67 #[.slice a l.length cap, .int .i64 n, .int .i64 2] w (PutC (l.length + 2) w) := by
  rw [inR_iff] at h
  exact octet_Put 2 65535 ⟨by omega, by omega⟩ octet_top2 a l cap n h.1 h.2 hl w hS
theorem octet_Put4 (a : Option Addr) (l : List UInt8) (cap : Nat) (n : Int) (h : inR n 0 4294967295 = true) (hl : l.length ≤ 1000000) (w : World) (hS : SlB w w.heap.size a l) :
    Calls Tryz.prog 67 #[.slice a l.length cap, .int .i64 n, .int .i64 4] w (PutC (l.length + 4) w) := by
  rw [inR_iff] at h
  exact octet_Put 4 4294967295 ⟨by omega, by omega⟩ octet_top4 a l cap n h.1 h.2 hl w hS
theorem octet_No2 (b : Value) (n : Int) (h : inR n 0 65535 = false) (w : World) :
    Calls Tryz.prog 67 #[b, .int .i64 n, .int .i64 2] w fun e w' => e = .returned (.tuple #[.slice none 0 0, .int .i64 5]) ∧ ∃ j, w' = w.more j := by
  have h' : ¬ (0 ≤ n ∧ n ≤ 65535) := fun e => by rw [inR_iff.2 e] at h; cases h
  exact octet_Put_no2 b n w (by omega)
theorem octet_No4 (b : Value) (n : Int) (h : inR n 0 4294967295 = false) (w : World) :
    Calls Tryz.prog 67 #[b, .int .i64 n, .int .i64 4] w fun e w' => e = .returned (.tuple #[.slice none 0 0, .int .i64 5]) ∧ ∃ j, w' = w.more j := by
  have h' : ¬ (0 ≤ n ∧ n ≤ 4294967295) := fun e => by rw [inR_iff.2 e] at h; cases h
  exact octet_Put_no4 b n w (by omega)
def codeSe (l : List (Int × Int)) : Int := if l.all seR = true then 0 else 5
set_option maxHeartbeats 8000000 in
set_option maxRecDepth 100000 in
theorem setting_Put (a : Option Addr) (l : List (Int × Int)) (cap : Nat) (hl : l.length ≤ 100000) (w : World) (hS : SlSe w w.heap.size a l) :
    Calls Tryz.prog 50 #[.slice a l.length cap] w fun e w' => (∃ v, e = .returned (.tuple #[v, .int .i64 (codeSe l)])) ∧ ∃ j, w' = w.more j := by
  obtain ⟨R, hR⟩ : ∃ R, R = codeSe l := ⟨_, rfl⟩
  rw [← hR]
  have HR := Lib.hid hR
  have HS := Lib.hid hS
  clear hS hR
  go_enter Tryz.func50, Tryz.ntmps50
  go_wp2_with fail
  go_loopg [4, 11] l.length (fun g v i wr => ∃ (k : Nat) (m : List UInt8), k + g = l.length ∧ i = .int .i64 k ∧ OwnB w.heap.size wr v m ∧ m.length = 6 * k ∧ Below w.heap.size w wr ∧ Hid ((l.take k).all seR = true))
  case atStart => exact ⟨0, [], by omega, rfl, OwnB.nil _ _, rfl, Below.refl _ _, by show _ = _; simp⟩
  case round =>
    obtain ⟨k, m, hkg, rfl, ho, hm, hb, HA⟩ := hrel
    have HK := Lib.hid hkg
    have HM := Lib.hid hm
    clear hkg hm
    by_cases hlt : k < l.length
    · obtain ⟨b, off, ha, hbb, c0, c1⟩ := SlR.atSe HS.out hlt
      subst ha
      have d0 := (hb.cell (p := ⟨b, off + k * 2, none⟩) hbb).trans c0
      have d1 := (hb.cell (p := ⟨b, off + k * 2 + 1, none⟩) hbb).trans c1
      have hbz : b < wr.heap.size := Nat.lt_of_lt_of_le hbb hb.size
      have hkl : (k : Int) < (l.length : Int) := by omega
      have HY : Hid (seR l[k] = true → (l.take (k + 1)).all seR = true) := fun h => by
        show _ = _
        rw [List.take_succ_eq_append_getElem hlt, List.all_append, HA.out]
        simp [h]
      have HNO : Hid (seR l[k] = false → R = 5) := fun h => by
        rw [HR.out]
        unfold codeSe
        rw [if_neg]
        intro e
        rw [List.all_eq_true] at e
        have := e _ (List.getElem_mem hlt)
        rw [h] at this
        cases this
      generalize l[k] = x at c0 c1 d0 d1 HY HNO
      obtain ⟨x1, x2⟩ := x
      simp only at c0 c1 d0 d1
      have hsr : seR (x1, x2) = (inR x1 0 65535 && inR x2 0 4294967295) := rfl
      rw [hsr] at HY HNO
      obtain ⟨ra, rc, rfl, hsb⟩ := ho.read
      have HSB := Lib.hid hsb
      have HB := Lib.hid hb
      have hml : m.length ≤ 600000 := by have := HM.out; omega
      clear hsr c0 c1 hsb hb ho HA
      cases h1 : inR x1 0 65535
      · obtain rfl : R = 5 := HNO.out (by rw [h1]; rfl)
        have HQ : Hid (∀ b W, Calls Tryz.prog 67 #[b, .int .i64 x1, .int .i64 2] W fun e w' => e = .returned (.tuple #[.slice none 0 0, .int .i64 5]) ∧ ∃ j, w' = W.more j) := fun b W => octet_No2 b x1 h1 W
        clear HY HNO h1 HSB
        go_wp2_with (go_at_call 67; (with_reducible refine (HQ.out _ _).mono ?_); rintro e w' ⟨rfl, j, rfl⟩)
        go_ret2
        exact ⟨⟨_, rfl⟩, Below.junk (HB.out.trans (Below.mono (B := wr.heap.size) bel HB.out.size))⟩
      · have HQ1 : Hid (∀ W, Below wr.heap.size wr W → Calls Tryz.prog 67 #[.slice ra m.length rc, .int .i64 x1, .int .i64 2] W (PutC (m.length + 2) W)) := fun W hW =>
          octet_Put2 ra m rc x1 h1 (by omega) W ((SlR.below HSB.out hW (Nat.le_refl _)).mono hW.size (fun _ _ _ h => h))
        cases h2 : inR x2 0 4294967295
        · obtain rfl : R = 5 := HNO.out (by rw [h1, h2]; rfl)
          have HQ : Hid (∀ b W, Calls Tryz.prog 67 #[b, .int .i64 x2, .int .i64 4] W fun e w' => e = .returned (.tuple #[.slice none 0 0, .int .i64 5]) ∧ ∃ j, w' = W.more j) := fun b W => octet_No4 b x2 h2 W
          clear HY HNO h1 h2 HSB
          go_wp2_with (first | (go_at_call 67; (with_reducible refine (HQ.out _ _).mono ?_); rintro e w' ⟨rfl, j, rfl⟩) | (go_at_call 67; (with_reducible refine (HQ1.out _ bel).mono ?_); rintro e w3 ⟨v3, l3, rfl, hl3, ho3, hb3⟩; obtain ⟨a3, c3, rfl, hs3⟩ := ho3.read; have e1 := hb3.cell (p := ⟨wr.heap.size, 1, none⟩) (by simp); have HB3 : Hid (Below w.heap.size w w3) := (HB.out.alloc HB.out.size _).trans (hb3.mono (by have := HB.out.size; simp; omega)); have hz3 : wr.heap.size < w3.heap.size := (by have := hb3.size; simp at this; omega); clear hb3 ho3 hs3 hl3))
          go_ret2
          exact ⟨⟨_, rfl⟩, Below.junk (Below.moreS HB3.out _)⟩
        · have HSE : Hid ((l.take (k + 1)).all seR = true) := HY.out (by rw [h1, h2]; rfl)
          have HQ2 : Hid (∀ W a' (l' : List UInt8) c', l'.length ≤ 1000000 → SlB W W.heap.size a' l' → Calls Tryz.prog 67 #[.slice a' l'.length c', .int .i64 x2, .int .i64 4] W (PutC (l'.length + 4) W)) := fun W a' l' c' hl' hW => octet_Put4 a' l' c' x2 h2 hl' W hW
          clear HY HNO h1 h2 HSB
          go_wp2_with (first | (go_at_call 67; (with_reducible refine (HQ2.out _ _ _ _ (by have := HL3.out; omega) HS3.out).mono ?_); rintro e w4 ⟨v4, l4, rfl, hl4, ho4, hb4⟩; have HB4 := Lib.hid hb4; have HL4 := Lib.hid hl4; have HO4 := Lib.hid ho4; clear hb4 ho4 hl4) | (go_at_call 67; (with_reducible refine (HQ1.out _ bel).mono ?_); rintro e w3 ⟨v3, l3, rfl, hl3, ho3, hb3⟩; obtain ⟨a3, c3, rfl, hs3⟩ := ho3.read; have e1 := hb3.cell (p := ⟨wr.heap.size, 1, none⟩) (by simp); have HB3 : Hid (Below w.heap.size w w3) := (HB.out.alloc HB.out.size _).trans (hb3.mono (by have := HB.out.size; simp; omega)); have hz3 : wr.heap.size < w3.heap.size := (by have := hb3.size; simp at this; omega); have HL3 := Lib.hid hl3; have HS3 := Lib.hid hs3; clear hb3 ho3 hs3 hl3))
          go_roundg (l.length - (k + 1))
          case measure => have := HK.out; omega
          case rel => exact ⟨k + 1, l4, by have := HK.out; omega, by go_num, HO4.out.lower HB3.out.size, by have := HL4.out; have := HL3.out; have := HM.out; omega, HB3.out.trans (HB4.out.mono HB3.out.size), HSE⟩
    · obtain rfl : k = l.length := by have := HK.out; omega
      obtain rfl : R = 0 := by
        have h := HA.out
        rw [List.take_length] at h
        rw [HR.out]
        unfold codeSe
        rw [if_pos h]
      have hkl : ¬ (l.length : Int) < (l.length : Int) := by omega
      have HB := Lib.hid hb
      clear HR HS HA hb
      go_wp2_with fail
      go_ret2
      exact ⟨⟨_, rfl⟩, Below.junk HB.out⟩
end Go.Proofs.YtmlbomblbdbikaaGreatDoor
/-
  Settings as bytes: the document's: whether there are any; few settings.
-/
namespace Go.Proofs.YtmlbomblbdbikaaGreatDoor
set_option linter.unusedSimpArgs false
set_option linter.unusedVariables false
set_option linter.unusedSectionVars false
open Go.ChangeShapes Go.WideShapes Go.ChangeAt Go.RowKit Go.Deep Go.Shelf

theorem OwnB.keep {B C : Nat} {w w' : World} {v u : Value} {l m : List UInt8} (h : OwnB C w v l) (hu : OwnB B w u m) (hg : w.grownBy w' u.ownBlock) (hlt : ∀ k, u.ownBlock = some k → k < C) : OwnB C w' v l := by
  refine World.ownsRow.kept h hg ?_
  cases hv : v.ownBlock with
  | none => exact .inl rfl
  | some k =>
    refine .inr (fun e => ?_)
    have h1 := (World.ownsRow.lt h k hv).1
    have h2 := hlt k e.symm
    omega
/-- What a number's bytes leave, whether there are any or not. -/
def PutD (k : Nat) (ok : Bool) (w : World) (e : Ending) (w' : World) : Prop := ∃ (v : Value) (l : List UInt8), e = .returned (.tuple #[v, .int .i64 (if ok then 0 else 5)]) ∧ l.length ≤ k ∧ OwnB w.heap.size w' v l ∧ Below w.heap.size w w'
theorem refp (k : Nat) (T : Int) (h1 : 1 ≤ k) (h4 : k ≤ 4) (hT : powB k = T + 1) (n : Int) (w : World) :
    Calls Tryz.prog 64 #[.slice none 0 0, .int .i64 n, .int .i64 (k : Int)] w (PutD k (inR n 0 T) w) := by
  cases h : inR n 0 T
  · have h' : ¬ (0 ≤ n ∧ n ≤ T) := fun e => by rw [inR_iff.2 e] at h; cases h
    refine (ref01_Put_no (.slice none 0 0) n k h1 h4 w (by omega)).mono ?_
    rintro e w' ⟨rfl, j, rfl⟩
    exact ⟨_, [], rfl, Nat.zero_le _, OwnB.nil _ _, bel⟩
  · rw [inR_iff] at h
    refine (ref01_Put n k h1 h4 w h.1 (by omega)).mono ?_
    rintro e w' ⟨v, l, rfl, hl, ho, hb⟩
    exact ⟨v, l, rfl, by omega, ho, hb⟩
theorem refp2 (n : Int) (w : World) : Calls Tryz.prog 64 #[.slice none 0 0, .int .i64 n, .int .i64 2] w (PutD 2 (inR n 0 65535) w) := refp 2 65535 (by omega) (by omega) (by decide) n w
theorem refp4 (n : Int) (w : World) : Calls Tryz.prog 64 #[.slice none 0 0, .int .i64 n, .int .i64 4] w (PutD 4 (inR n 0 4294967295) w) := refp 4 4294967295 (by omega) (by omega) (by decide) n w
theorem OwnB.sl {B : Nat} {w : World} {v : Value} {l : List UInt8} (h : OwnB B w v l) : ∃ a c, v = .slice a l.length c ∧ SlB w w.heap.size a l := h.read
set_option maxHeartbeats 8000000 in
set_option maxRecDepth 100000 in
theorem ref13_Put (a : Option Addr) (l : List (Int × Int)) (cap : Nat) (hl : l.length ≤ 100000) (w : World) (hS : SlSe w w.heap.size a l) :
    Calls Tryz.prog 46 #[.slice a l.length cap] w fun e w' => (∃ v, e = .returned (.tuple #[v, .bool (l.all seR)])) ∧ ∃ j, w' = w.more j := by
  obtain ⟨R, hR⟩ : ∃ R, R = l.all seR := ⟨_, rfl⟩
  rw [← hR]
  have HR := Lib.hid hR
  have HS := Lib.hid hS
  clear hS hR
  go_enter Tryz.func46, Tryz.ntmps46
  go_wp2_with fail
  go_loopg [4, 5] l.length (fun g v i wr => ∃ (k : Nat) (m : List UInt8), k + g = l.length ∧ i = .int .i64 k ∧ OwnB w.heap.size wr v m ∧ m.length ≤ 6 * k ∧ Below w.heap.size w wr ∧ Hid ((l.take k).all seR = true))
  case atStart => exact ⟨0, [], by omega, rfl, OwnB.nil _ _, by simp, Below.refl _ _, by show _ = _; simp⟩
  case round =>
    obtain ⟨k, m, hkg, rfl, ho, hm, hb, HA⟩ := hrel
    have HK := Lib.hid hkg
    have HM := Lib.hid hm
    clear hkg hm
    by_cases hlt : k < l.length
    · obtain ⟨b, off, ha, hbb, c0, c1⟩ := SlR.atSe HS.out hlt
      subst ha
      have d0 := (hb.cell (p := ⟨b, off + k * 2, none⟩) hbb).trans c0
      have d1 := (hb.cell (p := ⟨b, off + k * 2 + 1, none⟩) hbb).trans c1
      have HC1 : Hid (∀ W, Below w.heap.size w W → W.cell? ⟨b, off + k * 2 + 1, none⟩ = some (.int .i64 l[k].2)) := fun W hW => (hW.cell (p := ⟨b, off + k * 2 + 1, none⟩) hbb).trans c1
      have hbz : b < wr.heap.size := Nat.lt_of_lt_of_le hbb hb.size
      have hkl : (k : Int) < (l.length : Int) := by omega
      have HY : Hid (seR l[k] = true → (l.take (k + 1)).all seR = true) := fun h => by
        show _ = _
        rw [List.take_succ_eq_append_getElem hlt, List.all_append, HA.out]
        simp [h]
      have HNO : Hid (seR l[k] = false → R = false) := fun h => by
        rw [HR.out, List.all_eq_false]
        exact ⟨_, List.getElem_mem hlt, by simp [h]⟩
      generalize l[k] = x at c0 c1 d0 d1 HY HNO HC1
      obtain ⟨x1, x2⟩ := x
      simp only at c0 c1 d0 d1 HC1
      have hsr : seR (x1, x2) = (inR x1 0 65535 && inR x2 0 4294967295) := rfl
      rw [hsr] at HY HNO
      have HP1 : Hid (∀ W, Calls Tryz.prog 64 #[.slice none 0 0, .int .i64 x1, .int .i64 2] W (PutD 2 (inR x1 0 65535) W)) := fun W => refp2 x1 W
      have HP2 : Hid (∀ W, Calls Tryz.prog 64 #[.slice none 0 0, .int .i64 x2, .int .i64 4] W (PutD 4 (inR x2 0 4294967295) W)) := fun W => refp4 x2 W
      have HB := Lib.hid hb
      have HO := Lib.hid ho
      generalize inR x1 0 65535 = q1 at HP1 HY HNO
      generalize inR x2 0 4294967295 = q2 at HP2 HY HNO
      clear hsr c0 c1 d1 hb ho HA
      go_wp2_with fail
      refine (HP1.out _).mono ?_
      rintro e w3 ⟨v3, l3, rfl, hl3, ho3, hb3⟩
      obtain ⟨z1, hz1⟩ : ∃ z : Int, z = (if q1 = true then 0 else 5) := ⟨_, rfl⟩
      rw [← hz1]
      have HZ1 := Lib.hid hz1
      clear hz1
      have HB3 : Hid (Below w.heap.size w w3) := HB.out.trans (hb3.mono HB.out.size)
      have d1 := HC1.out w3 HB3.out
      have hz3 : b < w3.heap.size := Nat.lt_of_lt_of_le hbz hb3.size
      have HS3 : Hid (wr.heap.size ≤ w3.heap.size) := hb3.size
      have HG3 : Hid (OwnB w.heap.size w3 u4 m) := HO.out.below hb3 (Nat.le_refl _)
      have HO3 := Lib.hid ho3
      have HL3 := Lib.hid hl3
      clear ho3 hb3 hl3 hbz d0 HP1
      go_wp2_with fail
      refine (HP2.out _).mono ?_
      rintro e w4 ⟨v4, l4, rfl, hl4, ho4, hb4⟩
      obtain ⟨z2, hz2⟩ : ∃ z : Int, z = (if q2 = true then 0 else 5) := ⟨_, rfl⟩
      rw [← hz2]
      have HZ2 := Lib.hid hz2
      clear hz2
      have HB4 : Hid (Below w.heap.size w w4) := HB3.out.trans (hb4.mono HB3.out.size)
      have HG4 : Hid (OwnB w.heap.size w4 u4 m) := HG3.out.below hb4 (Nat.le_refl _)
      have HO34 : Hid (OwnB wr.heap.size w4 v3 l3) := HO3.out.below hb4 (Nat.le_refl _)
      have HO4 : Hid (OwnB wr.heap.size w4 v4 l4) := ho4.lower HS3.out
      have HL4 := Lib.hid hl4
      have HU : Hid (∀ k, u4.ownBlock = some k → k < wr.heap.size) := fun k hk => (World.ownsRow.lt (show wr.ownsRow _ _ _ _ _ _ from HO.out) k hk).2
      clear ho4 hb4 hl4 HP2 HG3 HO3 HB3 hz3 d1 HC1
      cases q1
      · obtain rfl : R = false := HNO.out rfl
        obtain rfl : z1 = 5 := HZ1.out
        go_wp2_with fail
        go_ret2
        exact ⟨⟨_, rfl⟩, Below.junk HB4.out⟩
      obtain rfl : z1 = 0 := HZ1.out
      cases q2
      · obtain rfl : R = false := HNO.out rfl
        obtain rfl : z2 = 5 := HZ2.out
        go_wp2_with fail
        go_ret2
        exact ⟨⟨_, rfl⟩, Below.junk HB4.out⟩
      obtain rfl : z2 = 0 := HZ2.out
      have HSE : Hid ((l.take (k + 1)).all seR = true) := HY.out rfl
      obtain ⟨a3, c3, rfl, hs3⟩ := HO34.out.sl
      go_wp2_with (at_builtin; first | (refine app_bytes (.tmp 40) (.tmp 41) rfl rfl rfl HG4.out rfl rfl hs3 (by have := HM.out; have := HL3.out; omega) HB4.out.size ?_; intro v5 w5 ho5 hb5 hg5; have HO45 := Lib.hid (HO4.out.keep HG4.out hg5 HU.out); have HB5 : Hid (Below w.heap.size w w5) := HB4.out.trans hb5; have HO5 := Lib.hid ho5; clear ho5 hb5 hg5; obtain ⟨a4, c4, e4, hs4⟩ := HO45.out.sl) | (subst e4; refine app_bytes (.tmp 42) (.tmp 43) rfl rfl rfl HO5.out rfl rfl hs4 (by have := HM.out; have := HL3.out; have := HL4.out; simp only [List.length_append]; omega) HB5.out.size ?_; intro v6 w6 ho6 hb6 hg6))
      go_roundg (l.length - (k + 1))
      case measure => have := HK.out; omega
      case rel => exact ⟨k + 1, _, by have := HK.out; omega, by go_num, ho6, by have := HL4.out; have := HL3.out; have := HM.out; simp only [List.length_append]; omega, HB5.out.trans hb6, HSE⟩
    · obtain rfl : k = l.length := by have := HK.out; omega
      obtain rfl : R = true := by
        have h := HA.out
        rw [List.take_length] at h
        rw [HR.out, h]
      have hkl : ¬ (l.length : Int) < (l.length : Int) := by omega
      have HB := Lib.hid hb
      clear HR HS HA hb
      go_wp2_with fail
      go_ret2
      exact ⟨⟨_, rfl⟩, Below.junk HB.out⟩
set_option maxHeartbeats 8000000 in
set_option maxRecDepth 100000 in
theorem spec_few (a : Option Addr) (l : List (Int × Int)) (cap : Nat) (hl : l.length ≤ 100000) (w : World) (hS : SlSe w w.heap.size a l) :
    Calls Tryz.prog 49 #[.slice a l.length cap] w fun e w' => e = .returned (.bool (decide (l.length ≤ 10) && l.all seR)) ∧ ∃ j, w' = w.more j := by
  have HP := Lib.hid (setting_Put a l cap hl w hS)
  obtain ⟨z, hz⟩ : ∃ z, z = codeSe l := ⟨_, rfl⟩
  have hc : z = if l.all seR = true then 0 else 5 := hz
  rw [← hz] at HP
  clear hz
  generalize l.all seR = q at hc ⊢
  generalize l.length = n at hl HP ⊢
  clear hS
  by_cases h1 : n ≤ 10
  · have h2 : (n : Int) ≤ 10 := by omega
    rw [decide_eq_true h1]
    cases q
    all_goals
      subst hc
      simp only [Bool.false_eq_true, reduceIte] at HP
      go_enter Tryz.func49, Tryz.ntmps49
      go_wp2_with fail
      refine HP.out.mono ?_
      rintro e w' ⟨⟨v, rfl⟩, j, rfl⟩
      go_wp2_with fail
      go_ret
      exact ⟨rfl, _, rfl⟩
  · have h2 : ¬ (n : Int) ≤ 10 := by omega
    rw [decide_eq_false h1]
    clear hc
    go_enter Tryz.func49, Tryz.ntmps49
    go_wp2_with fail
    refine HP.out.mono ?_
    rintro e w' ⟨⟨v, rfl⟩, j, rfl⟩
    go_wp2_with fail
    go_ret
    exact ⟨rfl, _, rfl⟩
end Go.Proofs.YtmlbomblbdbikaaGreatDoor
/-
  Scenarios: predicates over fields; fields that are few and short.
-/
namespace Go.Proofs.YtmlbomblbdbikaaGreatDoor
set_option linter.unusedSimpArgs false
set_option linter.unusedVariables false
set_option linter.unusedSectionVars false
open Go.ChangeShapes Go.WideShapes Go.ChangeAt Go.RowKit Go.Deep Go.Shelf

set_option maxHeartbeats 4000000 in
set_option maxRecDepth 100000 in
theorem slices_IndexFuncFd (g : FuncId) (p : Fd → Bool) (eg : ∀ args w, (callFunc g args).run Tryz.prog w = .ok (.enter g args) w)
    (hp : ∀ (n v : List UInt8) (b : Bool) W, Calls Tryz.prog g #[.agg #[bstr n, bstr v, .bool b]] W fun x w' => x = .returned (.bool (p ⟨n, v, b⟩)) ∧ ∃ j, w' = W.more j)
    (a : Option Addr) (l : List Fd) (cap : Nat) (hl : l.length ≤ 1048576) (w : World) (hS : SlF w w.heap.size a l) :
    Calls Tryz.prog 87 #[.slice a l.length cap, .func (.func g) #[] #[]] w fun e w' => ∃ r : Int, e = .returned (.int .i64 r) ∧ decide (0 ≤ r) = l.any p ∧ ∃ j, w' = w.more j := by
  obtain ⟨R, hR⟩ : ∃ R, R = l.any p := ⟨_, rfl⟩
  rw [← hR]
  have HR := Lib.hid hR
  have HS := Lib.hid hS
  have HP := Lib.hid hp
  clear hS hR hp
  go_enter Tryz.func87, Tryz.ntmps87
  go_wp2_with fail
  go_loopg [8] l.length (fun g i wr => ∃ k : Nat, k + g = l.length ∧ i = .int .i64 k ∧ Below w.heap.size w wr ∧ Hid (R = (l.drop k).any p))
  case atStart => exact ⟨0, by omega, rfl, Below.refl _ _, HR⟩
  case round =>
    obtain ⟨k, hkg, rfl, hb, HU⟩ := hrel
    have HK := Lib.hid hkg
    clear hkg
    by_cases hlt : k < l.length
    · obtain ⟨b, off, ha, hbb, c0, c1, c2, _⟩ := SlR.atF HS.out hlt
      subst ha
      have d0 := (hb.cell (p := ⟨b, off + k * 3, none⟩) hbb).trans c0
      have d1 := (hb.cell (p := ⟨b, off + k * 3 + 1, none⟩) hbb).trans c1
      have d2 := (hb.cell (p := ⟨b, off + k * 3 + 2, none⟩) hbb).trans c2
      have hbz : b < wr.heap.size := Nat.lt_of_lt_of_le hbb hb.size
      have hd : l.drop k = l[k] :: l.drop (k + 1) := List.drop_eq_getElem_cons hlt
      have HD : Hid (R = (p l[k] || (l.drop (k + 1)).any p)) := by show _ = _; rw [HU.out, hd]; rfl
      have HB := Lib.hid hb
      clear hd HU c0 c1 c2 hb
      generalize l[k] = x at d0 d1 d2 HD
      obtain ⟨x0, x1, x2⟩ := x
      simp only at d0 d1 d2
      have HQ : Hid (∀ W, Calls Tryz.prog g #[.agg #[bstr x0, bstr x1, .bool x2]] W fun x w' => x = .returned (.bool (p ⟨x0, x1, x2⟩)) ∧ ∃ j, w' = W.more j) := HP.out x0 x1 x2
      generalize p ⟨x0, x1, x2⟩ = q at HQ HD
      cases q
      · have HU2 : Hid (R = (l.drop (k + 1)).any p) := HD.out
        clear HD
        go_wp2_with (go_at_fn g; refine (HQ.out _).mono ?_; rintro e w' ⟨rfl, j, rfl⟩)
        go_roundg (l.length - (k + 1))
        case measure => have := HK.out; omega
        case rel => exact ⟨k + 1, by have := HK.out; omega, by go_num, HB.out.trans (Below.mono (B := wr.heap.size) bel HB.out.size), HU2⟩
      · have hR2 : R = true := HD.out
        subst hR2
        clear HD
        go_wp2_with (go_at_fn g; refine (HQ.out _).mono ?_; rintro e w' ⟨rfl, j, rfl⟩)
        go_ret
        exact ⟨_, rfl, by simp, Below.junk (HB.out.trans (Below.mono (B := wr.heap.size) bel HB.out.size))⟩
    · have hR2 : R = false := by rw [HU.out, List.drop_of_length_le (by omega)]; rfl
      subst hR2
      clear HU
      go_wp2_with fail
      go_ret
      exact ⟨_, rfl, by decide, Below.junk hb⟩
set_option maxHeartbeats 4000000 in
set_option maxRecDepth 100000 in
theorem slices_ContainsFuncFd (g : FuncId) (p : Fd → Bool) (eg : ∀ args w, (callFunc g args).run Tryz.prog w = .ok (.enter g args) w)
    (hp : ∀ (n v : List UInt8) (b : Bool) W, Calls Tryz.prog g #[.agg #[bstr n, bstr v, .bool b]] W fun x w' => x = .returned (.bool (p ⟨n, v, b⟩)) ∧ ∃ j, w' = W.more j)
    (a : Option Addr) (l : List Fd) (cap : Nat) (hl : l.length ≤ 1048576) (w : World) (hS : SlF w w.heap.size a l) :
    Calls Tryz.prog 65 #[.slice a l.length cap, .func (.func g) #[] #[]] w fun e w' => e = .returned (.bool (l.any p)) ∧ ∃ j, w' = w.more j := by
  have HC := Lib.hid (slices_IndexFuncFd g p eg hp a l cap hl w hS)
  generalize l.any p = R at HC ⊢
  clear hp hS
  go_enter Tryz.func65, Tryz.ntmps65
  go_wp2_with fail
  refine HC.out.mono ?_
  rintro e w' ⟨r, rfl, hr, j, rfl⟩
  have HR := Lib.hid hr
  clear hr
  go_wp2_with fail
  go_ret
  exact ⟨by rw [← HR.out]; rfl, _, rfl⟩
set_option maxRecDepth 100000 in
theorem spec_short1 (n v : List UInt8) (b : Bool) (w : World) : Calls Tryz.prog 66 #[.agg #[bstr n, bstr v, .bool b]] w fun x w' => x = .returned (.bool (bigF 200 ⟨n, v, b⟩)) ∧ ∃ j, w' = w.more j := by
  unfold bigF
  simp only
  by_cases h1 : ((200 : Nat) : Int) < (n.length : Int)
  · have h1' : (200 : Int) < (n.length : Int) := h1
    rw [decide_eq_true h1]
    go_enter Tryz.func66, Tryz.ntmps66
    go_wp2_with fail
    go_ret
    exact ⟨rfl, Below.junk bel⟩
  · have h1' : ¬ (200 : Int) < (n.length : Int) := h1
    by_cases h2 : ((200 : Nat) : Int) < (v.length : Int)
    · have h2' : (200 : Int) < (v.length : Int) := h2
      rw [decide_eq_false h1, decide_eq_true h2]
      go_enter Tryz.func66, Tryz.ntmps66
      go_wp2_with fail
      go_ret
      exact ⟨rfl, Below.junk bel⟩
    · have h2' : ¬ (200 : Int) < (v.length : Int) := h2
      rw [decide_eq_false h1, decide_eq_false h2]
      go_enter Tryz.func66, Tryz.ntmps66
      go_wp2_with fail
      go_ret
      exact ⟨rfl, Below.junk bel⟩
set_option maxRecDepth 100000 in
theorem spec_short (a : Option Addr) (l : List Fd) (cap : Nat) (hl : l.length ≤ 1000000) (w : World) (hS : SlF w w.heap.size a l) :
    Calls Tryz.prog 47 #[.slice a l.length cap] w fun e w' => e = .returned (.bool (!largeF l 20 200)) ∧ ∃ j, w' = w.more j := by
  have HC : Hid (Calls Tryz.prog 65 #[.slice a l.length cap, .func (.func 66) #[] #[]] w fun e w' => e = .returned (.bool (l.any (bigF 200))) ∧ ∃ j, w' = w.more j) :=
    slices_ContainsFuncFd 66 (bigF 200) (enters_of Tryz.func66 (by kernel_rfl) rfl) spec_short1 a l cap (by omega) w hS
  unfold largeF
  generalize l.any (bigF 200) = R at HC ⊢
  clear hS
  generalize l.length = n at hl HC ⊢
  by_cases h1 : ((20 : Nat) : Int) < (n : Int)
  · have h2 : ¬ (n : Int) ≤ 20 := by omega
    rw [decide_eq_true h1]
    clear HC
    go_enter Tryz.func47, Tryz.ntmps47
    go_wp2_with fail
    go_ret
    exact ⟨rfl, Below.junk bel⟩
  · have h2 : (n : Int) ≤ 20 := by omega
    rw [decide_eq_false h1]
    go_enter Tryz.func47, Tryz.ntmps47
    go_wp2_with fail
    refine HC.out.mono ?_
    rintro e w' ⟨rfl, j, rfl⟩
    cases R
    all_goals
      go_wp2_with fail
      go_ret
      exact ⟨rfl, _, rfl⟩
end Go.Proofs.YtmlbomblbdbikaaGreatDoor
