/-
  Parts of the proof, one behind the other: contracts of the program and plain laws; no condition of their own.
-/
import Derived.Test.YtmlbomblbdbikaaGreatDoorMl
import Derived.Test.YtmlbomblbdbikaaGreatDoorInjP
import Derived.Test.YtmlbomblbdbikaaGreatDoorMa
import Derived.Test.YtmlbomblbdbikaaGreatDoorMb
import Derived.Deep.LoopGhost
import Derived.BigGuardPart
import Derived.Test.YtmlbomblbdbikaaGreatDoorMh
import Derived.Test.YtmlbomblbdbikaaGreatDoorMe
import Derived.Test.YtmlbomblbdbikaaGreatDoorStp3
import Derived.Test.YtmlbomblbdbikaaGreatDoorIfE
/-
  Scenarios: plain: which may be, their texts, and texts read, both roads: they are one.
-/
namespace Go.Proofs.YtmlbomblbdbikaaGreatDoor
set_option linter.unusedSimpArgs false
set_option linter.unusedVariables false
set_option linter.unusedSectionVars false
open Go.ChangeShapes Go.WideShapes Go.ChangeAt Go.RowKit Go.Deep

structure Scn where
  sd : Int
  xs : List St
  wk : Int
  ws : Int
def zScn : Scn := ⟨0, [], 0, 0⟩
def waitS (x : St) : Int := if x.kd = 8 then x.nn else 0
def waitsS (xs : List St) : Int := (xs.map waitS).sum
def rightScn (s : Scn) : Bool :=
  decide (s.xs.length ≤ 20) && ((decide (s.sd = 0) || decide (s.sd = 1)) && (s.xs.all stR && (decide (waitsS s.xs ≤ 40) && (inR s.wk 1 26 && inR s.ws 1 topS))))
def lineS (x : St) : List UInt8 := lineW (wordsS x)
def firstS (n : Int) : List UInt8 := lineW [[115, 99, 101, 110, 97, 114, 105, 111], sideF n]
def lastS (k n : Int) : List UInt8 := lineW [[119, 114, 111, 110, 103], injN k, Lib.itoa n]
def linesScn (s : Scn) : List (List UInt8) := firstS s.sd :: (s.xs.map lineS ++ [lastS s.wk s.ws])
def textScn (s : Scn) : List UInt8 := flatL (linesScn s)
theorem quoteF_ok (l : List UInt8) : okW (quoteF l) = true := by
  have hq : ∀ c : UInt8, ∀ x ∈ quB c, 33 ≤ x.toNat := by
    have : ∀ n : Fin 256, (quB (UInt8.ofNat n.val)).all (fun x => decide (33 ≤ x.toNat)) = true := by decide +kernel
    intro c
    refine all_bytes (P := fun c => ∀ x ∈ quB c, 33 ≤ x.toNat) (fun n x hx => ?_) c
    exact of_decide_eq_true (List.all_eq_true.1 (this n) x hx)
  unfold quoteF
  split
  · decide
  · rename_i h
    refine okW_of ?_ ?_
    · obtain ⟨c, r, rfl⟩ := List.exists_cons_of_ne_nil h
      rw [List.flatMap_cons]
      unfold quB
      split <;> simp
    · intro x hx
      obtain ⟨c, _, hc⟩ := List.mem_flatMap.1 hx
      exact hq c x hc
theorem words_okS {x : St} (h : StOk x) : (wordsS x).all okW = true := by
  have he : ∀ b, okW (endW b) = true := by decide
  have hn : ∀ b, okW (nevW b) = true := by decide
  cases h with
  | headers s e fs h hf hl =>
    show ([104, 101, 97, 100, 101, 114, 115] :: Lib.itoa s :: endW e :: fs.flatMap fdW).all okW = true
    rw [List.all_eq_true]
    intro w hw
    simp only [List.mem_cons, List.mem_flatMap] at hw
    rcases hw with rfl | rfl | rfl | ⟨f, _, hw⟩
    · decide
    · exact okW_itoa _
    · exact he _
    · unfold fdW at hw
      simp only [List.mem_cons, List.not_mem_nil, or_false] at hw
      rcases hw with rfl | rfl | rfl
      · exact hn _
      · exact quoteF_ok _
      · exact quoteF_ok _
  | data s n e h h2 =>
    show ([100, 97, 116, 97] :: [Lib.itoa s, Lib.itoa n, endW e]).all okW = true
    simp only [List.all_cons, okW_itoa, he, List.all_nil, Bool.and_true]; decide
  | set ss h hl =>
    show ([115, 101, 116] :: ss.flatMap seW).all okW = true
    rw [List.all_eq_true]
    intro w hw
    simp only [List.mem_cons, List.mem_flatMap] at hw
    rcases hw with rfl | ⟨p, _, hw⟩
    · decide
    · unfold seW at hw
      simp only [List.mem_cons, List.not_mem_nil, or_false] at hw
      rcases hw with rfl | rfl <;> exact okW_itoa _
  | two k s n hk h h2 =>
    rcases hk with rfl | rfl
    · show ([103, 114, 111, 119] :: [Lib.itoa s, Lib.itoa n]).all okW = true
      simp only [List.all_cons, okW_itoa, List.all_nil, Bool.and_true]; decide
    · show ([99, 117, 116] :: [Lib.itoa s, Lib.itoa n]).all okW = true
      simp only [List.all_cons, okW_itoa, List.all_nil, Bool.and_true]; decide
  | one k n hk h2 =>
    rcases hk with rfl | rfl | rfl
    · show ([99, 97, 108, 108] :: [Lib.itoa n]).all okW = true
      simp only [List.all_cons, okW_itoa, List.all_nil, Bool.and_true]; decide
    · show ([108, 101, 97, 118, 101] :: [Lib.itoa n]).all okW = true
      simp only [List.all_cons, okW_itoa, List.all_nil, Bool.and_true]; decide
    · show ([119, 97, 105, 116] :: [Lib.itoa n]).all okW = true
      simp only [List.all_cons, okW_itoa, List.all_nil, Bool.and_true]; decide
theorem injN_ok {k : Int} (h : 1 ≤ k ∧ k ≤ 26) : okW (injN k) = true := by
  have : ∀ i : Fin 26, okW (injW.getD i.val []) = true := by decide +kernel
  unfold injN
  rw [if_neg (by omega)]
  exact this ⟨(k - 1).toNat, by omega⟩
structure ScnOk (s : Scn) : Prop where
  sd : s.sd = 0 ∨ s.sd = 1
  xs : ∀ x ∈ s.xs, StOk x
  wk : 1 ≤ s.wk ∧ s.wk ≤ 26
  ws : goodI s.ws
theorem scn_ok {s : Scn} (h : rightScn s = true) : ScnOk s := by
  unfold rightScn topS at h
  simp only [Bool.and_eq_true, Bool.or_eq_true, decide_eq_true_eq, List.all_eq_true] at h
  obtain ⟨_, h1, h2, _, h3, h4⟩ := h
  exact ⟨h1, fun x hx => stR_ok (h2 x hx), inR_iff.1 h3, good_in h4 (by omega) (by omega)⟩
theorem first_ok {s : Scn} (h : ScnOk s) : [[115, 99, 101, 110, 97, 114, 105, 111], sideF s.sd].all okW = true := by
  rcases h.sd with e | e <;> rw [e] <;> decide
theorem last_ok {s : Scn} (h : ScnOk s) : [[119, 114, 111, 110, 103], injN s.wk, Lib.itoa s.ws].all okW = true := by
  simp only [List.all_cons, okW_itoa, injN_ok h.wk, List.all_nil, Bool.and_true]; decide
theorem lines_scn {s : Scn} (h : ScnOk s) : linesF (textScn s) = (linesScn s, true) := by
  refine lines_flat ?_
  intro t ht
  unfold linesScn at ht
  simp only [List.mem_cons, List.mem_append, List.mem_map, List.not_mem_nil, or_false] at ht
  rcases ht with rfl | ⟨x, hx, rfl⟩ | rfl
  · exact line_nl (first_ok h)
  · exact line_nl (words_okS (h.xs x hx))
  · exact line_nl (last_ok h)

/-! The program's road back. -/
def sideP (s : List UInt8) : Int × Bool := if s = firstS 0 then (0, true) else if s = firstS 1 then (1, true) else (0, false)
def lineP (s : List UInt8) : Option St := if (stepP (splitF s).1 (!(splitF s).2)).2.2 = false ∧ (stepP (splitF s).1 (!(splitF s).2)).2.1 = [] then some (stepP (splitF s).1 (!(splitF s).2)).1 else none
def stepsP : List (List UInt8) → Option (List St)
  | [] => some []
  | s :: r => match lineP s with
    | none => none
    | some x => (stepsP r).map (x :: ·)
def wrongP (s : List UInt8) : Int × Int × Bool :=
  let h := rdW (splitF s).1 (!(splitF s).2)
  let k := rdW h.2.1 h.2.2
  let n := rdN k.2.1 k.2.2
  (idxX injW k.1 + 1, n.1, (h.1 == [119, 114, 111, 110, 103]) && (decide (0 ≤ idxX injW k.1) && (!n.2.2 && n.2.1.isEmpty)))
def midL (L : List (List UInt8)) : List (List UInt8) := (L.drop 1).take (L.length - 2)
def closeP (L : List (List UInt8)) : Option (List St) → Scn × Bool
  | none => (zScn, false)
  | some xs =>
    let s : Scn := ⟨(sideP (atD L 0)).1, xs, (wrongP (atD L (L.length - 1))).1, (wrongP (atD L (L.length - 1))).2.1⟩
    if ((sideP (atD L 0)).2 && ((wrongP (atD L (L.length - 1))).2.2 && rightScn s)) = true then (s, true) else (zScn, false)
def readScn (t : List UInt8) : Scn × Bool :=
  if (linesF t).2 = false ∨ (linesF t).1.length < 2 then (zScn, false) else closeP (linesF t).1 (stepsP (midL (linesF t).1))
theorem list_ends : ∀ {L : List (List UInt8)}, 2 ≤ L.length → L = atD L 0 :: (midL L ++ [atD L (L.length - 1)])
  | a :: r, h => by
    have hr : r ≠ [] := by intro e; subst e; simp at h
    obtain ⟨m, y, rfl⟩ : ∃ m y, r = m ++ [y] := ⟨r.dropLast, r.getLast hr, (List.dropLast_concat_getLast hr).symm⟩
    have e1 : midL (a :: (m ++ [y])) = m := by
      unfold midL
      simp
    have e2 : atD (a :: (m ++ [y])) ((a :: (m ++ [y])).length - 1) = y := by
      unfold atD
      simp
    rw [e1, e2]
    rfl
theorem side_yes {s : List UInt8} (h : (sideP s).2 = true) : s = firstS (sideP s).1 := by
  unfold sideP at h ⊢
  split
  · assumption
  · rename_i h0
    rw [if_neg h0] at h
    split
    · assumption
    · rename_i h1; rw [if_neg h1] at h; cases h
theorem line_yes {s : List UInt8} {x : St} (h : lineP s = some x) : lineS x = s := by
  unfold lineP at h
  split at h
  · rename_i hc
    obtain ⟨h1, h2⟩ := step_words hc.2 hc.1
    injection h with h
    rw [← h]
    unfold lineS lineW
    rw [h2]
    exact split_back (by simpa using h1)
  · cases h
theorem steps_yes : ∀ {l : List (List UInt8)} {xs : List St}, stepsP l = some xs → xs.map lineS = l
  | [], xs, h => by simp only [stepsP] at h; injection h with h; subst h; rfl
  | s :: r, xs, h => by
    unfold stepsP at h
    split at h
    · cases h
    · rename_i x hx
      obtain ⟨m, h1, rfl⟩ := Option.map_eq_some_iff.1 h
      rw [List.map_cons, line_yes hx, steps_yes h1]
theorem inj_back {w : List UInt8} (h : 0 ≤ idxX injW w) : injN (idxX injW w + 1) = w := by
  have hb := seekX_lo w injW 0
  have hlen : injW.length = 26 := rfl
  rw [hlen] at hb
  have hb2 : 0 ≤ idxX injW w ∧ idxX injW w < 26 := by unfold idxX at h ⊢; omega
  obtain ⟨k, hk, e⟩ : ∃ k : Nat, k < 26 ∧ idxX injW w = k := ⟨(idxX injW w).toNat, by omega, by omega⟩
  rw [e]
  unfold injN
  rw [if_neg (by omega), show ((k : Int) + 1 - 1).toNat = k by omega]
  exact (inj_eq w k hk).2 e
theorem wrong_yes {s : List UInt8} (h : (wrongP s).2.2 = true) : s = lastS (wrongP s).1 (wrongP s).2.1 := by
  unfold wrongP at h ⊢
  simp only [Bool.and_eq_true, decide_eq_true_eq, Bool.not_eq_true', List.isEmpty_iff, beq_iff_eq] at h ⊢
  have hs : (splitF s).2 = true → Lib.join (splitF s).1 [32] = s := split_back
  have y1 := @rdW_yes (splitF s).1 (!(splitF s).2)
  generalize rdW (splitF s).1 (!(splitF s).2) = H at h y1 ⊢
  have y2 := @rdW_yes H.2.1 H.2.2
  generalize rdW H.2.1 H.2.2 = K at h y2 ⊢
  have y3 := @rdN_yes K.2.1 K.2.2
  generalize rdN K.2.1 K.2.2 = N at h y3 ⊢
  obtain ⟨h1, h2, h3, h4⟩ := h
  obtain ⟨g3, e3⟩ := y3 h3
  obtain ⟨g2, e2⟩ := y2 g3
  obtain ⟨g1, e1⟩ := y1 g2
  have E : (splitF s).1 = [[119, 114, 111, 110, 103], K.1, Lib.itoa N.1] := by rw [e1, h1, e2, e3, h4]
  have hs := hs (by simpa using g1)
  rw [E] at hs
  unfold lastS lineW
  rw [inj_back h2]
  exact hs.symm
theorem readScn_yes {t : List UInt8} (h : (readScn t).2 = true) : rightScn (readScn t).1 = true ∧ textScn (readScn t).1 = t := by
  unfold readScn at h ⊢
  split at h
  · cases h
  · rename_i hc
    rw [if_neg hc]
    have hb := flat_back (s := t) (by cases hq : (linesF t).2 with | true => rfl | false => exact absurd (Or.inl hq) hc)
    have hl : 2 ≤ (linesF t).1.length := by
      rcases Nat.lt_or_ge (linesF t).1.length 2 with h | h
      · exact absurd (Or.inr h) hc
      · exact h
    generalize (linesF t).1 = L at h hb hl ⊢
    cases hm : stepsP (midL L) with
    | none => rw [hm] at h; cases h
    | some xs =>
      rw [hm] at h
      simp only [closeP] at h ⊢
      split at h
      · rename_i hx
        rw [if_pos hx]
        simp only [Bool.and_eq_true] at hx
        refine ⟨hx.2.2, ?_⟩
        unfold textScn linesScn
        simp only
        rw [← side_yes hx.1, ← wrong_yes hx.2.1, steps_yes hm, ← list_ends hl]
        exact hb
      · cases h
theorem readScn_no {t : List UInt8} (h : (readScn t).2 = false) : readScn t = (zScn, false) := by
  unfold readScn at h ⊢
  split
  · rfl
  · rename_i hc
    rw [if_neg hc] at h
    generalize stepsP _ = o at h ⊢
    cases o with
    | none => rfl
    | some xs =>
      simp only [closeP] at h ⊢
      split
      · rename_i hx; rw [if_pos hx] at h; cases h
      · rfl
end Go.Proofs.YtmlbomblbdbikaaGreatDoor
/-
  Words: the document's digits, word, and back.
-/
namespace Go.Proofs.YtmlbomblbdbikaaGreatDoor
set_option linter.unusedSimpArgs false
set_option linter.unusedVariables false
set_option linter.unusedSectionVars false
open Go.ChangeShapes Go.WideShapes Go.ChangeAt Go.RowKit Go.Deep Go.Shelf

theorem hex_cut {n : Nat} (h : n < 16) : (hexD.drop n).take 1 = [hexD.getD n 0] := by
  have : ∀ m : Fin 16, (hexD.drop m.val).take 1 = [hexD.getD m.val 0] := by decide
  exact this ⟨n, h⟩
def fndFrom : List UInt8 → UInt8 → Nat → Int
  | [], _, _ => -1
  | b :: l, c, k => if (b == c) = true then (k : Int) else fndFrom l c (k + 1)
theorem fnd_index : ∀ (l : List UInt8) (c : UInt8) (k : Nat), fndFrom l c k = if Lib.indexByte l c = -1 then -1 else Lib.indexByte l c + k
  | [], _, _ => rfl
  | b :: l, c, k => by
    have ih := fnd_index l c (k + 1)
    have hge := Lib.indexByte_ge l c
    unfold fndFrom Lib.indexByte
    cases h : (b == c)
    · simp only [Bool.false_eq_true, if_false]
      rw [ih]
      by_cases h1 : Lib.indexByte l c = -1
      · simp [h1]
      · have h1' : (Lib.indexByte l c == -1) = false := by simpa using h1
        rw [if_neg h1]
        simp only [h1', Bool.false_eq_true, if_false]
        rw [if_neg (by omega)]
        omega
    · simp
theorem hexI_fnd (c : UInt8) : hexI c = fndFrom hexD c 0 := by
  have := fnd_index hexD c 0
  have hge := Lib.indexByte_ge hexD c
  unfold hexI
  rw [this]
  split <;> omega
end Go.Proofs.YtmlbomblbdbikaaGreatDoor
/-
  Words: the document's word, and back.
-/
namespace Go.Proofs.YtmlbomblbdbikaaGreatDoor
set_option linter.unusedSimpArgs false
set_option linter.unusedVariables false
set_option linter.unusedSectionVars false
open Go.ChangeShapes Go.WideShapes Go.ChangeAt Go.RowKit Go.Deep Go.Shelf

theorem qu_len1 (c : UInt8) : (quB c).length ≤ 3 := by unfold quB pairB; split <;> simp
theorem qu_len (l : List UInt8) : ∀ k, ((l.take k).flatMap quB).length ≤ 3 * k := by
  induction l with
  | nil => intro k; simp
  | cons c r ih =>
    intro k
    cases k with
    | zero => simp
    | succ k =>
      rw [List.take_succ_cons, List.flatMap_cons, List.length_append]
      have := ih k
      have := qu_len1 c
      omega
theorem plB_tests (c : UInt8) : plB c = !(decide ((c.toNat : Int) < 33) || decide (126 < (c.toNat : Int)) || (c.toNat : Int) == 37) := by
  have h37 : (c == 37) = ((c.toNat : Int) == 37) := by
    rw [Bool.eq_iff_iff, beq_iff_eq, beq_iff_eq, ← UInt8.toNat_inj]
    show c.toNat = 37 ↔ _
    omega
  unfold plB
  rw [h37]
  have e1 : decide (32 < c.toNat) = !decide ((c.toNat : Int) < 33) := by rw [Bool.eq_iff_iff]; simp; omega
  have e2 : decide (c.toNat < 127) = !decide (126 < (c.toNat : Int)) := by rw [Bool.eq_iff_iff]; simp; omega
  rw [e1, e2]
  cases decide ((c.toNat : Int) < 33) <;> cases decide (126 < (c.toNat : Int)) <;> cases ((c.toNat : Int) == 37) <;> rfl

theorem unqR_esc {c : UInt8} {r : List UInt8} (h : (c == 37) = true) : unqR (c :: r) = match r with
    | a :: b :: r' => if 0 ≤ hexI a ∧ 0 ≤ hexI b then (unqR r').map (byteOf a b :: ·) else none
    | _ => none := by
  match r with
  | [] => simp only [unqR, h]; rfl
  | [d] => simp only [unqR, h]; rfl
  | a :: b :: r' => simp only [unqR, h]; rfl
def unrE (w : List UInt8) : Option (List UInt8) → List UInt8 × Bool
  | some o => if quoteF o = w then (o, true) else ([], false)
  | none => ([], false)
def unrB (acc : List UInt8) (x : Option (List UInt8)) : Option (List UInt8) := x.map (acc ++ ·)
theorem unrB_nil (acc : List UInt8) : unrB acc (unqR []) = some acc := by simp [unrB, unqR]
theorem unrB_map (acc : List UInt8) (c : UInt8) (x : Option (List UInt8)) : unrB acc (x.map (c :: ·)) = unrB (acc ++ [c]) x := by cases x <;> simp [unrB]
theorem byte_sum {p q : Int} {b : UInt8} (p0 : 0 ≤ p) (p1 : p ≤ 15) (q0 : 0 ≤ q) (q1 : q ≤ 15) (h : b.toNat = 16 * p.toNat + q.toNat) : (16 * p + q) % 256 = (b.toNat : Int) := by omega
end Go.Proofs.YtmlbomblbdbikaaGreatDoor
/-
  Scenarios: the document's line of a step of fields.
-/
namespace Go.Proofs.YtmlbomblbdbikaaGreatDoor
set_option linter.unusedSimpArgs false
set_option linter.unusedVariables false
set_option linter.unusedSectionVars false
open Go.ChangeShapes Go.WideShapes Go.ChangeAt Go.RowKit Go.Deep Go.Shelf

abbrev FdT2 : TypeId := 65
theorem quB_le (c : UInt8) : (quB c).length ≤ 3 := by unfold quB pairB; split <;> simp
theorem quoteF_le (l : List UInt8) : (quoteF l).length ≤ 3 * l.length + 1 := by
  unfold quoteF
  split
  · simp
  · have : ∀ m : List UInt8, (m.flatMap quB).length ≤ 3 * m.length := by
      intro m
      induction m with
      | nil => simp
      | cons c r ih => have := quB_le c; simp only [List.flatMap_cons, List.length_append, List.length_cons]; omega
    have := this l
    omega
theorem fdT_len : ∀ (fs : List Fd), (∀ f ∈ fs, f.name.length ≤ 1000 ∧ f.value.length ≤ 1000) → (spW (fs.flatMap fdW)).length ≤ 7000 * fs.length
  | [], _ => by simp [spW]
  | f :: r, h => by
    obtain ⟨h1, h2⟩ := h f (by simp)
    have l1 := quoteF_le f.name
    have l2 := quoteF_le f.value
    have l3 : (nevW f.never).length = 1 := by cases f.never <;> rfl
    have ih := fdT_len r (fun q hq => h q (by simp [hq]))
    unfold spW at ih ⊢
    simp only [List.flatMap_cons, fdW, List.cons_append, List.nil_append, List.length_append, List.length_cons] at ih ⊢
    omega
end Go.Proofs.YtmlbomblbdbikaaGreatDoor
/-
  Scenarios: the document's line of any step that may be.
-/
namespace Go.Proofs.YtmlbomblbdbikaaGreatDoor
set_option linter.unusedSimpArgs false
set_option linter.unusedVariables false
set_option linter.unusedSectionVars false
open Go.ChangeShapes Go.WideShapes Go.ChangeAt Go.RowKit Go.Deep Go.Shelf

/-- A step's cells in a row. -/
def stIs (W : World) (x : St) (cs : List Value) : Prop :=
  ∃ fa fc sa sc, cs = [.int .i64 x.kd, .int .i64 x.sm, .int .i64 x.nn, .bool x.fin, .slice fa x.fs.length fc, .slice sa x.ss.length sc] ∧ SlF W W.heap.size fa x.fs ∧ SlSe W W.heap.size sa x.ss
abbrev SlSt (W w : World) (B : Nat) (a : Option Addr) (l : List St) : Prop := SlR w B 6 (stIs W) a l
theorem SlR.atSt {W w : World} {B : Nat} {a : Option Addr} {l : List St} (h : SlR w B 6 (stIs W) a l) {k : Nat} (hk : k < l.length) :
    ∃ b off fa fc sa sc, a = some ⟨b, off, none⟩ ∧ b < B ∧ w.cell? ⟨b, off + k * 6, none⟩ = some (.int .i64 l[k].kd) ∧ w.cell? ⟨b, off + k * 6 + 1, none⟩ = some (.int .i64 l[k].sm) ∧ w.cell? ⟨b, off + k * 6 + 2, none⟩ = some (.int .i64 l[k].nn) ∧
      w.cell? ⟨b, off + k * 6 + 3, none⟩ = some (.bool l[k].fin) ∧ w.cell? ⟨b, off + k * 6 + 4, none⟩ = some (.slice fa l[k].fs.length fc) ∧ w.cell? ⟨b, off + k * 6 + 5, none⟩ = some (.slice sa l[k].ss.length sc) ∧ SlF W W.heap.size fa l[k].fs ∧ SlSe W W.heap.size sa l[k].ss := by
  obtain ⟨b, off, cs, ha, hb, ⟨fa, fc, sa, sc, rfl, h1, h2⟩, hc⟩ := h k hk
  exact ⟨b, off, fa, fc, sa, sc, ha, hb, hc 0 _ rfl, hc 1 _ rfl, hc 2 _ rfl, hc 3 _ rfl, hc 4 _ rfl, hc 5 _ rfl, h1, h2⟩
end Go.Proofs.YtmlbomblbdbikaaGreatDoor
/-
  What is done wrong: the names of its kinds.
-/
namespace Go.Proofs.YtmlbomblbdbikaaGreatDoor
set_option linter.unusedSimpArgs false
set_option linter.unusedVariables false
set_option linter.unusedSectionVars false
open Go.ChangeShapes Go.WideShapes Go.ChangeAt Go.RowKit Go.Deep Go.Shelf

set_option maxHeartbeats 4000000 in
set_option maxRecDepth 100000 in
theorem inject_Name (n : Int) (m : Int) (w : World) (hM : w.cell? MaxA = some (.int .i64 m)) : Calls Tryz.prog 12 #[.int .i64 n] w fun e w' => e = .returned (bstr (injN n)) ∧ ∃ j, w' = w.more j := by
  by_cases h : n < 1 ∨ 26 < n
  · have hr : injN n = [] := by unfold injN; rw [if_pos h]
    rw [hr]
    rcases h with h | h
    · go_enter Tryz.func12, Tryz.ntmps12
      go_wp2_with fail
      go_ret
      exact ⟨rfl, Below.junk bel⟩
    · have h1 : ¬ n < 1 := by omega
      go_enter Tryz.func12, Tryz.ntmps12
      go_wp2_with fail
      go_ret
      exact ⟨rfl, Below.junk bel⟩
  · obtain ⟨k, rfl⟩ : ∃ k : Nat, n = (k : Int) + 1 := ⟨(n - 1).toNat, by omega⟩
    have hk : k < injW.length := by show k < 26; omega
    have hr : injN ((k : Int) + 1) = injW[k] := by unfold injN; rw [if_neg h, inj_at k hk]; congr 1; omega
    have HS := Lib.hid (split_words injT 32 injW inj_cut m w (by decide) hM)
    have hlen : injW.length = 26 := rfl
    rw [hlen] at HS
    rw [hr]
    have h1 : ¬ (k : Int) + 1 < 1 := by omega
    have h2 : ¬ 26 < (k : Int) + 1 := by omega
    have hk26 : k < 26 := hk
    have hw1 : IntKind.i64.wrap ((k : Int) + 1 - 1) = k := by rw [show (k : Int) + 1 - 1 = k by omega]; exact IntWalk.i64_in _ (by omega)
    have hw2 : IntKind.i64.wrap (k : Int) = k := IntWalk.i64_in _ (by omega)
    generalize hT : injW[k] = T
    clear hr h hM hlen
    go_enter Tryz.func12, Tryz.ntmps12
    go_wp2_with fail
    refine HS.out.mono ?_
    rintro e w' ⟨rfl, j, rfl, hx⟩
    obtain ⟨hg, c⟩ := SlX_zero hx hk
    have c0 : (w.more j).cell? ⟨w.heap.size, k, none⟩ = some (bstr T) := by rw [← hT]; exact c
    clear hx c
    go_wp2_with fail
    go_ret
    exact ⟨rfl, Below.junk bel⟩

def NamesI (n : Nat) (f : Nat → List UInt8) (w : World) (e : Ending) (w' : World) : Prop := ∃ g j, e = .returned (.slice (some ⟨g, 0, none⟩) n n) ∧ (∀ k, k < n → w'.cell? ⟨g, k, none⟩ = some (bstr (f k))) ∧ g < w'.heap.size ∧ w' = w.more j
theorem names_moreI {n : Nat} {f : Nat → List UInt8} {w : World} {t : TypeId} {cs : Array Value} (h : ∀ k, k < n → cs[k]? = some (bstr (f k))) : NamesI n f w (.returned (.slice (some ⟨w.heap.size, 0, none⟩) n n)) (w.alloc (.cells cs t)) := by
  obtain ⟨j, hj⟩ : ∃ j, w.alloc (.cells cs t) = w.more j := Below.junk bel
  exact ⟨_, j, rfl, fun k hk => (Blk.new w t cs).cell k |>.trans (h k hk), by simp, hj⟩
theorem inj_lit : ∀ m : Fin 26, injW[m.val]? = some (injW.getD m.val []) := by decide +kernel
end Go.Proofs.YtmlbomblbdbikaaGreatDoor
/-
  Scenarios: the document's text.
-/
namespace Go.Proofs.YtmlbomblbdbikaaGreatDoor
set_option linter.unusedSimpArgs false
set_option linter.unusedVariables false
set_option linter.unusedSectionVars false
open Go.ChangeShapes Go.WideShapes Go.ChangeAt Go.RowKit Go.Deep Go.Shelf

theorem headW_len (k : Int) : (headW k).length ≤ 7 := by unfold headW; repeat' split
                                                         all_goals decide
theorem lineS_len {x : St} (h : StOk x) : (lineS x).length ≤ 150000 := by
  have he := lineS_eq x
  unfold lineS
  rw [he]
  have hh := headW_len x.kd
  have h4 : ∀ b, (endW b).length ≤ 4 := by decide
  cases h with
  | headers s e fs h hf hl =>
    have hb := fdT_len fs (fun f hm => by
      have := hf f hm
      simp only [fdR, Bool.and_eq_true, decide_eq_true_eq] at this
      omega)
    have l1 := itoa_len h.1 h.2
    have l2 := h4 e
    unfold spW at hb
    simp only [restS, reduceIte, List.flatMap_cons, List.length_append, List.length_cons] at hh ⊢
    omega
  | data s n e h h2 =>
    have l1 := itoa_len h.1 h.2
    have l2 := itoa_len h2.1 h2.2
    have l3 := h4 e
    simp [restS] at hh ⊢
    omega
  | set ss h hl =>
    have hb := setT_len ss h
    unfold spW at hb
    show (headW 3 ++ (ss.flatMap seW).flatMap (fun w => 32 :: w)).length ≤ 150000
    rw [List.length_append]
    simp only at hh
    omega
  | two k s n hk h h2 =>
    have l1 := itoa_len h.1 h.2
    have l2 := itoa_len h2.1 h2.2
    rcases hk with rfl | rfl <;> (simp [restS] at hh ⊢; omega)
  | one k n hk h2 =>
    have l2 := itoa_len h2.1 h2.2
    rcases hk with rfl | rfl | rfl <;> (simp [restS] at hh ⊢; omega)
def stsT (xs : List St) : List UInt8 := xs.flatMap fun x => lineS x ++ [10]
theorem stsT_len : ∀ xs : List St, (∀ x ∈ xs, StOk x) → (stsT xs).length ≤ 150001 * xs.length
  | [], _ => by simp [stsT]
  | x :: r, h => by
    have h1 := lineS_len (h x (by simp))
    have ih := stsT_len r (fun y hy => h y (by simp [hy]))
    unfold stsT at ih ⊢
    simp only [List.flatMap_cons, List.length_append, List.length_cons, List.length_nil] at ih ⊢
    omega
theorem text_scn (s : Scn) : textScn s = (firstS s.sd ++ [10]) ++ stsT s.xs ++ (lastS s.wk s.ws ++ [10]) := by
  unfold textScn linesScn stsT flatL
  simp [List.flatMap_map]
theorem last_eq (k n : Int) : lastS k n = [119, 114, 111, 110, 103] ++ (32 :: injN k) ++ (32 :: Lib.itoa n) := by
  unfold lastS lineW
  rw [join_sp]
  simp
theorem injN_len (k : Int) : (injN k).length ≤ 8 := by
  have : ∀ i : Fin 26, (injW.getD i.val []).length ≤ 8 := by decide +kernel
  unfold injN
  split
  · simp
  · exact this ⟨(k - 1).toNat, by omega⟩
end Go.Proofs.YtmlbomblbdbikaaGreatDoor
/-
  Scenarios: which may be: the program's.
-/
namespace Go.Proofs.YtmlbomblbdbikaaGreatDoor
set_option linter.unusedSimpArgs false
set_option linter.unusedVariables false
set_option linter.unusedSectionVars false
open Go.ChangeShapes Go.WideShapes Go.ChangeAt Go.RowKit Go.Deep Go.Shelf

theorem wait_of {x : St} (h : stR x = true) : 0 ≤ waitS x ∧ waitS x ≤ 16 := by
  unfold waitS
  split
  · rename_i hk
    unfold stR at h
    simp only [hk, Int.reduceEq, reduceIte, Bool.and_eq_true, inR_iff] at h
    exact h.2.2
  · omega
theorem waits_take {xs : List St} {k : Nat} (h : k < xs.length) : waitsS (xs.take (k + 1)) = waitsS (xs.take k) + waitS xs[k] := by
  unfold waitsS
  rw [List.take_succ_eq_append_getElem h, List.map_append, List.sum_append]
  simp only [List.map_cons, List.map_nil, List.sum_cons, List.sum_nil, Int.add_zero]
theorem waits_bound : ∀ xs : List St, xs.all stR = true → 0 ≤ waitsS xs ∧ waitsS xs ≤ 16 * xs.length
  | [], _ => by simp [waitsS]
  | x :: r, h => by
    simp only [List.all_cons, Bool.and_eq_true] at h
    have h1 := wait_of h.1
    have ih := waits_bound r h.2
    have e : waitsS (x :: r) = waitS x + waitsS r := by simp [waitsS]
    rw [e, List.length_cons]
    omega
theorem stIs.low {w W : World} {x : St} {cs : List Value} (h : stIs w x cs) (hW : Below w.heap.size w W) : stIs W x cs := by
  obtain ⟨fa, fc, sa, sc, e, h1, h2⟩ := h
  exact ⟨fa, fc, sa, sc, e, (h1.below hW (Nat.le_refl _)).mono hW.size (fun _ _ _ h => h), (h2.below hW (Nat.le_refl _)).mono hW.size (fun _ _ _ h => h)⟩
theorem SlSt.low {w W : World} {a : Option Addr} {xs : List St} (h : SlSt w w w.heap.size a xs) (hW : Below w.heap.size w W) : SlSt W W W.heap.size a xs :=
  (SlR.below h hW (Nat.le_refl _)).mono hW.size (fun _ _ _ h => h.low hW)
/-- The rows of a step are no longer than a walk can hold. -/
def StSm (x : St) : Prop := x.fs.length ≤ 1000000 ∧ x.ss.length ≤ 100000
set_option maxHeartbeats 16000000 in
set_option maxRecDepth 100000 in
theorem spec_Right (sd wk ws : Int) (xs : List St) (hsm : ∀ x ∈ xs, StSm x) (hl : xs.length ≤ 1000000) (a : Option Addr) (c : Nat) (w : World) (hS : SlSt w w w.heap.size a xs) :
    Calls Tryz.prog 17 #[.agg #[.int .i64 sd, .slice a xs.length c, .int .i64 wk, .int .i64 ws]] w fun e w' => e = .returned (.bool (rightScn ⟨sd, xs, wk, ws⟩)) ∧ ∃ j, w' = w.more j := by
  obtain ⟨R, hR⟩ : ∃ R, R = rightScn ⟨sd, xs, wk, ws⟩ := ⟨_, rfl⟩
  rw [← hR]
  have HRR : Hid (R = (decide (xs.length ≤ 20) && ((decide (sd = 0) || decide (sd = 1)) && (xs.all stR && (decide (waitsS xs ≤ 40) && (inR wk 1 26 && inR ws 1 topS)))))) := hR
  have HSM := Lib.hid hsm
  have HSX := Lib.hid hS
  have HWI : Hid (∀ W, Calls Tryz.prog 37 #[.int .i64 wk, .int .i64 1, .int .i64 26] W fun e w' => e = .returned (.bool (inR wk 1 26)) ∧ W = w') := fun W => spec_within wk 1 26 W
  have HWS : Hid (∀ W, Calls Tryz.prog 38 #[.int .i64 ws] W fun e w' => e = .returned (.bool (inR ws 1 topS)) ∧ W = w') := fun W => spec_stream ws W
  generalize inR wk 1 26 = Q1 at HRR HWI
  generalize inR ws 1 topS = Q2 at HRR HWS
  clear hR hsm hS
  by_cases hln : xs.length ≤ 20
  case neg =>
    obtain rfl : R = false := by rw [HRR.out, decide_eq_false hln]; rfl
    have hln2 : (20 : Int) < (xs.length : Int) := by omega
    clear HRR HSM HSX
    go_enter Tryz.func17, Tryz.ntmps17
    go_wp2_with fail
    go_ret
    exact ⟨rfl, Below.junk bel⟩
  have hln2 : ¬ (20 : Int) < (xs.length : Int) := by omega
  by_cases hsd : sd = 0 ∨ sd = 1
  case neg =>
    obtain ⟨h0, h1⟩ := not_or.1 hsd
    obtain rfl : R = false := by rw [HRR.out, decide_eq_false h0, decide_eq_false h1]; simp
    have h0b : (sd == 0) = false := by simp [h0]
    have h1b : (sd == 1) = false := by simp [h1]
    have h0c : (sd != 0) = true := by simp [h0]
    have h1c : (sd != 1) = true := by simp [h1]
    clear HRR HSM HSX
    go_enter Tryz.func17, Tryz.ntmps17
    go_wp2_with fail
    go_ret
    exact ⟨rfl, Below.junk bel⟩
  have HR2 : Hid (R = (xs.all stR && (decide (waitsS xs ≤ 40) && (Q1 && Q2)))) := by
    show _ = _
    rw [HRR.out, decide_eq_true hln]
    rcases hsd with rfl | rfl <;> rfl
  clear HRR
  rcases hsd with rfl | rfl
  · go_enter Tryz.func17, Tryz.ntmps17
    go_wp2_with fail
    obtain ⟨w1, hw1⟩ : ∃ w1, w1 = w.alloc (.cells #[.int .i64 0, .slice a xs.length c, .int .i64 wk, .int .i64 ws] 54) := ⟨_, rfl⟩
    rw [← hw1]
    have hbx : Blk w1 w.heap.size 54 #[.int .i64 0, .slice a xs.length c, .int .i64 wk, .int .i64 ws] := by rw [hw1]; exact Blk.new _ _ _
    have HBW : Hid (Below w.heap.size w w1) := by show Below _ _ _; rw [hw1]; exact bel
    have hg1 := hbx.lt
    have b0 : w1.cell? ⟨w.heap.size, 0, none⟩ = some (.int .i64 0) := hbx.cell 0
    have b1 : w1.cell? ⟨w.heap.size, 1, none⟩ = some (.slice a xs.length c) := hbx.cell 1
    have b2 : w1.cell? ⟨w.heap.size, 2, none⟩ = some (.int .i64 wk) := hbx.cell 2
    have b3 : w1.cell? ⟨w.heap.size, 3, none⟩ = some (.int .i64 ws) := hbx.cell 3
    clear hw1 hbx
    go_loopw [3, 23] (fun v i wr => ∃ k : Nat, k ≤ xs.length ∧ i = .int .i64 k ∧ v = .int .i64 (waitsS (xs.take k)) ∧ Hid ((xs.take k).all stR = true) ∧ ∃ j, wr = w1.more j) (fun _ i _ => xs.length - (intOf i).toNat)
    case atStart => exact ⟨0, Nat.zero_le _, rfl, by simp [waitsS], by show _ = _; simp, Below.junk bel⟩
    case round =>
      obtain ⟨k, hk, rfl, rfl, HA, j, rfl⟩ := hrel
      have HWB : Hid (0 ≤ waitsS (xs.take k) ∧ waitsS (xs.take k) ≤ 320) := by
        have := waits_bound _ HA.out
        rw [List.length_take] at this
        show _ ∧ _
        omega
      by_cases hlt : k < xs.length
      · obtain ⟨b, off, fa, fc, sa, sc, ha, hbb, c0, c1, c2, c3, c4, c5, hF, hSe⟩ := SlR.atSt HSX.out hlt
        subst ha
        have d0 := (HBW.out.cell (p := ⟨b, off + k * 6, none⟩) hbb).trans c0
        have d1 := (HBW.out.cell (p := ⟨b, off + k * 6 + 1, none⟩) hbb).trans c1
        have d2 := (HBW.out.cell (p := ⟨b, off + k * 6 + 2, none⟩) hbb).trans c2
        have d3 := (HBW.out.cell (p := ⟨b, off + k * 6 + 3, none⟩) hbb).trans c3
        have d4 := (HBW.out.cell (p := ⟨b, off + k * 6 + 4, none⟩) hbb).trans c4
        have d5 := (HBW.out.cell (p := ⟨b, off + k * 6 + 5, none⟩) hbb).trans c5
        have hbz : b < w1.heap.size := Nat.lt_of_lt_of_le hbb HBW.out.size
        have hsm := HSM.out _ (List.getElem_mem hlt)
        have hkl : (k : Int) < (xs.length : Int) := by omega
        have HWT := Lib.hid (waits_take hlt)
        have hwx : stR xs[k] = true → IntKind.i64.wrap (waitsS (xs.take k) + waitS xs[k]) = waitsS (xs.take k) + waitS xs[k] := fun h => by
          have h1 := wait_of h
          have h2 := HWB.out
          exact IntWalk.i64_in _ (by omega)
        have HWX := Lib.hid hwx
        have HTK : Hid (stR xs[k] = true → (xs.take (k + 1)).all stR = true) := fun h => by
          show _ = _
          rw [List.take_succ_eq_append_getElem hlt, List.all_append, HA.out]
          simp [h]
        have HNO : Hid (stR xs[k] = false → R = false) := fun h => by
          have : xs.all stR = false := by rw [List.all_eq_false]; exact ⟨_, List.getElem_mem hlt, by simp [h]⟩
          rw [HR2.out, this]; rfl
        have HRS : Hid (∀ W, Below w.heap.size w W → Calls Tryz.prog 36 #[.agg #[.int .i64 xs[k].kd, .int .i64 xs[k].sm, .int .i64 xs[k].nn, .bool xs[k].fin, .slice fa xs[k].fs.length fc, .slice sa xs[k].ss.length sc]] W fun e w' => e = .returned (.bool (stR xs[k])) ∧ ∃ j, w' = W.more j) := fun W hW =>
          spec_RightStep xs[k].kd xs[k].sm xs[k].nn xs[k].fin xs[k].fs xs[k].ss hsm.1 hsm.2 fa sa fc sc W ((hF.below hW (Nat.le_refl _)).mono hW.size (fun _ _ _ h => h)) ((hSe.below hW (Nat.le_refl _)).mono hW.size (fun _ _ _ h => h))
        have HW8 : Hid (waitS xs[k] = if xs[k].kd = 8 then xs[k].nn else 0) := rfl
        generalize waitsS (xs.take k) = n0 at HWT HWX
        generalize waitS xs[k] = n1 at HWT HWX HW8
        generalize stR xs[k] = q at HTK HNO HRS HWX
        generalize xs[k].fs.length = nf at HRS d4
        generalize xs[k].ss.length = ns at HRS d5
        generalize xs[k].kd = y0 at HRS d0 HW8
        generalize xs[k].sm = y1 at HRS d1
        generalize xs[k].nn = y2 at HRS d2 HW8
        generalize xs[k].fin = y3 at HRS d3
        clear c0 c1 c2 c3 c4 c5 hF hSe HWB hsm hwx
        cases q
        · obtain rfl : R = false := HNO.out rfl
          go_wp2_with (go_at_call 36; (with_reducible refine (HRS.out _ (by repeat (first | exact HBW.out | (with_reducible refine Below.allocS ?_ _) | (with_reducible refine Below.moreS ?_ _) | (with_reducible refine Below.drew ?_)))).mono ?_); rintro e w' ⟨rfl, j, rfl⟩)
          go_ret
          exact ⟨rfl, Below.junk (by repeat (first | exact HBW.out | (with_reducible refine Below.allocS ?_ _) | (with_reducible refine Below.moreS ?_ _) | (with_reducible refine Below.drew ?_)))⟩
        have HTK2 := Lib.hid (HTK.out rfl)
        have hwx := HWX.out rfl
        clear HTK HNO HWX
        by_cases h8 : y0 = 8
        · subst h8
          obtain rfl : n1 = y2 := HW8.out
          go_wp2_with (go_at_call 36; (with_reducible refine (HRS.out _ (by repeat (first | exact HBW.out | (with_reducible refine Below.allocS ?_ _) | (with_reducible refine Below.moreS ?_ _) | (with_reducible refine Below.drew ?_)))).mono ?_); rintro e w' ⟨rfl, j, rfl⟩)
          go_round
          case rel => exact ⟨k + 1, hlt, by go_num, by rw [HWT.out], HTK2, Below.junk bel⟩
          case measure => simp [intOf]; omega
        · obtain rfl : n1 = 0 := by rw [HW8.out, if_neg h8]
          have h8b : (y0 == 8) = false := by simp [h8]
          go_wp2_with (go_at_call 36; (with_reducible refine (HRS.out _ (by repeat (first | exact HBW.out | (with_reducible refine Below.allocS ?_ _) | (with_reducible refine Below.moreS ?_ _) | (with_reducible refine Below.drew ?_)))).mono ?_); rintro e w' ⟨rfl, j, rfl⟩)
          go_round
          case rel => exact ⟨k + 1, hlt, by go_num, by rw [HWT.out]; simp, HTK2, Below.junk bel⟩
          case measure => simp [intOf]; omega
      · obtain rfl : k = xs.length := by omega
        rw [List.take_length] at HA HWB ⊢
        have hkl : ¬ (xs.length : Int) < (xs.length : Int) := by omega
        have HR3 : Hid (R = (decide (waitsS xs ≤ 40) && (Q1 && Q2))) := by show _ = _; rw [HR2.out, HA.out]; rfl
        generalize waitsS xs = n0 at HR3 HWB ⊢
        clear HA HR2 HSX HSM
        by_cases h40 : n0 ≤ 40
        case neg =>
          obtain rfl : R = false := by rw [HR3.out]; simp [*]
          go_wp2_with (first | (go_at_call 37; (with_reducible refine (HWI.out _).mono ?_); rintro e w' ⟨rfl, rfl⟩) | (go_at_call 38; (with_reducible refine (HWS.out _).mono ?_); rintro e w' ⟨rfl, rfl⟩))
          all_goals go_ret
          all_goals exact ⟨rfl, Below.junk (by repeat (first | exact HBW.out | (with_reducible refine Below.allocS ?_ _) | (with_reducible refine Below.moreS ?_ _) | (with_reducible refine Below.drew ?_)))⟩
        cases Q1
        case false =>
          obtain rfl : R = false := by rw [HR3.out]; simp [*]
          go_wp2_with (first | (go_at_call 37; (with_reducible refine (HWI.out _).mono ?_); rintro e w' ⟨rfl, rfl⟩) | (go_at_call 38; (with_reducible refine (HWS.out _).mono ?_); rintro e w' ⟨rfl, rfl⟩))
          all_goals go_ret
          all_goals exact ⟨rfl, Below.junk (by repeat (first | exact HBW.out | (with_reducible refine Below.allocS ?_ _) | (with_reducible refine Below.moreS ?_ _) | (with_reducible refine Below.drew ?_)))⟩
        cases Q2
        case false =>
          obtain rfl : R = false := by rw [HR3.out]; simp [*]
          go_wp2_with (first | (go_at_call 37; (with_reducible refine (HWI.out _).mono ?_); rintro e w' ⟨rfl, rfl⟩) | (go_at_call 38; (with_reducible refine (HWS.out _).mono ?_); rintro e w' ⟨rfl, rfl⟩))
          all_goals go_ret
          all_goals exact ⟨rfl, Below.junk (by repeat (first | exact HBW.out | (with_reducible refine Below.allocS ?_ _) | (with_reducible refine Below.moreS ?_ _) | (with_reducible refine Below.drew ?_)))⟩
        obtain rfl : R = true := by rw [HR3.out]; simp [*]
        go_wp2_with (first | (go_at_call 37; (with_reducible refine (HWI.out _).mono ?_); rintro e w' ⟨rfl, rfl⟩) | (go_at_call 38; (with_reducible refine (HWS.out _).mono ?_); rintro e w' ⟨rfl, rfl⟩))
        all_goals go_ret
        all_goals exact ⟨rfl, Below.junk (by repeat (first | exact HBW.out | (with_reducible refine Below.allocS ?_ _) | (with_reducible refine Below.moreS ?_ _) | (with_reducible refine Below.drew ?_)))⟩
  · go_enter Tryz.func17, Tryz.ntmps17
    go_wp2_with fail
    obtain ⟨w1, hw1⟩ : ∃ w1, w1 = w.alloc (.cells #[.int .i64 1, .slice a xs.length c, .int .i64 wk, .int .i64 ws] 54) := ⟨_, rfl⟩
    rw [← hw1]
    have hbx : Blk w1 w.heap.size 54 #[.int .i64 1, .slice a xs.length c, .int .i64 wk, .int .i64 ws] := by rw [hw1]; exact Blk.new _ _ _
    have HBW : Hid (Below w.heap.size w w1) := by show Below _ _ _; rw [hw1]; exact bel
    have hg1 := hbx.lt
    have b0 : w1.cell? ⟨w.heap.size, 0, none⟩ = some (.int .i64 1) := hbx.cell 0
    have b1 : w1.cell? ⟨w.heap.size, 1, none⟩ = some (.slice a xs.length c) := hbx.cell 1
    have b2 : w1.cell? ⟨w.heap.size, 2, none⟩ = some (.int .i64 wk) := hbx.cell 2
    have b3 : w1.cell? ⟨w.heap.size, 3, none⟩ = some (.int .i64 ws) := hbx.cell 3
    clear hw1 hbx
    go_loopw [3, 23] (fun v i wr => ∃ k : Nat, k ≤ xs.length ∧ i = .int .i64 k ∧ v = .int .i64 (waitsS (xs.take k)) ∧ Hid ((xs.take k).all stR = true) ∧ ∃ j, wr = w1.more j) (fun _ i _ => xs.length - (intOf i).toNat)
    case atStart => exact ⟨0, Nat.zero_le _, rfl, by simp [waitsS], by show _ = _; simp, Below.junk bel⟩
    case round =>
      obtain ⟨k, hk, rfl, rfl, HA, j, rfl⟩ := hrel
      have HWB : Hid (0 ≤ waitsS (xs.take k) ∧ waitsS (xs.take k) ≤ 320) := by
        have := waits_bound _ HA.out
        rw [List.length_take] at this
        show _ ∧ _
        omega
      by_cases hlt : k < xs.length
      · obtain ⟨b, off, fa, fc, sa, sc, ha, hbb, c0, c1, c2, c3, c4, c5, hF, hSe⟩ := SlR.atSt HSX.out hlt
        subst ha
        have d0 := (HBW.out.cell (p := ⟨b, off + k * 6, none⟩) hbb).trans c0
        have d1 := (HBW.out.cell (p := ⟨b, off + k * 6 + 1, none⟩) hbb).trans c1
        have d2 := (HBW.out.cell (p := ⟨b, off + k * 6 + 2, none⟩) hbb).trans c2
        have d3 := (HBW.out.cell (p := ⟨b, off + k * 6 + 3, none⟩) hbb).trans c3
        have d4 := (HBW.out.cell (p := ⟨b, off + k * 6 + 4, none⟩) hbb).trans c4
        have d5 := (HBW.out.cell (p := ⟨b, off + k * 6 + 5, none⟩) hbb).trans c5
        have hbz : b < w1.heap.size := Nat.lt_of_lt_of_le hbb HBW.out.size
        have hsm := HSM.out _ (List.getElem_mem hlt)
        have hkl : (k : Int) < (xs.length : Int) := by omega
        have HWT := Lib.hid (waits_take hlt)
        have hwx : stR xs[k] = true → IntKind.i64.wrap (waitsS (xs.take k) + waitS xs[k]) = waitsS (xs.take k) + waitS xs[k] := fun h => by
          have h1 := wait_of h
          have h2 := HWB.out
          exact IntWalk.i64_in _ (by omega)
        have HWX := Lib.hid hwx
        have HTK : Hid (stR xs[k] = true → (xs.take (k + 1)).all stR = true) := fun h => by
          show _ = _
          rw [List.take_succ_eq_append_getElem hlt, List.all_append, HA.out]
          simp [h]
        have HNO : Hid (stR xs[k] = false → R = false) := fun h => by
          have : xs.all stR = false := by rw [List.all_eq_false]; exact ⟨_, List.getElem_mem hlt, by simp [h]⟩
          rw [HR2.out, this]; rfl
        have HRS : Hid (∀ W, Below w.heap.size w W → Calls Tryz.prog 36 #[.agg #[.int .i64 xs[k].kd, .int .i64 xs[k].sm, .int .i64 xs[k].nn, .bool xs[k].fin, .slice fa xs[k].fs.length fc, .slice sa xs[k].ss.length sc]] W fun e w' => e = .returned (.bool (stR xs[k])) ∧ ∃ j, w' = W.more j) := fun W hW =>
          spec_RightStep xs[k].kd xs[k].sm xs[k].nn xs[k].fin xs[k].fs xs[k].ss hsm.1 hsm.2 fa sa fc sc W ((hF.below hW (Nat.le_refl _)).mono hW.size (fun _ _ _ h => h)) ((hSe.below hW (Nat.le_refl _)).mono hW.size (fun _ _ _ h => h))
        have HW8 : Hid (waitS xs[k] = if xs[k].kd = 8 then xs[k].nn else 0) := rfl
        generalize waitsS (xs.take k) = n0 at HWT HWX
        generalize waitS xs[k] = n1 at HWT HWX HW8
        generalize stR xs[k] = q at HTK HNO HRS HWX
        generalize xs[k].fs.length = nf at HRS d4
        generalize xs[k].ss.length = ns at HRS d5
        generalize xs[k].kd = y0 at HRS d0 HW8
        generalize xs[k].sm = y1 at HRS d1
        generalize xs[k].nn = y2 at HRS d2 HW8
        generalize xs[k].fin = y3 at HRS d3
        clear c0 c1 c2 c3 c4 c5 hF hSe HWB hsm hwx
        cases q
        · obtain rfl : R = false := HNO.out rfl
          go_wp2_with (go_at_call 36; (with_reducible refine (HRS.out _ (by repeat (first | exact HBW.out | (with_reducible refine Below.allocS ?_ _) | (with_reducible refine Below.moreS ?_ _) | (with_reducible refine Below.drew ?_)))).mono ?_); rintro e w' ⟨rfl, j, rfl⟩)
          go_ret
          exact ⟨rfl, Below.junk (by repeat (first | exact HBW.out | (with_reducible refine Below.allocS ?_ _) | (with_reducible refine Below.moreS ?_ _) | (with_reducible refine Below.drew ?_)))⟩
        have HTK2 := Lib.hid (HTK.out rfl)
        have hwx := HWX.out rfl
        clear HTK HNO HWX
        by_cases h8 : y0 = 8
        · subst h8
          obtain rfl : n1 = y2 := HW8.out
          go_wp2_with (go_at_call 36; (with_reducible refine (HRS.out _ (by repeat (first | exact HBW.out | (with_reducible refine Below.allocS ?_ _) | (with_reducible refine Below.moreS ?_ _) | (with_reducible refine Below.drew ?_)))).mono ?_); rintro e w' ⟨rfl, j, rfl⟩)
          go_round
          case rel => exact ⟨k + 1, hlt, by go_num, by rw [HWT.out], HTK2, Below.junk bel⟩
          case measure => simp [intOf]; omega
        · obtain rfl : n1 = 0 := by rw [HW8.out, if_neg h8]
          have h8b : (y0 == 8) = false := by simp [h8]
          go_wp2_with (go_at_call 36; (with_reducible refine (HRS.out _ (by repeat (first | exact HBW.out | (with_reducible refine Below.allocS ?_ _) | (with_reducible refine Below.moreS ?_ _) | (with_reducible refine Below.drew ?_)))).mono ?_); rintro e w' ⟨rfl, j, rfl⟩)
          go_round
          case rel => exact ⟨k + 1, hlt, by go_num, by rw [HWT.out]; simp, HTK2, Below.junk bel⟩
          case measure => simp [intOf]; omega
      · obtain rfl : k = xs.length := by omega
        rw [List.take_length] at HA HWB ⊢
        have hkl : ¬ (xs.length : Int) < (xs.length : Int) := by omega
        have HR3 : Hid (R = (decide (waitsS xs ≤ 40) && (Q1 && Q2))) := by show _ = _; rw [HR2.out, HA.out]; rfl
        generalize waitsS xs = n0 at HR3 HWB ⊢
        clear HA HR2 HSX HSM
        by_cases h40 : n0 ≤ 40
        case neg =>
          obtain rfl : R = false := by rw [HR3.out]; simp [*]
          go_wp2_with (first | (go_at_call 37; (with_reducible refine (HWI.out _).mono ?_); rintro e w' ⟨rfl, rfl⟩) | (go_at_call 38; (with_reducible refine (HWS.out _).mono ?_); rintro e w' ⟨rfl, rfl⟩))
          all_goals go_ret
          all_goals exact ⟨rfl, Below.junk (by repeat (first | exact HBW.out | (with_reducible refine Below.allocS ?_ _) | (with_reducible refine Below.moreS ?_ _) | (with_reducible refine Below.drew ?_)))⟩
        cases Q1
        case false =>
          obtain rfl : R = false := by rw [HR3.out]; simp [*]
          go_wp2_with (first | (go_at_call 37; (with_reducible refine (HWI.out _).mono ?_); rintro e w' ⟨rfl, rfl⟩) | (go_at_call 38; (with_reducible refine (HWS.out _).mono ?_); rintro e w' ⟨rfl, rfl⟩))
          all_goals go_ret
          all_goals exact ⟨rfl, Below.junk (by repeat (first | exact HBW.out | (with_reducible refine Below.allocS ?_ _) | (with_reducible refine Below.moreS ?_ _) | (with_reducible refine Below.drew ?_)))⟩
        cases Q2
        case false =>
          obtain rfl : R = false := by rw [HR3.out]; simp [*]
          go_wp2_with (first | (go_at_call 37; (with_reducible refine (HWI.out _).mono ?_); rintro e w' ⟨rfl, rfl⟩) | (go_at_call 38; (with_reducible refine (HWS.out _).mono ?_); rintro e w' ⟨rfl, rfl⟩))
          all_goals go_ret
          all_goals exact ⟨rfl, Below.junk (by repeat (first | exact HBW.out | (with_reducible refine Below.allocS ?_ _) | (with_reducible refine Below.moreS ?_ _) | (with_reducible refine Below.drew ?_)))⟩
        obtain rfl : R = true := by rw [HR3.out]; simp [*]
        go_wp2_with (first | (go_at_call 37; (with_reducible refine (HWI.out _).mono ?_); rintro e w' ⟨rfl, rfl⟩) | (go_at_call 38; (with_reducible refine (HWS.out _).mono ?_); rintro e w' ⟨rfl, rfl⟩))
        all_goals go_ret
        all_goals exact ⟨rfl, Below.junk (by repeat (first | exact HBW.out | (with_reducible refine Below.allocS ?_ _) | (with_reducible refine Below.moreS ?_ _) | (with_reducible refine Below.drew ?_)))⟩
end Go.Proofs.YtmlbomblbdbikaaGreatDoor
/-
  The frames that are sent: both roads.
-/
namespace Go.Proofs.YtmlbomblbdbikaaGreatDoor
set_option linter.unusedSimpArgs false
set_option linter.unusedVariables false
set_option linter.unusedSectionVars false
open Go.ChangeShapes Go.WideShapes Go.ChangeAt Go.RowKit Go.Deep Go.Shelf

/-- May it be sent? -/
def mayW (k s d : Int) : Bool := (decide (d = 0) || decide (d = 1)) && (inR k 1 26 && inR s 1 topS)
set_option maxHeartbeats 800000 in
set_option maxRecDepth 100000 in
theorem inject_mayW (k s d : Int) (w : World) : Calls Tryz.prog 10 #[.agg #[.int .i64 k, .int .i64 s], .int .i64 d] w fun e w' => e = .returned (.bool (mayW k s d)) ∧ ∃ j, w' = w.more j := by
  have HR : Hid (∀ W, Calls Tryz.prog 17 #[.agg #[.int .i64 d, .slice none 0 0, .int .i64 k, .int .i64 s]] W fun e w' => e = .returned (.bool (mayW k s d)) ∧ ∃ j, w' = W.more j) := fun W => by
    have h := spec_Right d k s [] (by simp) (by simp) none 0 W SlR.nil
    rwa [show rightScn ⟨d, [], k, s⟩ = mayW k s d from by simp [rightScn, mayW, waitsS]] at h
  generalize mayW k s d = R at HR ⊢
  go_enter Tryz.func10, Tryz.ntmps10
  go_wp2_with (go_at_call 17; (with_reducible refine (HR.out _).mono ?_); rintro e w' ⟨rfl, j, rfl⟩)
  go_ret
  exact ⟨rfl, Below.junk bel⟩
/-- A row of frames whose senders are told one by one. -/
def RawRowF (w : World) (g : Nat) (cur : Array Value) (d : Nat → Int) (l : List Frw) : Prop :=
  l.length * 6 ≤ cur.size ∧ ∀ k (h : k < l.length), ∃ a c, cur[k * 6]? = some (.int .i64 (d k)) ∧ cur[k * 6 + 1]? = some (.int .i64 l[k].t) ∧ cur[k * 6 + 2]? = some (.int .i64 l[k].fl) ∧ cur[k * 6 + 3]? = some (.int .i64 l[k].s) ∧ cur[k * 6 + 4]? = some (.bool false) ∧ cur[k * 6 + 5]? = some (.slice a l[k].b.length c) ∧ SlBn w g a l[k].b
theorem SlBn.setn {w : World} {g : Nat} {a : Option Addr} {l : List UInt8} (h : SlBn w g a l) (o : Nat) (v : Value) : SlBn (w.setCell ⟨g, o, none⟩ v) g a l := by
  intro k hk
  obtain ⟨b, off, ha, hb, hne, hc⟩ := h k hk
  exact ⟨b, off, ha, by simpa using hb, hne, by rw [World.cell?_setCell_other (h := fun e => hne (by injection e with e1 _; first | exact e1 | exact e1.symm))]; exact hc⟩
theorem RawRowF.put {w : World} {g : Nat} {cur : Array Value} {d : Nat → Int} {l : List Frw} (h : RawRowF w g cur d l) {q : Nat} (hq : q < l.length) (x : Int) : RawRowF (w.setCell ⟨g, q * 6, none⟩ (.int .i64 x)) g (cur.setIfInBounds (q * 6) (.int .i64 x)) (fun i => if i = q then x else d i) l := by
  refine ⟨by rw [Array.size_setIfInBounds]; exact h.1, ?_⟩
  intro k hk
  obtain ⟨a, c, h0, h1, h2, h3, h4, h5, hb⟩ := h.2 k hk
  have hs := h.1
  refine ⟨a, c, ?_, ?_, ?_, ?_, ?_, ?_, hb.setn _ _⟩
  · by_cases e : k = q
    · subst e
      show _ = some (Value.int .i64 (if k = k then x else d k))
      rw [if_pos rfl, Array.getElem?_setIfInBounds_self_of_lt (by omega)]
    · show _ = some (Value.int .i64 (if k = q then x else d k))
      rw [if_neg e, Array.getElem?_setIfInBounds_ne (by omega)]
      exact h0
  · rw [Array.getElem?_setIfInBounds_ne (by omega)]; exact h1
  · rw [Array.getElem?_setIfInBounds_ne (by omega)]; exact h2
  · rw [Array.getElem?_setIfInBounds_ne (by omega)]; exact h3
  · rw [Array.getElem?_setIfInBounds_ne (by omega)]; exact h4
  · rw [Array.getElem?_setIfInBounds_ne (by omega)]; exact h5
/-- Frames and a word on them. -/
def FrP (d : Int) (l : List Frw) (tag : Value) (w : World) (e : Ending) (w' : World) : Prop := ∃ g cap, e = .returned (.tuple #[.slice (some ⟨g, 0, none⟩) l.length cap, tag]) ∧ RawsQ d l w w' g
/-- The senders told up to a place. -/
def Told (d : Int) (l : List Frw) (w : World) (g k : Nat) (wr : World) : Prop := w.heap.size ≤ g ∧ (∃ cur, Blk wr g RawT cur ∧ RawRowF wr g cur (fun i => if i < k then d else 0) l) ∧ Below w.heap.size w wr
theorem Told.start {d : Int} {l : List Frw} {w w' : World} {g : Nat} (h : RawsQ 0 l w w' g) : Told d l w g 0 w' := by
  obtain ⟨h1, ⟨cur, h2, h3⟩, h4⟩ := h
  exact ⟨h1, ⟨cur, h2, h3.1, fun k hk => by simpa using h3.2 k hk⟩, h4⟩
theorem Told.stop {d : Int} {l : List Frw} {w w' : World} {g : Nat} (h : Told d l w g l.length w') : RawsQ d l w w' g := by
  obtain ⟨h1, ⟨cur, h2, h3⟩, h4⟩ := h
  exact ⟨h1, ⟨cur, h2, h3.1, fun k hk => by simpa [hk] using h3.2 k hk⟩, h4⟩
theorem Told.next {d : Int} {l : List Frw} {w w' : World} {g k : Nat} (h : Told d l w g k w') (hk : k < l.length) : Told d l w g (k + 1) (w'.setCell ⟨g, k * 6, none⟩ (.int .i64 d)) := by
  obtain ⟨h1, ⟨cur, h2, h3⟩, h4⟩ := h
  refine ⟨h1, ⟨_, h2.set_ _ _, ?_⟩, h4.setCell (p := ⟨g, k * 6, none⟩) h1 _⟩
  have := h3.put hk d
  refine ⟨this.1, fun q hq => ?_⟩
  obtain ⟨a, c, e0, er⟩ := this.2 q hq
  refine ⟨a, c, ?_, er⟩
  rw [e0]
  congr 2
  show (if q = k then d else if q < k then d else 0) = if q < k + 1 then d else 0
  by_cases e : q = k
  · subst e; simp
  · rw [if_neg e]
    by_cases e2 : q < k
    · rw [if_pos e2, if_pos (by omega)]
    · rw [if_neg e2, if_neg (by omega)]
theorem Told.cell {d : Int} {l : List Frw} {w w' : World} {g k : Nat} (h : Told d l w g k w') (hk : k < l.length) : w'.cell? ⟨g, k * 6, none⟩ = some (.int .i64 0) ∧ w'.frozen? ⟨g, k * 6, none⟩ = false ∧ g < w'.heap.size := by
  obtain ⟨h1, ⟨cur, h2, h3⟩, h4⟩ := h
  obtain ⟨a, c, e0, _⟩ := h3.2 k hk
  exact ⟨by rw [h2.cell, e0]; simp, h2.frozen _, h2.lt⟩
end Go.Proofs.YtmlbomblbdbikaaGreatDoor
/-
  The frames that are sent: the walks.
-/
namespace Go.Proofs.YtmlbomblbdbikaaGreatDoor
set_option linter.unusedSimpArgs false
set_option linter.unusedVariables false
set_option linter.unusedSectionVars false
open Go.ChangeShapes Go.WideShapes Go.ChangeAt Go.RowKit Go.Deep Go.Shelf

theorem max_kept {w W : World} {m : Int} (hM : w.cell? MaxA = some (.int .i64 m)) (hW : Below w.heap.size w W) : W.cell? MaxA = some (.int .i64 m) :=
  (hW.cell (p := MaxA) (World.block_lt_of_cell? w MaxA hM)).trans hM
theorem wrL_len (k : Nat) (s : Int) : (wrL k s).length ≤ 2 := by
  unfold wrL
  split <;> first | exact Nat.le_refl _ | exact Nat.le_succ _ | exact Nat.zero_le _
set_option maxHeartbeats 1600000 in
set_option maxRecDepth 100000 in
theorem inject_FramesY (k : Nat) (s d m : Int) (h : mayW k s d = true) (h1 : 1 ≤ k) (h26 : k ≤ 26) (w : World) (hM : w.cell? MaxA = some (.int .i64 m)) (hG : GF w) :
    Calls Tryz.prog 4 #[.agg #[.int .i64 (k : Int), .int .i64 s], .int .i64 d] w (FrP d (wrL k s) (.int .i64 0) w) := by
  have HMY : Hid (∀ W, Calls Tryz.prog 10 #[.agg #[.int .i64 (k : Int), .int .i64 s], .int .i64 d] W fun e w' => e = .returned (.bool true) ∧ ∃ j, w' = W.more j) := fun W => by have := inject_mayW k s d W; rwa [h] at this
  have HNM : Hid (∀ W, Below w.heap.size w W → Calls Tryz.prog 12 #[.int .i64 (k : Int)] W fun e w' => e = .returned (bstr (injN (k : Int))) ∧ ∃ j, w' = W.more j) := fun W hW => inject_Name k m W (max_kept hM hW)
  have HLE : Hid (∀ W, Below w.heap.size w W → Calls Tryz.prog 11 #[bstr (injN (k : Int)), .int .i64 s] W (RawsP (wrL k s) W)) := fun W hW => il_all k h1 h26 s W (hG.below hW)
  have HL2 : Hid ((wrL k s).length ≤ 2) := wrL_len k s
  generalize wrL k s = l at HLE HL2 ⊢
  generalize injN (k : Int) = nm at HNM HLE
  clear h h1 h26 hM hG
  unfold FrP
  go_enter Tryz.func4, Tryz.ntmps4
  go_wp2_with (go_at_call 10; (with_reducible refine (HMY.out _).mono ?_); rintro e w' ⟨rfl, j, rfl⟩)
  refine wnm fun w1 hw1 => ?_
  have HB1 : Hid (Below w.heap.size w w1) := by show Below _ _ _; rw [hw1]; exact bel
  have HX1 : Hid (Blk w1 w.heap.size 23 #[.int .i64 (k : Int), .int .i64 s]) := by show Blk _ _ _ _; rw [hw1]; exact blk
  clear hw1
  refine gb_start w1.heap.size (by kernel_rfl) ?_
  obtain ⟨w2, hw2⟩ : ∃ w2, w2 = w1.drew := ⟨_, rfl⟩
  rw [← hw2]
  have HB2 : Hid (Below w.heap.size w w2) := by show Below _ _ _; rw [hw2]; exact Below.drew HB1.out
  have HX2 : Hid (Blk w2 w.heap.size 23 #[.int .i64 (k : Int), .int .i64 s]) := by show Blk _ _ _ _; rw [hw2]; exact HX1.out
  have hs2 : w2.heap.size = w1.heap.size := by rw [hw2]; rfl
  rw [← hs2]
  have y0 : w2.cell? ⟨w.heap.size, 0, none⟩ = some (.int .i64 (k : Int)) := HX2.out.cell 0
  have y1 : w2.cell? ⟨w.heap.size, 1, none⟩ = some (.int .i64 s) := HX2.out.cell 1
  have zx : w.heap.size < w2.heap.size := HX2.out.lt
  clear hw2 hs2 HB1 HX1
  refine tk 0 ?_
  refine tk 1 ?_
  refine tk 3 ?_
  refine tk 4 ?_
  refine gb_step 2 (by kernel_rfl) rfl (fun K hK => ?_)
  go_simp
  go_wp2_with fail
  refine (HNM.out _ HB2.out).mono ?_
  rintro e w' ⟨rfl, j, rfl⟩
  go_wp2_with fail
  refine hK.out _ _ (show Below _ _ _ from bel) ?_
  clear hK K
  try simp only [Act.put, nfa, nfb, nfc, nfd, List.set_cons_zero, List.set_cons_succ]
  refine gb_step 5 (by kernel_rfl) rfl (fun K hK => ?_)
  go_simp
  go_wp2_with fail
  refine (HLE.out _ (HB2.out.trans (Below.mono (B := w2.heap.size) bel (Nat.le_of_lt zx)))).mono ?_
  rintro e w3 ⟨g, cap, rfl, hq⟩
  have HB3 : Hid (Below w2.heap.size w2 w3) := (show Below w2.heap.size w2 (w2.more j) from bel).trans (Below.mono hq.2.2 (by simp))
  have HT := Lib.hid (Told.start (d := d) (hq.low (HB2.out.trans (Below.mono (B := w2.heap.size) (show Below w2.heap.size w2 (w2.more j) from bel) (Nat.le_of_lt zx)))))
  have hb3 := hq.2.2
  clear hq
  go_wp2_with fail
  refine hK.out _ _ (show Below _ _ _ from Below.mono hb3 (by simp)) ?_
  clear hK K hb3
  try simp only [Act.put, nfa, nfb, nfc, nfd, List.set_cons_zero, List.set_cons_succ]
  refine tk 6 ?_
  refine wpAnyH_done (by kernel_rfl) ?_ _
  clear y0 y1
  go_wp2_with fail
  obtain ⟨n, hn⟩ : ∃ n, n = l.length := ⟨_, rfl⟩
  have HLL : Hid (n = l.length) := hn
  have HLS : Hid (n ≤ 100000) := by have := HL2.out; show _ ≤ _; omega
  rw [← hn]
  clear hn
  go_loopg [20] n (fun gk i wr => ∃ q : Nat, q + gk = n ∧ i = .int .i64 (q : Int) ∧ Told d l w g q wr)
  case atStart => exact ⟨0, by omega, rfl, HT.out⟩
  case round =>
    obtain ⟨q, hqg, rfl, ht⟩ := hrel
    have HTQ := Lib.hid ht
    have HQG := Lib.hid hqg
    clear ht hqg HT
    by_cases hlt : q < n
    · have d1 : decide ((q : Int) < (n : Int)) = true := decide_eq_true (by omega)
      have d2 : (q : Int) < (n : Int) := by omega
      have w1 : IntKind.i64.wrap ((q : Int) + 1) = (q : Int) + 1 := IntWalk.i64_in _ (by have := HLS.out; omega)
      obtain ⟨c0, f0, hgl⟩ := HTQ.out.cell (by have := HLL.out; omega)
      go_wp2_with fail
      go_roundg (n - (q + 1))
      case measure => have := HQG.out; omega
      case rel => exact ⟨q + 1, by have := HQG.out; omega, by first | rfl | (have := HLS.out; go_num), HTQ.out.next (by have := HLL.out; omega)⟩
    · obtain rfl : q = n := by have := HQG.out; omega
      have d1 : decide ((q : Int) < (q : Int)) = false := decide_eq_false (by omega)
      go_wp2_with fail
      go_ret2
      have hl : q = l.length := HLL.out
      subst hl
      exact ⟨g, cap, rfl, HTQ.out.stop⟩
set_option maxHeartbeats 800000 in
set_option maxRecDepth 100000 in
theorem inject_FramesN (k s d : Int) (h : mayW k s d = false) (w : World) :
    Calls Tryz.prog 4 #[.agg #[.int .i64 k, .int .i64 s], .int .i64 d] w fun e w' => e = .returned (.tuple #[.slice none 0 0, .int .i64 1]) ∧ ∃ j, w' = w.more j := by
  have HMY : Hid (∀ W, Calls Tryz.prog 10 #[.agg #[.int .i64 k, .int .i64 s], .int .i64 d] W fun e w' => e = .returned (.bool false) ∧ ∃ j, w' = W.more j) := fun W => by have := inject_mayW k s d W; rwa [h] at this
  clear h
  go_enter Tryz.func4, Tryz.ntmps4
  go_wp2_with (go_at_call 10; (with_reducible refine (HMY.out _).mono ?_); rintro e w' ⟨rfl, j, rfl⟩)
  go_ret2
  exact ⟨rfl, Below.junk bel⟩
set_option maxHeartbeats 800000 in
set_option maxRecDepth 100000 in
theorem ref46_Right (k s : Int) (w : World) : Calls Tryz.prog 13 #[.int .i64 k, .int .i64 s] w fun e w' => e = .returned (.bool (inR k 1 26 && inR s 1 topS)) ∧ w = w' := by
  obtain ⟨R, hR⟩ : ∃ R, R = (inR k 1 26 && inR s 1 topS) := ⟨_, rfl⟩
  rw [← hR]
  have HR : Hid (R = ((decide (1 ≤ k) && decide (k ≤ 26)) && (decide (1 ≤ s) && decide (s ≤ 2147483647)))) := hR
  clear hR
  go_enter Tryz.func13, Tryz.ntmps13
  go_wp2_with fail
  all_goals
    go_ret
    exact ⟨by rw [HR.out] <;> (first | (simp_all; done) | (simp_all; rfl) | (simp_all; omega) | grind | (simp_all <;> intros <;> simp_all <;> omega)), rfl⟩
end Go.Proofs.YtmlbomblbdbikaaGreatDoor
