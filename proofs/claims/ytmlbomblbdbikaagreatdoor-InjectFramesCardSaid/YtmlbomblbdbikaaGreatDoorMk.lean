/-
  Parts of the proof, one behind the other: contracts of the program and plain laws; no condition of their own.
-/
import Derived.Test.YtmlbomblbdbikaaGreatDoorMi
import Derived.Test.YtmlbomblbdbikaaGreatDoorMj
import Derived.Test.YtmlbomblbdbikaaGreatDoorMb
import Derived.Test.YtmlbomblbdbikaaGreatDoorMa
/-
  Reports: plain: which may be, their texts, and texts read, both roads.
-/
namespace Go.Proofs.YtmlbomblbdbikaaGreatDoor
set_option linter.unusedSimpArgs false
set_option linter.unusedVariables false
set_option linter.unusedSectionVars false
open Go.ChangeShapes Go.WideShapes Go.ChangeAt Go.RowKit Go.Deep

structure Rpt where
  c0 : Int
  c1 : Int
  c2 : Int
  c3 : Int
  c4 : Int
  c5 : Int
  l : List Rec
  v : Int
  t : Int
  fs : List Fl
  us : List Int
  f0 : Int
  f1 : Int
def zRpt : Rpt := ⟨0, 0, 0, 0, 0, 0, [], 0, 0, [], [], 0, 0⟩
def inR (n a b : Int) : Bool := decide (a ≤ n) && decide (n ≤ b)
def cfgR (c0 c1 c2 c3 c4 c5 : Int) : Bool := inR c0 0 64 && (inR c1 1 1024 && (inR c2 0 1048576 && (inR c3 1 32 && (inR c4 0 64 && inR c5 4096 1048576))))
def okK (r : Rec) : Bool := decide (r.kd = 1) || decide (r.kd = 2)
def lastK (l : List Rec) : Int := (l.getLast?.getD zRec).kd
def toldD (fs : List Fl) (us : List Int) : Bool := !fs.isEmpty && (!us.isEmpty && (decide (fs = ofF fs) && decide (us = ofR us)))
def noneD (fs : List Fl) (us : List Int) : Bool := fs.isEmpty && us.isEmpty
def endD2 (l : List Rec) (v t : Int) (fs : List Fl) (us : List Int) (f0 f1 : Int) : Bool :=
  !l.isEmpty && (decide (t = (l.length : Int) - 1) && (decide (lastK l = v) && (l.dropLast.all okK && ((decide (f0 = 0) && decide (f1 = 0)) && if v = 3 then toldD fs us else noneD fs us))))
def rightD (x : Rpt) : Bool :=
  cfgR x.c0 x.c1 x.c2 x.c3 x.c4 x.c5 && (x.l.all recR &&
    if x.v = 1 then x.l.all okK && (decide (x.t = (x.l.length : Int)) && (noneD x.fs x.us && decide (0 ≤ min x.f0 x.f1)))
    else if x.v = 3 ∨ x.v = 4 then endD2 x.l x.v x.t x.fs x.us x.f0 x.f1 else false)

/-! Texts. -/
def lineW (ws : List (List UInt8)) : List UInt8 := Lib.join ws [32]
def w1D : List (List UInt8) := [[115, 116, 105, 99, 107, 108, 101, 114], Lib.itoa 1]
def w2D (x : Rpt) : List (List UInt8) := [[99, 111, 110, 102, 105, 103], Lib.itoa x.c0, Lib.itoa x.c1, Lib.itoa x.c2, Lib.itoa x.c3, Lib.itoa x.c4, Lib.itoa x.c5]
def w3D (x : Rpt) : List (List UInt8) := [[102, 114, 97, 109, 101, 115], Lib.itoa (x.l.length : Int)]
def w4D (x : Rpt) : List (List UInt8) := [[118, 101, 114, 100, 105, 99, 116], kindF x.v, Lib.itoa x.t]
def w5D (x : Rpt) : List (List UInt8) := [[102, 97, 117, 108, 116, 115], showW x.fs]
def w6D (x : Rpt) : List (List UInt8) := [[114, 117, 108, 101, 115], showR x.us]
def w7D (x : Rpt) : List (List UInt8) := [[108, 101, 102, 116], Lib.itoa x.f0, Lib.itoa x.f1]
def linesD (x : Rpt) : List (List UInt8) := [lineW w1D, lineW (w2D x), lineW (w3D x)] ++ (x.l.map recLine ++ [lineW (w4D x), lineW (w5D x), lineW (w6D x), lineW (w7D x)])
def flatL (l : List (List UInt8)) : List UInt8 := l.flatMap (· ++ [10])
def textD (x : Rpt) : List UInt8 := flatL (linesD x)
theorem flatL_cons (a : List UInt8) (l : List (List UInt8)) : flatL (a :: l) = a ++ (10 :: flatL l) := by simp [flatL]
theorem flatL_app (l m : List (List UInt8)) : flatL (l ++ m) = flatL l ++ flatL m := by simp [flatL]
theorem cut_flat : ∀ l : List (List UInt8), (∀ x ∈ l, (10 : UInt8) ∉ x) → cutF 10 (flatL l) = l ++ [[]]
  | [], _ => rfl
  | a :: r, h => by
    rw [flatL_cons, cut_app 10 _ a (h a (by simp)), cut_flat r (fun x hx => h x (by simp [hx]))]
    rfl
theorem lines_flat {l : List (List UInt8)} (h : ∀ x ∈ l, (10 : UInt8) ∉ x) : linesF (flatL l) = (l, true) := by
  unfold linesF
  rw [cut_flat l h]
  simp
theorem join_flat : ∀ l : List (List UInt8), Lib.join (l ++ [[]]) [10] = flatL l
  | [] => by simp [Lib.join_one, flatL]
  | [a] => by rw [flatL_cons]; show Lib.join [a, []] [10] = _; rw [join_two, Lib.join_one]; rfl
  | a :: b :: r => by
    rw [flatL_cons]
    show Lib.join (a :: b :: (r ++ [[]])) [10] = _
    rw [join_two, ← join_flat (b :: r)]; rfl
theorem flat_back {s : List UInt8} (h : (linesF s).2 = true) : flatL (linesF s).1 = s := by
  unfold linesF at h ⊢
  split at h
  · rename_i hl
    rw [if_pos hl]
    obtain ⟨y, e⟩ := List.getLast?_eq_some_iff.1 hl
    rw [e]
    simp only [List.dropLast_concat]
    rw [← join_flat y, ← e, join_cut]
  · cases h
theorem mem_join (c : UInt8) (s : List UInt8) : ∀ l : List (List UInt8), c ∈ Lib.join l s → c ∈ s ∨ ∃ x ∈ l, c ∈ x
  | [], h => by simp [Lib.join_nil] at h
  | [a], h => by rw [Lib.join_one] at h; exact .inr ⟨a, by simp, h⟩
  | a :: b :: r, h => by
    rw [join_two] at h
    rcases List.mem_append.1 h with h | h
    · exact .inr ⟨a, by simp, h⟩
    · rcases List.mem_append.1 h with h | h
      · exact .inl h
      · rcases mem_join c s (b :: r) h with h | ⟨x, hx, h⟩
        · exact .inl h
        · exact .inr ⟨x, by simp only [List.mem_cons] at hx ⊢; exact .inr hx, h⟩
theorem okW_nl {w : List UInt8} (h : okW w = true) : (10 : UInt8) ∉ w := by
  rw [okW_R] at h
  simp only [Bool.and_eq_true, Bool.not_eq_true', List.any_eq_false] at h
  intro hm
  exact h.2 10 hm (by decide)
theorem line_nl {ws : List (List UInt8)} (h : ws.all okW = true) : (10 : UInt8) ∉ lineW ws := by
  intro hm
  rcases mem_join 10 [32] ws hm with h1 | ⟨x, hx, h1⟩
  · simp at h1
  · exact okW_nl (List.all_eq_true.1 h x hx) h1
theorem codeN_bytes (c : Int) : ∀ x ∈ codeN c, 33 ≤ x.toNat := by
  unfold codeN
  split
  · simp
  · split
    · rename_i h1 h2
      have : ∀ m : Fin 14, (cdName m.val).all (fun x => decide (33 ≤ x.toNat)) = true := by decide
      have h3 := this ⟨c.toNat, by omega⟩
      intro x hx
      exact of_decide_eq_true (List.all_eq_true.1 h3 x hx)
    · exact itoa_bytes c
theorem textW_bytes (f : Fl) : ∀ x ∈ textW f, 33 ≤ x.toNat := by
  unfold textW
  split
  · intro x hx
    rcases List.mem_append.1 hx with h | h
    · revert h
      unfold scopeW
      split
      · have : ([115, 116, 114, 101, 97, 109] : List UInt8).all (fun x => decide (33 ≤ x.toNat)) = true := by decide
        exact fun h => of_decide_eq_true (List.all_eq_true.1 this x h)
      · have : ([99, 111, 110, 110, 101, 99, 116, 105, 111, 110] : List UInt8).all (fun x => decide (33 ≤ x.toNat)) = true := by decide
        exact fun h => of_decide_eq_true (List.all_eq_true.1 this x h)
    · rcases List.mem_cons.1 h with rfl | h
      · decide
      · exact codeN_bytes _ x h
  · simp
theorem join_nil_of {l : List (List UInt8)} {s : List UInt8} (hs : s ≠ []) (hl : l ≠ []) (h1 : ∀ x ∈ l, x ≠ []) : Lib.join l s ≠ [] := by
  match l, hl with
  | [a], _ => rw [Lib.join_one]; exact h1 a (by simp)
  | a :: b :: r, _ => rw [join_two]; simp [hs]
theorem okW_show (l : List Fl) : okW (showW l) = true := by
  unfold showW
  split
  · decide
  · rename_i h
    refine okW_of (join_nil_of (by simp) (by simpa using h) ?_) ?_
    · simp only [List.mem_map]
      rintro x ⟨f, hf, rfl⟩
      rw [textW_right (ofF_right l f hf)]
      simp
    · intro c hc
      rcases mem_join c [44] _ hc with h1 | ⟨x, hx, h1⟩
      · simp at h1; subst h1; decide
      · simp only [List.mem_map] at hx
        obtain ⟨f, hf, rfl⟩ := hx
        exact textW_bytes f c h1
theorem rulW_bytes : ∀ i : Fin 35, (rulW.getD i.val []).all (fun x => decide (33 ≤ x.toNat)) = true := by decide +kernel
theorem okW_showR (l : List Int) : okW (showR l) = true := by
  unfold showR
  split
  · decide
  · rename_i h
    refine okW_of (join_nil_of (by simp) (by simpa using h) ?_) ?_
    · simp only [List.mem_map]
      rintro x ⟨n, hn, rfl⟩
      obtain ⟨k, rfl, hk⟩ := rul_in ((mem_ofR l n).1 hn).2
      rw [nameR_in k hk]
      exact rul_ne ⟨k, hk⟩
    · intro c hc
      rcases mem_join c [44] _ hc with h1 | ⟨x, hx, h1⟩
      · simp at h1; subst h1; decide
      · simp only [List.mem_map] at hx
        obtain ⟨n, hn, rfl⟩ := hx
        obtain ⟨k, rfl, hk⟩ := rul_in ((mem_ofR l n).1 hn).2
        rw [nameR_in k hk] at h1
        exact of_decide_eq_true (List.all_eq_true.1 (rulW_bytes ⟨k, hk⟩) c h1)
theorem w1_ok : w1D.all okW = true := by simp only [w1D, List.all_cons, okW_itoa, List.all_nil, Bool.and_true, Bool.true_and]; decide
theorem w2_ok (x : Rpt) : (w2D x).all okW = true := by simp only [w2D, List.all_cons, okW_itoa, List.all_nil, Bool.and_true, Bool.true_and]; decide
theorem w3_ok (x : Rpt) : (w3D x).all okW = true := by simp only [w3D, List.all_cons, okW_itoa, List.all_nil, Bool.and_true, Bool.true_and]; decide
theorem w4_ok {x : Rpt} (h : 1 ≤ x.v ∧ x.v ≤ 4) : (w4D x).all okW = true := by simp only [w4D, List.all_cons, okW_itoa, kindF_ok h, List.all_nil, Bool.and_true, Bool.true_and]; decide
theorem w5_ok (x : Rpt) : (w5D x).all okW = true := by simp only [w5D, List.all_cons, okW_show, List.all_nil, Bool.and_true, Bool.true_and]; decide
theorem w6_ok (x : Rpt) : (w6D x).all okW = true := by simp only [w6D, List.all_cons, okW_showR, List.all_nil, Bool.and_true, Bool.true_and]; decide
theorem w7_ok (x : Rpt) : (w7D x).all okW = true := by simp only [w7D, List.all_cons, okW_itoa, List.all_nil, Bool.and_true, Bool.true_and]; decide
theorem inR_iff {n a b : Int} : inR n a b = true ↔ a ≤ n ∧ n ≤ b := by simp [inR]
theorem right_v {x : Rpt} (h : rightD x = true) : 1 ≤ x.v ∧ x.v ≤ 4 := by
  unfold rightD at h
  simp only [Bool.and_eq_true] at h
  obtain ⟨_, _, h⟩ := h
  split at h
  · omega
  · split at h
    · omega
    · cases h
theorem right_l {x : Rpt} (h : rightD x = true) : x.l.all recR = true := by
  unfold rightD at h
  simp only [Bool.and_eq_true] at h
  exact h.2.1
theorem right_cfg {x : Rpt} (h : rightD x = true) : cfgR x.c0 x.c1 x.c2 x.c3 x.c4 x.c5 = true := by
  unfold rightD at h
  simp only [Bool.and_eq_true] at h
  exact h.1
theorem right_sets {x : Rpt} (h : rightD x = true) : ofF x.fs = x.fs ∧ ofR x.us = x.us := by
  unfold rightD at h
  simp only [Bool.and_eq_true] at h
  obtain ⟨_, _, h⟩ := h
  have hn : noneD x.fs x.us = true → ofF x.fs = x.fs ∧ ofR x.us = x.us := fun h => by
    simp only [noneD, Bool.and_eq_true, List.isEmpty_iff] at h
    rw [h.1, h.2]; exact ⟨rfl, rfl⟩
  split at h
  · simp only [Bool.and_eq_true] at h
    exact hn h.2.2.1
  · split at h
    · unfold endD2 at h
      simp only [Bool.and_eq_true] at h
      obtain ⟨_, _, _, _, _, h⟩ := h
      split at h
      · simp only [toldD, Bool.and_eq_true, decide_eq_true_eq] at h
        exact ⟨h.2.2.1.symm, h.2.2.2.symm⟩
      · exact hn h
    · cases h
def goodR (x : Rpt) : Prop := goodI x.t ∧ goodI x.f0 ∧ goodI x.f1 ∧ x.l.length ≤ 100000
theorem lines_of {x : Rpt} (h : rightD x = true) : linesF (textD x) = (linesD x, true) := by
  refine lines_flat ?_
  intro s hs
  unfold linesD at hs
  simp only [List.mem_append, List.mem_cons, List.mem_map, List.not_mem_nil, or_false] at hs
  rcases hs with (rfl | rfl | rfl) | ⟨r, hr, rfl⟩ | rfl | rfl | rfl | rfl
  · exact line_nl w1_ok
  · exact line_nl (w2_ok x)
  · exact line_nl (w3_ok x)
  · exact line_nl (recWords_ok (recR_ok (List.all_eq_true.1 (right_l h) r hr)))
  · exact line_nl (w4_ok (right_v h))
  · exact line_nl (w5_ok x)
  · exact line_nl (w6_ok x)
  · exact line_nl (w7_ok x)

/-! The program's road back: lines one behind the other, and whether one was none. -/
def nextD (many : Nat) (first : List UInt8) (L : List (List UInt8)) (b : Bool) : List (List UInt8) × List (List UInt8) × Bool :=
  match L with
  | [] => (List.replicate many [], [], true)
  | x :: r => if (splitF x).2 = true ∧ (splitF x).1.length = many + 1 ∧ (splitF x).1.head? = some first then ((splitF x).1.drop 1, r, b) else (List.replicate many [], r, true)
theorem next_len (many : Nat) (first : List UInt8) (L : List (List UInt8)) (b : Bool) : (nextD many first L b).1.length = many := by
  unfold nextD
  split
  · simp
  · split
    · rename_i h; simp [h.2.1]
    · simp
theorem next_line {many : Nat} {first : List UInt8} {ws : List (List UInt8)} {r : List (List UInt8)} {b : Bool} (h : (first :: ws).all okW = true) (hl : ws.length = many) : nextD many first (lineW (first :: ws) :: r) b = (ws, r, b) := by
  unfold nextD
  simp only
  unfold lineW
  rw [split_line _ h, if_pos ⟨rfl, by simp [hl], rfl⟩]
  rfl
theorem next_yes {many : Nat} {first : List UInt8} {L : List (List UInt8)} {b : Bool} (h : (nextD many first L b).2.2 = false) : b = false ∧ ∃ ws r, ws.length = many ∧ L = lineW (first :: ws) :: r ∧ nextD many first L b = (ws, r, false) := by
  unfold nextD at h ⊢
  split at h
  · cases h
  · rename_i x r
    split at h
    · rename_i hc
      simp only at h
      subst h
      simp only
      rw [if_pos hc]
      obtain ⟨h1, h2, h3⟩ := hc
      have hb := split_back h1
      generalize splitF x = p at h1 h2 h3 hb
      obtain ⟨l, o⟩ := p
      simp only at h1 h2 h3 hb ⊢
      match l, h3 with
      | a :: ws, h3 =>
        simp only [List.head?_cons, Option.some.injEq] at h3
        subst h3
        exact ⟨trivial, ws, r, by simpa using h2, by rw [← hb]; rfl, rfl⟩
    · cases h
def numD (s : List UInt8) (b : Bool) : Int × Bool := ((readF s).1, b || !(readF s).2)
theorem num_itoa {n : Int} (h : goodI n) (b : Bool) : numD (Lib.itoa n) b = (n, b) := by
  unfold numD
  rw [readF_itoa h.1 h.2]
  simp
theorem num_yes {s : List UInt8} {b : Bool} (h : (numD s b).2 = false) : b = false ∧ Lib.itoa (numD s b).1 = s ∧ goodI (numD s b).1 := by
  unfold numD at h ⊢
  simp only [Bool.or_eq_false_iff, Bool.not_eq_false'] at h
  obtain ⟨h1, h2⟩ := h
  obtain ⟨h3, h4, h5⟩ := readF_yes h2
  exact ⟨h1, h3, h4, h5⟩
def atD (l : List (List UInt8)) (k : Nat) : List UInt8 := l.getD k []
structure CfD where
  c0 : Int
  c1 : Int
  c2 : Int
  c3 : Int
  c4 : Int
  c5 : Int
def configD (L : List (List UInt8)) (b : Bool) : CfD × List (List UInt8) × Bool :=
  let n := nextD 6 [99, 111, 110, 102, 105, 103] L b
  let n0 := numD (atD n.1 0) n.2.2
  let n1 := numD (atD n.1 1) n0.2
  let n2 := numD (atD n.1 2) n1.2
  let n3 := numD (atD n.1 3) n2.2
  let n4 := numD (atD n.1 4) n3.2
  let n5 := numD (atD n.1 5) n4.2
  (⟨n0.1, n1.1, n2.1, n3.1, n4.1, n5.1⟩, n.2.1, n5.2)
def recsD : Nat → List (List UInt8) → Bool → List Rec × List (List UInt8) × Bool
  | 0, L, b => ([], L, b)
  | _ + 1, [], b => ([], [], b)
  | n + 1, x :: r, b => let p := recsD n r (b || !(readRecF x).2); ((readRecF x).1 :: p.1, p.2)
def recordsD (L : List (List UInt8)) (b : Bool) : List Rec × List (List UInt8) × Bool :=
  let n := nextD 1 [102, 114, 97, 109, 101, 115] L b
  let k := numD (atD n.1 0) n.2.2
  if k.2 = true ∨ k.1 ≠ (n.2.1.length : Int) - 4 then ([], n.2.1, true) else recsD k.1.toNat n.2.1 false
def verdictD (L : List (List UInt8)) (b : Bool) : Int × Int × List (List UInt8) × Bool :=
  let n := nextD 2 [118, 101, 114, 100, 105, 99, 116] L b
  let k := numD (atD n.1 1) n.2.2
  ((kindB (atD n.1 0)).1, k.1, n.2.1, k.2)
def headD (L : List (List UInt8)) (is : Bool) : List (List UInt8) × Bool :=
  if is = true then
    let n := nextD 1 [115, 116, 105, 99, 107, 108, 101, 114] L false
    (n.2.1, n.2.2 || !(atD n.1 0 == [49]))
  else (L, true)
def readD2 (L : List (List UInt8)) (is : Bool) : Rpt × Bool :=
  let s1 := headD L is
  let s2 := configD s1.1 s1.2
  let s3 := recordsD s2.2.1 s2.2.2
  let s4 := verdictD s3.2.1 s3.2.2
  let n5 := nextD 1 [102, 97, 117, 108, 116, 115] s4.2.2.1 s4.2.2.2
  let n6 := nextD 1 [114, 117, 108, 101, 115] n5.2.1 n5.2.2
  let n7 := nextD 2 [108, 101, 102, 116] n6.2.1 n6.2.2
  let k0 := numD (atD n7.1 0) n7.2.2
  let k1 := numD (atD n7.1 1) k0.2
  let x : Rpt := ⟨s2.1.c0, s2.1.c1, s2.1.c2, s2.1.c3, s2.1.c4, s2.1.c5, s3.1, s4.1, s4.2.1, (setW (atD n5.1 0)).1, (setRP (atD n6.1 0)).1, k0.1, k1.1⟩
  if (k1.2 || (!((setW (atD n5.1 0)).2 && (setRP (atD n6.1 0)).2) || (!n7.2.1.isEmpty || !rightD x))) = true then (zRpt, false) else (x, true)
def readRp (s : List UInt8) : Rpt × Bool := readD2 (linesF s).1 (linesF s).2
theorem recs_map : ∀ (l : List Rec) (T : List (List UInt8)), (∀ r ∈ l, recR r = true) → recsD l.length (l.map recLine ++ T) false = (l, T, false)
  | [], T, _ => by cases T <;> rfl
  | r :: l, T, h => by
    show recsD (l.length + 1) (recLine r :: (l.map recLine ++ T)) false = _
    unfold recsD
    rw [readRec_line (h r (by simp))]
    simp only [Bool.not_true, Bool.or_false]
    rw [recs_map l T (fun x hx => h x (by simp [hx]))]
theorem recs_yes : ∀ (n : Nat) (L : List (List UInt8)) (b : Bool), n ≤ L.length → (recsD n L b).2.2 = false → b = false ∧ (recsD n L b).1.length = n ∧ L = (recsD n L b).1.map recLine ++ (recsD n L b).2.1 ∧ (recsD n L b).1.all recR = true
  | 0, L, b, _, h => by cases L <;> simp_all [recsD]
  | n + 1, [], b, hn, h => by simp at hn
  | n + 1, x :: r, b, hn, h => by
    unfold recsD at h ⊢
    simp only at h ⊢
    obtain ⟨h1, h2, h3, h4⟩ := recs_yes n r _ (by simpa using hn) h
    simp only [Bool.or_eq_false_iff, Bool.not_eq_false'] at h1
    obtain ⟨h5, h6⟩ := readRec_yes h1.2
    refine ⟨h1.1, by simp [h2], ?_, ?_⟩
    · rw [List.map_cons, h6, List.cons_append, ← h3]
    · rw [List.all_cons, h5, h4]; rfl
theorem itoa_one : Lib.itoa 1 = [49] := by
  rw [show (1 : Int) = ((1 : Nat) : Int) from rfl, itoa_pos, dec_lo (by omega)]
  decide
theorem cfg_good {c0 c1 c2 c3 c4 c5 : Int} (h : cfgR c0 c1 c2 c3 c4 c5 = true) : goodI c0 ∧ goodI c1 ∧ goodI c2 ∧ goodI c3 ∧ goodI c4 ∧ goodI c5 := by
  unfold cfgR at h
  simp only [Bool.and_eq_true, inR_iff] at h
  unfold goodI
  omega
theorem read_lines {x : Rpt} (h : rightD x = true) (hg : goodR x) : readD2 (linesD x) true = (x, true) := by
  obtain ⟨g0, g1, g2, g3, g4, g5⟩ := cfg_good (right_cfg h)
  obtain ⟨gt, gf, gg, gl⟩ := hg
  obtain ⟨hf, hu⟩ := right_sets h
  have e1 : headD (linesD x) true = ([lineW (w2D x), lineW (w3D x)] ++ (x.l.map recLine ++ [lineW (w4D x), lineW (w5D x), lineW (w6D x), lineW (w7D x)]), false) := by
    unfold headD
    rw [if_pos rfl]
    unfold linesD w1D
    simp only [List.cons_append, List.nil_append]
    rw [next_line (many := 1) w1_ok rfl]
    simp only [atD, List.getD_cons_zero, itoa_one]
    simp
  have e2 : configD ([lineW (w2D x), lineW (w3D x)] ++ (x.l.map recLine ++ [lineW (w4D x), lineW (w5D x), lineW (w6D x), lineW (w7D x)])) false = (⟨x.c0, x.c1, x.c2, x.c3, x.c4, x.c5⟩, lineW (w3D x) :: (x.l.map recLine ++ [lineW (w4D x), lineW (w5D x), lineW (w6D x), lineW (w7D x)]), false) := by
    unfold configD
    simp only [List.cons_append, List.nil_append]
    unfold w2D
    rw [next_line (many := 6) (w2_ok x) rfl]
    simp only [atD, List.getD_cons_zero, List.getD_cons_succ, num_itoa g0, num_itoa g1, num_itoa g2, num_itoa g3, num_itoa g4, num_itoa g5]
  have e3 : recordsD (lineW (w3D x) :: (x.l.map recLine ++ [lineW (w4D x), lineW (w5D x), lineW (w6D x), lineW (w7D x)])) false = (x.l, [lineW (w4D x), lineW (w5D x), lineW (w6D x), lineW (w7D x)], false) := by
    unfold recordsD w3D
    rw [next_line (many := 1) (w3_ok x) rfl]
    simp only [atD, List.getD_cons_zero]
    rw [num_itoa (by unfold goodI; omega)]
    simp only
    rw [if_neg (by simp), Int.toNat_natCast, recs_map x.l _ (List.all_eq_true.1 (right_l h))]
  have e4 : verdictD [lineW (w4D x), lineW (w5D x), lineW (w6D x), lineW (w7D x)] false = (x.v, x.t, [lineW (w5D x), lineW (w6D x), lineW (w7D x)], false) := by
    unfold verdictD w4D
    rw [next_line (many := 2) (w4_ok (right_v h)) rfl]
    simp only [atD, List.getD_cons_zero, List.getD_cons_succ]
    rw [num_itoa gt, kindB_kind (right_v h)]
  unfold readD2
  simp only [e1, e2, e3, e4]
  unfold w5D w6D w7D
  rw [next_line (many := 1) (w5_ok x) rfl]
  simp only
  rw [next_line (many := 1) (w6_ok x) rfl]
  simp only
  rw [next_line (many := 2) (w7_ok x) rfl]
  simp only [atD, List.getD_cons_zero, List.getD_cons_succ]
  rw [num_itoa gf]
  simp only
  rw [num_itoa gg, setW_show, setR_show, hf, hu]
  simp only [List.isEmpty_nil, Bool.not_true, Bool.and_true, Bool.false_or]
  rw [h]
  rfl
theorem readRp_text {x : Rpt} (h : rightD x = true) (hg : goodR x) : readRp (textD x) = (x, true) := by
  unfold readRp
  rw [lines_of h]
  exact read_lines h hg
theorem setW_yes {s : List UInt8} (h : (setW s).2 = true) : showW (setW s).1 = s := by
  rw [setW_eq] at h ⊢
  unfold setD at h ⊢
  by_cases h0 : s = [45]
  · rw [if_pos h0]; subst h0; rfl
  · rw [if_neg h0] at h ⊢
    cases ha : allD (cutF 44 s) with
    | none => rw [ha] at h; cases h
    | some l =>
      rw [ha] at h
      simp only at h ⊢
      by_cases hs : showW l = s
      · rw [if_pos hs]; exact hs
      · rw [if_neg hs] at h; cases h
theorem showR_of (l : List Int) : showR (ofR l) = showR l := by unfold showR; rw [ofR_of]
theorem setRP_yes {s : List UInt8} (h : (setRP s).2 = true) : showR (setRP s).1 = s := by
  rw [setR_eq] at h ⊢
  unfold setRD at h ⊢
  by_cases h0 : s = [45]
  · rw [if_pos h0]; subst h0; rfl
  · rw [if_neg h0] at h ⊢
    by_cases hs : showR ((cutF 44 s).map numR) = s
    · rw [if_pos hs]; simp only; rw [showR_of]; exact hs
    · rw [if_neg hs] at h; cases h
theorem len1 {l : List (List UInt8)} (h : l.length = 1) : l = [atD l 0] := by
  match l, h with
  | [a], _ => rfl
theorem len2 {l : List (List UInt8)} (h : l.length = 2) : l = [atD l 0, atD l 1] := by
  match l, h with
  | [a, b], _ => rfl
theorem len6 {l : List (List UInt8)} (h : l.length = 6) : l = [atD l 0, atD l 1, atD l 2, atD l 3, atD l 4, atD l 5] := by
  match l, h with
  | [a, b, c, d, e, f], _ => rfl
theorem readD_yes {L : List (List UInt8)} {is : Bool} (h : (readD2 L is).2 = true) : is = true ∧ rightD (readD2 L is).1 = true ∧ linesD (readD2 L is).1 = L ∧ goodI (readD2 L is).1.t ∧ goodI (readD2 L is).1.f0 ∧ goodI (readD2 L is).1.f1 := by
  unfold readD2 at h ⊢
  simp only at h ⊢
  generalize hs1 : headD L is = s1 at h ⊢
  generalize hs2 : configD s1.1 s1.2 = s2 at h ⊢
  generalize hs3 : recordsD s2.2.1 s2.2.2 = s3 at h ⊢
  generalize hs4 : verdictD s3.2.1 s3.2.2 = s4 at h ⊢
  generalize hn5 : nextD 1 [102, 97, 117, 108, 116, 115] s4.2.2.1 s4.2.2.2 = n5 at h ⊢
  generalize hn6 : nextD 1 [114, 117, 108, 101, 115] n5.2.1 n5.2.2 = n6 at h ⊢
  generalize hn7 : nextD 2 [108, 101, 102, 116] n6.2.1 n6.2.2 = n7 at h ⊢
  generalize hk0 : numD (atD n7.1 0) n7.2.2 = k0 at h ⊢
  generalize hk1 : numD (atD n7.1 1) k0.2 = k1 at h ⊢
  split at h
  · cases h
  · rename_i hc
    rw [if_neg hc]
    simp only [Bool.or_eq_true, Bool.not_eq_true', not_or, Bool.not_eq_true, Bool.not_eq_false, Bool.and_eq_true] at hc
    obtain ⟨c1, ⟨c2, c3⟩, c4, c5⟩ := hc
    simp only
    -- the numbers behind 'left'
    obtain ⟨d1, d2, d3⟩ := num_yes (s := atD n7.1 1) (b := k0.2) (by rw [hk1]; exact c1)
    obtain ⟨d4, d5, d6⟩ := num_yes (s := atD n7.1 0) (b := n7.2.2) (by rw [hk0]; exact d1)
    rw [hk1] at d2 d3
    rw [hk0] at d5 d6
    obtain ⟨f1, w7, r7, l7, q7, p7⟩ := next_yes (many := 2) (first := [108, 101, 102, 116]) (L := n6.2.1) (b := n6.2.2) (by rw [hn7]; exact d4)
    rw [hn7] at p7
    subst p7
    obtain ⟨f2, w6, r6, l6, q6, p6⟩ := next_yes (many := 1) (first := [114, 117, 108, 101, 115]) (L := n5.2.1) (b := n5.2.2) (by rw [hn6]; exact f1)
    rw [hn6] at p6
    subst p6
    obtain ⟨f3, w5, r5, l5, q5, p5⟩ := next_yes (many := 1) (first := [102, 97, 117, 108, 116, 115]) (L := s4.2.2.1) (b := s4.2.2.2) (by rw [hn5]; exact f2)
    rw [hn5] at p5
    subst p5
    simp only at q7 q6 c4 d2 d5 c2 c3 c5 ⊢
    obtain rfl : r7 = [] := List.isEmpty_iff.1 (by simpa using c4)
    -- the verdict
    unfold verdictD at hs4
    simp only at hs4
    generalize hn4 : nextD 2 [118, 101, 114, 100, 105, 99, 116] s3.2.1 s3.2.2 = n4 at hs4
    generalize hk4 : numD (atD n4.1 1) n4.2.2 = k4 at hs4
    subst hs4
    simp only at f3 q5 c5 ⊢
    obtain ⟨g1, g2, g3⟩ := num_yes (s := atD n4.1 1) (b := n4.2.2) (by rw [hk4]; exact f3)
    rw [hk4] at g2 g3
    obtain ⟨f4, w4, r4, l4, q4, p4⟩ := next_yes (many := 2) (first := [118, 101, 114, 100, 105, 99, 116]) (L := s3.2.1) (b := s3.2.2) (by rw [hn4]; exact g1)
    rw [hn4] at p4
    subst p4
    simp only at q5 g2 c5 ⊢
    have hkv : kindF (kindB (atD w4 0)).1 = atD w4 0 := by
      have hv := right_v c5
      simp only at hv
      by_cases hb : (kindB (atD w4 0)).2 = true
      · exact scan_pair hb
      · have := scan_false kindF (atD w4 0) 4 1 (by unfold kindB at hb; simpa using hb)
        have hz : (kindB (atD w4 0)).1 = 0 := by unfold kindB; rw [this]
        rw [hz] at hv
        omega
    -- the records
    unfold recordsD at hs3
    simp only at hs3
    generalize hn3 : nextD 1 [102, 114, 97, 109, 101, 115] s2.2.1 s2.2.2 = n3 at hs3
    generalize hk3 : numD (atD n3.1 0) n3.2.2 = k3 at hs3
    split at hs3
    · subst hs3; cases f4
    · rename_i hc3
      simp only [not_or, Bool.not_eq_true, Decidable.not_not] at hc3
      obtain ⟨m1, m2⟩ := hc3
      obtain ⟨m3, m4, m5⟩ := num_yes (s := atD n3.1 0) (b := n3.2.2) (by rw [hk3]; exact m1)
      rw [hk3] at m4 m5
      have hq : k3.1.toNat ≤ n3.2.1.length := by omega
      obtain ⟨_, x1, x2, x3⟩ := recs_yes k3.1.toNat n3.2.1 false hq (by rw [hs3]; exact f4)
      rw [hs3] at x1 x2 x3
      obtain ⟨f5, w3, r3, l3, q3, p3⟩ := next_yes (many := 1) (first := [102, 114, 97, 109, 101, 115]) (L := s2.2.1) (b := s2.2.2) (by rw [hn3]; exact m3)
      rw [hn3] at p3
      subst p3
      simp only at x2 m4 m2 hq
      have h3len : k3.1 = (s3.1.length : Int) := by
        have hx : r3.length = s3.1.length + s3.2.1.length := by
          have := congrArg List.length x2
          simpa using this
        have h4 : s3.2.1.length = 4 := by rw [q4, q5, q6, q7]; rfl
        omega
      -- the config
      unfold configD at hs2
      simp only at hs2
      generalize hn2 : nextD 6 [99, 111, 110, 102, 105, 103] s1.1 s1.2 = n2 at hs2
      generalize ha0 : numD (atD n2.1 0) n2.2.2 = a0 at hs2
      generalize ha1 : numD (atD n2.1 1) a0.2 = a1 at hs2
      generalize ha2 : numD (atD n2.1 2) a1.2 = a2 at hs2
      generalize ha3 : numD (atD n2.1 3) a2.2 = a3 at hs2
      generalize ha4 : numD (atD n2.1 4) a3.2 = a4 at hs2
      generalize ha5 : numD (atD n2.1 5) a4.2 = a5 at hs2
      subst hs2
      simp only at f5 q3 c5 ⊢
      obtain ⟨b5, e5, _⟩ := num_yes (s := atD n2.1 5) (b := a4.2) (by rw [ha5]; exact f5)
      obtain ⟨b4, e4, _⟩ := num_yes (s := atD n2.1 4) (b := a3.2) (by rw [ha4]; exact b5)
      obtain ⟨b3, e3, _⟩ := num_yes (s := atD n2.1 3) (b := a2.2) (by rw [ha3]; exact b4)
      obtain ⟨b2, e2, _⟩ := num_yes (s := atD n2.1 2) (b := a1.2) (by rw [ha2]; exact b3)
      obtain ⟨b1, e1, _⟩ := num_yes (s := atD n2.1 1) (b := a0.2) (by rw [ha1]; exact b2)
      obtain ⟨b0, e0, _⟩ := num_yes (s := atD n2.1 0) (b := n2.2.2) (by rw [ha0]; exact b1)
      rw [ha5] at e5
      rw [ha4] at e4
      rw [ha3] at e3
      rw [ha2] at e2
      rw [ha1] at e1
      rw [ha0] at e0
      obtain ⟨f6, w2, r2, l2, q2, p2⟩ := next_yes (many := 6) (first := [99, 111, 110, 102, 105, 103]) (L := s1.1) (b := s1.2) (by rw [hn2]; exact b0)
      rw [hn2] at p2
      subst p2
      simp only at q3 e0 e1 e2 e3 e4 e5
      -- the head
      unfold headD at hs1
      cases is with
      | false => rw [if_neg (by simp)] at hs1; subst hs1; cases f6
      | true =>
        rw [if_pos rfl] at hs1
        simp only at hs1
        generalize hn1 : nextD 1 [115, 116, 105, 99, 107, 108, 101, 114] L false = n1 at hs1
        subst hs1
        simp only [Bool.or_eq_false_iff, Bool.not_eq_false', beq_iff_eq] at f6 q2
        obtain ⟨f7, f8⟩ := f6
        obtain ⟨_, w1, r1, l1, q1, p1⟩ := next_yes (many := 1) (first := [115, 116, 105, 99, 107, 108, 101, 114]) (L := L) (b := false) (by rw [hn1]; exact f7)
        rw [hn1] at p1
        subst p1
        simp only at q2 f8
        have h5 := setW_yes c2
        have h6 := setRP_yes c3
        refine ⟨rfl, c5, ?_, g3, d6, d3⟩
        generalize (setW (atD w5 0)).1 = vf at h5 ⊢
        generalize (setRP (atD w6 0)).1 = vu at h6 ⊢
        generalize (kindB (atD w4 0)).1 = vk at hkv ⊢
        have E1 : w1 = [Lib.itoa 1] := (len1 l1).trans (by rw [f8, itoa_one])
        have E2 : w2 = [Lib.itoa a0.1, Lib.itoa a1.1, Lib.itoa a2.1, Lib.itoa a3.1, Lib.itoa a4.1, Lib.itoa a5.1] := (len6 l2).trans (by rw [e0, e1, e2, e3, e4, e5])
        have E3 : w3 = [Lib.itoa (s3.1.length : Int)] := (len1 l3).trans (by rw [← m4, h3len])
        have E4 : w4 = [kindF vk, Lib.itoa k4.1] := (len2 l4).trans (by rw [hkv, g2])
        have E5 : w5 = [showW vf] := (len1 l5).trans (by rw [h5])
        have E6 : w6 = [showR vu] := (len1 l6).trans (by rw [h6])
        have E7 : w7 = [Lib.itoa k0.1, Lib.itoa k1.1] := (len2 l7).trans (by rw [d5, d2])
        rw [q1, q2, q3, x2, q4, q5, q6, q7, E1, E2, E3, E4, E5, E6, E7]
        unfold linesD w1D w2D w3D w4D w5D w6D w7D
        simp only [List.cons_append, List.nil_append, List.map_append, List.append_assoc]
theorem readRp_yes {s : List UInt8} (h : (readRp s).2 = true) : rightD (readRp s).1 = true ∧ textD (readRp s).1 = s ∧ goodI (readRp s).1.t ∧ goodI (readRp s).1.f0 ∧ goodI (readRp s).1.f1 := by
  unfold readRp at h ⊢
  obtain ⟨h1, h2, h3, h4⟩ := readD_yes h
  refine ⟨h2, ?_, h4⟩
  unfold textD
  rw [h3]
  exact flat_back h1
theorem readRp_no {s : List UInt8} (h : (readRp s).2 = false) : readRp s = (zRpt, false) := by
  unfold readRp readD2 at h ⊢
  simp only at h ⊢
  split
  · rfl
  · rename_i hc
    rw [if_neg hc] at h
    cases h
end Go.Proofs.YtmlbomblbdbikaaGreatDoor
/-
  Reports: plain: the document's road back; both roads are one.
-/
namespace Go.Proofs.YtmlbomblbdbikaaGreatDoor
set_option linter.unusedSimpArgs false
set_option linter.unusedVariables false
set_option linter.unusedSectionVars false
open Go.ChangeShapes Go.WideShapes Go.ChangeAt Go.RowKit Go.Deep

def nmR (l : List (List UInt8)) (i : Nat) : Int := if (readF (atD l i)).2 = true then (readF (atD l i)).1 else -1
theorem nm_good (l : List (List UInt8)) (i : Nat) : goodI (nmR l i) := by
  unfold nmR
  split
  · rename_i h
    exact (readF_yes h).2
  · unfold goodI; omega
theorem nm_itoa {l : List (List UInt8)} {i : Nat} {n : Int} (h : atD l i = Lib.itoa n) (hg : goodI n) : nmR l i = n := by
  unfold nmR
  rw [h, readF_itoa hg.1 hg.2, if_pos rfl]
def spR (L : List (List UInt8)) (i : Nat) : List (List UInt8) := (splitF (atD L i)).1
def recsR : List (List UInt8) → Option (List Rec)
  | [] => some []
  | x :: r => if (readRecF x).2 = true then (recsR r).map ((readRecF x).1 :: ·) else none
theorem recsR_map : ∀ (l : List Rec), (∀ r ∈ l, recR r = true) → recsR (l.map recLine) = some l
  | [], _ => rfl
  | r :: l, h => by
    rw [List.map_cons, recsR, readRec_line (h r (by simp)), if_pos rfl, recsR_map l (fun x hx => h x (by simp [hx]))]
    rfl
theorem recsR_len : ∀ {L : List (List UInt8)} {l : List Rec}, recsR L = some l → l.length = L.length
  | [], l, h => by simp only [recsR] at h; injection h with h; subst h; rfl
  | x :: r, l, h => by
    unfold recsR at h
    split at h
    · obtain ⟨m, h1, rfl⟩ := Option.map_eq_some_iff.1 h
      simp [recsR_len h1]
    · cases h
def mkR (L : List (List UInt8)) (n : Nat) (recs : List Rec) : Rpt :=
  ⟨nmR (spR L 1) 1, nmR (spR L 1) 2, nmR (spR L 1) 3, nmR (spR L 1) 4, nmR (spR L 1) 5, nmR (spR L 1) 6, recs, (kindB (atD (spR L (3 + n)) 1)).1, nmR (spR L (3 + n)) 2,
    (setW (atD (spR L (4 + n)) 1)).1, (setRD (atD (spR L (5 + n)) 1)).1, nmR (spR L (6 + n)) 1, nmR (spR L (6 + n)) 2⟩
def endR (s : List UInt8) (x : Rpt) : Rpt × Bool := if rightD x = true ∧ textD x = s then (x, true) else (zRpt, false)
def bodyR (s : List UInt8) (L : List (List UInt8)) (n : Nat) : Option (List Rec) → Rpt × Bool
  | none => (zRpt, false)
  | some recs => endR s (mkR L n recs)
def refRp (s : List UInt8) : Rpt × Bool :=
  if (linesF s).2 = false ∨ (linesF s).1.length < 7 then (zRpt, false)
  else bodyR s (linesF s).1 ((linesF s).1.length - 7) (recsR (((linesF s).1.drop 3).take ((linesF s).1.length - 7)))
theorem linesF_le (s : List UInt8) : (linesF s).1.length ≤ s.length + 1 := by
  have h := cut_len 10 s
  unfold linesF
  split
  · simp; omega
  · simp
theorem refRp_yes {s : List UInt8} (hs : s.length ≤ 90000) (h : (refRp s).2 = true) : rightD (refRp s).1 = true ∧ textD (refRp s).1 = s ∧ goodR (refRp s).1 := by
  have hl := linesF_le s
  unfold refRp at h ⊢
  split at h
  · cases h
  · rename_i hc
    rw [if_neg hc]
    generalize (linesF s).1 = L at h hl ⊢
    cases hr : recsR ((L.drop 3).take (L.length - 7)) with
    | none => rw [hr] at h; cases h
    | some recs =>
      rw [hr] at h
      have hlen := recsR_len hr
      simp only [bodyR] at h ⊢
      unfold endR at h ⊢
      split at h
      · rename_i hx
        rw [if_pos hx]
        refine ⟨hx.1, hx.2, nm_good _ _, nm_good _ _, nm_good _ _, ?_⟩
        show recs.length ≤ 100000
        rw [hlen]
        simp only [List.length_take, List.length_drop]
        omega
      · cases h
theorem refRp_no {s : List UInt8} (h : (refRp s).2 = false) : refRp s = (zRpt, false) := by
  unfold refRp at h ⊢
  split
  · rfl
  · rename_i hc
    rw [if_neg hc] at h
    generalize recsR _ = o at h ⊢
    cases o with
    | none => rfl
    | some recs =>
      simp only [bodyR] at h ⊢
      unfold endR at h ⊢
      split
      · rename_i hx; rw [if_pos hx] at h; cases h
      · rfl
theorem linesD_len (x : Rpt) : (linesD x).length = x.l.length + 7 := by simp [linesD]
theorem at_app (a b : List (List UInt8)) (k : Nat) : atD (a ++ b) (a.length + k) = atD b k := by
  unfold atD
  rw [List.getD_eq_getElem?_getD, List.getD_eq_getElem?_getD, List.getElem?_append_right (by omega)]
  congr 2; omega
theorem at_tail (x : Rpt) (k : Nat) : atD (linesD x) (3 + x.l.length + k) = atD [lineW (w4D x), lineW (w5D x), lineW (w6D x), lineW (w7D x)] k := by
  have h := at_app ([lineW w1D, lineW (w2D x), lineW (w3D x)] ++ x.l.map recLine) [lineW (w4D x), lineW (w5D x), lineW (w6D x), lineW (w7D x)] k
  simp only [List.length_append, List.length_map, List.length_cons, List.length_nil] at h
  unfold linesD
  rw [← List.append_assoc]
  exact h
theorem refRp_text {x : Rpt} (h : rightD x = true) (hg : goodR x) : refRp (textD x) = (x, true) := by
  obtain ⟨g0, g1, g2, g3, g4, g5⟩ := cfg_good (right_cfg h)
  obtain ⟨gt, gf, gg, gl⟩ := hg
  obtain ⟨hf, hu⟩ := right_sets h
  unfold refRp
  rw [lines_of h]
  simp only
  rw [if_neg (by rw [linesD_len]; simp), linesD_len, Nat.add_sub_cancel]
  have e1 : ((linesD x).drop 3).take x.l.length = x.l.map recLine := by
    unfold linesD
    show (x.l.map recLine ++ _).take x.l.length = _
    exact List.take_left' (by simp)
  rw [e1, recsR_map x.l (List.all_eq_true.1 (right_l h))]
  simp only [bodyR]
  have s1 : spR (linesD x) 1 = w2D x := by
    unfold spR
    rw [show atD (linesD x) 1 = lineW (w2D x) from rfl]
    unfold lineW
    rw [split_line _ (w2_ok x)]
  have s4 : spR (linesD x) (3 + x.l.length) = w4D x := by
    unfold spR
    rw [show atD (linesD x) (3 + x.l.length) = lineW (w4D x) from at_tail x 0]
    unfold lineW
    rw [split_line _ (w4_ok (right_v h))]
  have s5 : spR (linesD x) (4 + x.l.length) = w5D x := by
    unfold spR
    rw [show 4 + x.l.length = 3 + x.l.length + 1 by omega, show atD (linesD x) (3 + x.l.length + 1) = lineW (w5D x) from at_tail x 1]
    unfold lineW
    rw [split_line _ (w5_ok x)]
  have s6 : spR (linesD x) (5 + x.l.length) = w6D x := by
    unfold spR
    rw [show 5 + x.l.length = 3 + x.l.length + 2 by omega, show atD (linesD x) (3 + x.l.length + 2) = lineW (w6D x) from at_tail x 2]
    unfold lineW
    rw [split_line _ (w6_ok x)]
  have s7 : spR (linesD x) (6 + x.l.length) = w7D x := by
    unfold spR
    rw [show 6 + x.l.length = 3 + x.l.length + 3 by omega, show atD (linesD x) (3 + x.l.length + 3) = lineW (w7D x) from at_tail x 3]
    unfold lineW
    rw [split_line _ (w7_ok x)]
  have hx : mkR (linesD x) x.l.length x.l = x := by
    unfold mkR
    rw [s1, s4, s5, s6, s7, nm_itoa (i := 1) (n := x.c0) rfl g0, nm_itoa (i := 2) (n := x.c1) rfl g1, nm_itoa (i := 3) (n := x.c2) rfl g2, nm_itoa (i := 4) (n := x.c3) rfl g3, nm_itoa (i := 5) (n := x.c4) rfl g4, nm_itoa (i := 6) (n := x.c5) rfl g5,
      nm_itoa (i := 2) (n := x.t) rfl gt, nm_itoa (l := w7D x) (i := 1) (n := x.f0) rfl gf, nm_itoa (l := w7D x) (i := 2) (n := x.f1) rfl gg,
      show atD (w4D x) 1 = kindF x.v from rfl, kindB_kind (right_v h), show atD (w5D x) 1 = showW x.fs from rfl, setW_show, show atD (w6D x) 1 = showR x.us from rfl, ← setR_eq, setR_show, hf, hu]
  rw [hx]
  unfold endR
  rw [if_pos ⟨h, rfl⟩]
theorem readRp_good {s : List UInt8} (hs : s.length ≤ 90000) (h : (readRp s).2 = true) : goodR (readRp s).1 := by
  obtain ⟨h1, h2, h3, h4, h5⟩ := readRp_yes h
  refine ⟨h3, h4, h5, ?_⟩
  have hl := linesF_le s
  rw [← h2, lines_of h1, linesD_len, h2] at hl
  omega
theorem read_ref {s : List UInt8} (hs : s.length ≤ 90000) : readRp s = refRp s := by
  cases h : (readRp s).2 with
  | true =>
    obtain ⟨h1, h2, _⟩ := readRp_yes h
    have := refRp_text h1 (readRp_good hs h)
    rw [h2] at this
    rw [this]
    exact Prod.ext rfl h
  | false =>
    cases h2 : (refRp s).2 with
    | true =>
      obtain ⟨h1, h3, h4⟩ := refRp_yes hs h2
      have := readRp_text h1 h4
      rw [h3] at this
      rw [this] at h
      cases h
    | false => rw [readRp_no h, refRp_no h2]
end Go.Proofs.YtmlbomblbdbikaaGreatDoor
/-
  Scenarios: plain: which steps may be, a step's words, and words read as a step, both roads.
-/
namespace Go.Proofs.YtmlbomblbdbikaaGreatDoor
set_option linter.unusedSimpArgs false
set_option linter.unusedVariables false
set_option linter.unusedSectionVars false
open Go.ChangeShapes Go.WideShapes Go.ChangeAt Go.RowKit Go.Deep

structure St where
  kd : Int
  sm : Int
  nn : Int
  fin : Bool
  fs : List Fd
  ss : List (Int × Int)
def zSt : St := ⟨0, 0, 0, false, [], []⟩
def topS : Int := 2147483647
def fdR (f : Fd) : Bool := decide (f.name.length ≤ 200) && decide (f.value.length ≤ 200)
def seR (p : Int × Int) : Bool := inR p.1 0 65535 && inR p.2 0 4294967295
def bareS (x : St) : Bool := !x.fin && (x.fs.isEmpty && x.ss.isEmpty)
def stR (x : St) : Bool :=
  if x.kd = 1 then inR x.sm 1 topS && (decide (x.nn = 0) && (decide (x.fs.length ≤ 20) && (x.fs.all fdR && x.ss.isEmpty)))
  else if x.kd = 2 then x.fs.isEmpty && (x.ss.isEmpty && (inR x.sm 1 topS && inR x.nn 0 16384))
  else if x.kd = 3 then decide (x.sm = 0) && (decide (x.nn = 0) && (!x.fin && (x.fs.isEmpty && (decide (x.ss.length ≤ 10) && x.ss.all seR))))
  else if x.kd = 4 then bareS x && (inR x.sm 0 topS && inR x.nn 1 topS)
  else if x.kd = 5 then bareS x && (inR x.sm 1 topS && inR x.nn 0 4294967295)
  else if x.kd = 6 then bareS x && (decide (x.sm = 0) && inR x.nn 0 255)
  else if x.kd = 7 then bareS x && (decide (x.sm = 0) && inR x.nn 0 topS)
  else if x.kd = 8 then bareS x && (decide (x.sm = 0) && inR x.nn 0 16)
  else false
def headW (k : Int) : List UInt8 :=
  if k = 1 then [104, 101, 97, 100, 101, 114, 115] else if k = 2 then [100, 97, 116, 97] else if k = 3 then [115, 101, 116] else if k = 4 then [103, 114, 111, 119] else if k = 5 then [99, 117, 116] else if k = 6 then [99, 97, 108, 108] else if k = 7 then [108, 101, 97, 118, 101] else if k = 8 then [119, 97, 105, 116] else []
def endW (b : Bool) : List UInt8 := if b = true then [101, 110, 100] else [111, 112, 101, 110]
def nevW (b : Bool) : List UInt8 := if b = true then [33] else [43]
def fdW (f : Fd) : List (List UInt8) := [nevW f.never, quoteF f.name, quoteF f.value]
def seW (p : Int × Int) : List (List UInt8) := [Lib.itoa p.1, Lib.itoa p.2]
def restS (x : St) : List (List UInt8) :=
  if x.kd = 1 then Lib.itoa x.sm :: endW x.fin :: x.fs.flatMap fdW
  else if x.kd = 2 then [Lib.itoa x.sm, Lib.itoa x.nn, endW x.fin]
  else if x.kd = 3 then x.ss.flatMap seW
  else if x.kd = 4 ∨ x.kd = 5 then [Lib.itoa x.sm, Lib.itoa x.nn]
  else [Lib.itoa x.nn]
def wordsS (x : St) : List (List UInt8) := headW x.kd :: restS x

/-! The program's road back: a reader's words, and whether one was none. -/
abbrev Rdr := List (List UInt8) × Bool
def rdW (l : List (List UInt8)) (b : Bool) : List UInt8 × List (List UInt8) × Bool := match l with
  | [] => ([], [], true)
  | w :: r => (w, r, b)
def rdN (l : List (List UInt8)) (b : Bool) : Int × List (List UInt8) × Bool := ((readF (rdW l b).1).1, (rdW l b).2.1, (rdW l b).2.2 || !(readF (rdW l b).1).2)
def rdE (x y : List UInt8) (l : List (List UInt8)) (b : Bool) : Bool × List (List UInt8) × Bool := ((rdW l b).1 == x, (rdW l b).2.1, (rdW l b).2.2 || ((rdW l b).1 != x && (rdW l b).1 != y))
def rdT (l : List (List UInt8)) (b : Bool) : List UInt8 × List (List UInt8) × Bool := ((unquoteF (rdW l b).1).1, (rdW l b).2.1, (rdW l b).2.2 || !(unquoteF (rdW l b).1).2)
def kindW (w : List UInt8) : Int :=
  if w = [104, 101, 97, 100, 101, 114, 115] then 1 else if w = [100, 97, 116, 97] then 2 else if w = [115, 101, 116] then 3 else if w = [103, 114, 111, 119] then 4 else if w = [99, 117, 116] then 5 else if w = [99, 97, 108, 108] then 6 else if w = [108, 101, 97, 118, 101] then 7 else if w = [119, 97, 105, 116] then 8 else 0
def oneF (l : List (List UInt8)) (b : Bool) : Fd × List (List UInt8) × Bool :=
  let e := rdE [33] [43] l b
  let t := rdT e.2.1 e.2.2
  let u := rdT t.2.1 t.2.2
  (⟨t.1, u.1, e.1⟩, u.2)
def oneS (l : List (List UInt8)) (b : Bool) : (Int × Int) × List (List UInt8) × Bool :=
  let t := rdN l b
  let u := rdN t.2.1 t.2.2
  ((t.1, u.1), u.2)
def manyP {α : Type} (one : List (List UInt8) → Bool → α × List (List UInt8) × Bool) : Nat → List (List UInt8) → Bool → List α × List (List UInt8) × Bool
  | 0, l, b => ([], l, b)
  | n + 1, l, b => if l ≠ [] ∧ b = false then let p := one l b; let r := manyP one n p.2.1 p.2.2; (p.1 :: r.1, r.2) else ([], l, b)
def stepP (l : List (List UInt8)) (b : Bool) : St × List (List UInt8) × Bool :=
  let p := rdW l b
  let k := kindW p.1
  let b1 := p.2.2 || decide (k = 0)
  let n := rdN p.2.1 b1
  if k = 1 then
    let e := rdE [101, 110, 100] [111, 112, 101, 110] n.2.1 n.2.2
    let f := manyP oneF e.2.1.length e.2.1 e.2.2
    (⟨1, n.1, 0, e.1, f.1, []⟩, f.2)
  else if k = 2 then
    let m := rdN n.2.1 n.2.2
    let e := rdE [101, 110, 100] [111, 112, 101, 110] m.2.1 m.2.2
    (⟨2, n.1, m.1, e.1, [], []⟩, e.2)
  else if k = 3 then
    let f := manyP oneS p.2.1.length p.2.1 b1
    (⟨3, 0, 0, false, [], f.1⟩, f.2)
  else if k = 4 ∨ k = 5 then
    let m := rdN n.2.1 n.2.2
    (⟨k, n.1, m.1, false, [], []⟩, m.2)
  else if k = 0 then (⟨0, 0, 0, false, [], []⟩, p.2.1, b1)
  else (⟨k, 0, n.1, false, [], []⟩, n.2)
theorem rdW_yes {l : List (List UInt8)} {b : Bool} (h : (rdW l b).2.2 = false) : b = false ∧ l = (rdW l b).1 :: (rdW l b).2.1 := by
  cases l with
  | nil => cases h
  | cons w r => exact ⟨h, rfl⟩
theorem rdN_yes {l : List (List UInt8)} {b : Bool} (h : (rdN l b).2.2 = false) : b = false ∧ l = Lib.itoa (rdN l b).1 :: (rdN l b).2.1 := by
  simp only [rdN, Bool.or_eq_false_iff, Bool.not_eq_false'] at h ⊢
  obtain ⟨h1, h2⟩ := rdW_yes h.1
  exact ⟨h1, by rw [(readF_yes h.2).1]; exact h2⟩
theorem rdE_yes {x y : List UInt8} {l : List (List UInt8)} {b : Bool} (h : (rdE x y l b).2.2 = false) : b = false ∧ l = (if (rdE x y l b).1 = true then x else y) :: (rdE x y l b).2.1 := by
  have e1 : (rdE x y l b).1 = ((rdW l b).1 == x) := rfl
  have e2 : (rdE x y l b).2.1 = (rdW l b).2.1 := rfl
  have h' : ((rdW l b).2.2 || ((rdW l b).1 != x && (rdW l b).1 != y)) = false := h
  rw [Bool.or_eq_false_iff] at h'
  obtain ⟨h1, h2⟩ := rdW_yes h'.1
  refine ⟨h1, ?_⟩
  by_cases hx : (rdW l b).1 = x
  · have hc : (rdE x y l b).1 = true := by rw [e1]; simpa using hx
    rw [if_pos hc, e2, ← hx]; exact h2
  · have hc : ¬ (rdE x y l b).1 = true := by rw [e1]; simpa using hx
    have hy : (rdW l b).1 = y := by
      have := h'.2
      simp [bne, hx] at this
      exact this
    rw [if_neg hc, e2, ← hy]; exact h2
theorem unq_yes {w : List UInt8} (h : (unquoteF w).2 = true) : quoteF (unquoteF w).1 = w := by
  rw [unquote_eq] at h ⊢
  unfold unquoteR at h ⊢
  by_cases h0 : w = [37]
  · rw [if_pos h0]; subst h0; rfl
  · rw [if_neg h0] at h ⊢
    cases hp : unqR w with
    | none => rw [hp] at h; cases h
    | some o =>
      rw [hp] at h
      simp only at h ⊢
      split
      · assumption
      · rename_i hq; rw [if_neg hq] at h; cases h
theorem rdT_yes {l : List (List UInt8)} {b : Bool} (h : (rdT l b).2.2 = false) : b = false ∧ l = quoteF (rdT l b).1 :: (rdT l b).2.1 := by
  simp only [rdT, Bool.or_eq_false_iff, Bool.not_eq_false'] at h ⊢
  obtain ⟨h1, h2⟩ := rdW_yes h.1
  exact ⟨h1, by rw [unq_yes h.2]; exact h2⟩
theorem rdW_len (l : List (List UInt8)) (b : Bool) : (rdW l b).2.1.length ≤ l.length - 1 := by cases l <;> simp [rdW]
theorem oneF_len (l : List (List UInt8)) (b : Bool) : (oneF l b).2.1.length ≤ l.length - 1 := by
  have h1 := rdW_len l b
  have h2 := rdW_len (rdE [33] [43] l b).2.1 (rdE [33] [43] l b).2.2
  have h3 := rdW_len (rdT (rdE [33] [43] l b).2.1 (rdE [33] [43] l b).2.2).2.1 (rdT (rdE [33] [43] l b).2.1 (rdE [33] [43] l b).2.2).2.2
  simp only [oneF, rdE, rdT] at h1 h2 h3 ⊢
  omega
theorem oneS_len (l : List (List UInt8)) (b : Bool) : (oneS l b).2.1.length ≤ l.length - 1 := by
  have h1 := rdW_len l b
  have h2 := rdW_len (rdN l b).2.1 (rdN l b).2.2
  simp only [oneS, rdN] at h1 h2 ⊢
  omega
theorem oneF_yes {l : List (List UInt8)} {b : Bool} (h : (oneF l b).2.2 = false) : b = false ∧ l = fdW (oneF l b).1 ++ (oneF l b).2.1 := by
  simp only [oneF] at h ⊢
  obtain ⟨h3, e3⟩ := rdT_yes h
  obtain ⟨h2, e2⟩ := rdT_yes h3
  obtain ⟨h1, e1⟩ := rdE_yes h2
  refine ⟨h1, ?_⟩
  unfold fdW nevW
  simp only [List.cons_append, List.nil_append]
  rw [← e3, ← e2]
  exact e1
theorem oneS_yes {l : List (List UInt8)} {b : Bool} (h : (oneS l b).2.2 = false) : b = false ∧ l = seW (oneS l b).1 ++ (oneS l b).2.1 := by
  simp only [oneS] at h ⊢
  obtain ⟨h2, e2⟩ := rdN_yes h
  obtain ⟨h1, e1⟩ := rdN_yes h2
  refine ⟨h1, ?_⟩
  unfold seW
  simp only [List.cons_append, List.nil_append]
  rw [← e2]
  exact e1
theorem many_yes {α : Type} {one : List (List UInt8) → Bool → α × List (List UInt8) × Bool} {W : α → List (List UInt8)} (h1 : ∀ l b, (one l b).2.2 = false → b = false ∧ l = W (one l b).1 ++ (one l b).2.1) (h2 : ∀ l b, (one l b).2.1.length ≤ l.length - 1) :
    ∀ (n : Nat) (l : List (List UInt8)) (b : Bool), l.length ≤ n → (manyP one n l b).2.1 = [] → (manyP one n l b).2.2 = false → b = false ∧ l = (manyP one n l b).1.flatMap W
  | 0, l, b, hn, _, hb => by
    obtain rfl : l = [] := List.length_eq_zero_iff.1 (by omega)
    exact ⟨hb, rfl⟩
  | n + 1, l, b, hn, he, hb => by
    rw [manyP] at he hb ⊢
    split at he
    · rename_i hc
      rw [if_pos hc] at hb ⊢
      simp only at he hb ⊢
      have hl := h2 l b
      have hp := List.length_pos_iff.2 hc.1
      obtain ⟨g1, g2⟩ := many_yes h1 h2 n _ _ (by omega) he hb
      obtain ⟨_, g3⟩ := h1 l b g1
      refine ⟨hc.2, ?_⟩
      rw [List.flatMap_cons, ← g2]
      exact g3
    · rename_i hc
      rw [if_neg hc] at hb ⊢
      simp only at he hb ⊢
      subst he
      exact ⟨hb, rfl⟩
theorem kindW_head (w : List UInt8) (h : kindW w ≠ 0) : headW (kindW w) = w ∧ 1 ≤ kindW w ∧ kindW w ≤ 8 := by
  unfold kindW at h ⊢
  repeat' split
  all_goals first | (rename_i h1; subst h1; exact ⟨by decide, by omega, by omega⟩) | skip
  all_goals simp_all
theorem step_words {l : List (List UInt8)} {b : Bool} (he : (stepP l b).2.1 = []) (hb : (stepP l b).2.2 = false) : b = false ∧ wordsS (stepP l b).1 = l := by
  unfold stepP at he hb ⊢
  simp only at he hb ⊢
  have key : ∀ {r : List (List UInt8)}, ((rdW l b).2.2 || decide (kindW (rdW l b).1 = 0)) = false → b = false ∧ kindW (rdW l b).1 ≠ 0 ∧ l = (rdW l b).1 :: (rdW l b).2.1 := fun h => by
    simp only [Bool.or_eq_false_iff, decide_eq_false_iff_not] at h
    obtain ⟨g1, g2⟩ := rdW_yes h.1
    exact ⟨g1, h.2, g2⟩
  generalize rdW l b = p at he hb key ⊢
  obtain ⟨w, r, b0⟩ := p
  simp only at he hb key ⊢
  have hh := kindW_head w
  generalize kindW w = k at he hb key hh ⊢
  generalize hb1 : (b0 || decide (k = 0)) = b1 at he hb key ⊢
  have gN := @rdN_yes r b1
  generalize rdN r b1 = N at he hb gN ⊢
  have gM := @rdN_yes N.2.1 N.2.2
  have gE := @rdE_yes [101, 110, 100] [111, 112, 101, 110] N.2.1 N.2.2
  split at he
  · rename_i hk
    rw [if_pos hk] at hb ⊢
    generalize rdE [101, 110, 100] [111, 112, 101, 110] N.2.1 N.2.2 = E at he hb gE ⊢
    have gF := many_yes (W := fdW) (fun _ _ => oneF_yes) oneF_len _ E.2.1 E.2.2 (Nat.le_refl _)
    generalize manyP oneF E.2.1.length E.2.1 E.2.2 = F at he hb gF ⊢
    obtain ⟨g1, g2⟩ := gF he hb
    obtain ⟨g3, g4⟩ := gE g1
    obtain ⟨g5, g6⟩ := gN g3
    obtain ⟨k1, k2, k3⟩ := key (r := []) g5
    refine ⟨k1, ?_⟩
    rw [k3, g6, g4, g2, ← (hh k2).1, hk]
    rfl
  rename_i h1
  rw [if_neg h1] at hb ⊢
  split at he
  · rename_i hk
    rw [if_pos hk] at hb ⊢
    generalize rdN N.2.1 N.2.2 = M at he hb gM ⊢
    have gE := @rdE_yes [101, 110, 100] [111, 112, 101, 110] M.2.1 M.2.2
    generalize rdE [101, 110, 100] [111, 112, 101, 110] M.2.1 M.2.2 = E at he hb gE ⊢
    obtain ⟨g3, g4⟩ := gE hb
    obtain ⟨g7, g8⟩ := gM g3
    obtain ⟨g5, g6⟩ := gN g7
    obtain ⟨k1, k2, k3⟩ := key (r := []) g5
    refine ⟨k1, ?_⟩
    simp only at he
    rw [k3, g6, g8, g4, he, ← (hh k2).1, hk]
    rfl
  rename_i h2
  rw [if_neg h2] at hb ⊢
  split at he
  · rename_i hk
    rw [if_pos hk] at hb ⊢
    have gF := many_yes (W := seW) (fun _ _ => oneS_yes) oneS_len _ r b1 (Nat.le_refl _)
    generalize manyP oneS r.length r b1 = F at he hb gF ⊢
    obtain ⟨g1, g2⟩ := gF he hb
    obtain ⟨k1, k2, k3⟩ := key (r := []) g1
    refine ⟨k1, ?_⟩
    rw [k3, g2, ← (hh k2).1, hk]
    rfl
  rename_i h3
  rw [if_neg h3] at hb ⊢
  split at he
  · rename_i hk
    rw [if_pos hk] at hb ⊢
    generalize rdN N.2.1 N.2.2 = M at he hb gM ⊢
    obtain ⟨g7, g8⟩ := gM hb
    obtain ⟨g5, g6⟩ := gN g7
    obtain ⟨k1, k2, k3⟩ := key (r := []) g5
    refine ⟨k1, ?_⟩
    simp only at he
    rw [k3, g6, g8, he, ← (hh k2).1]
    unfold wordsS restS
    simp only
    rw [if_neg h1, if_neg h2, if_neg h3, if_pos hk]
  rename_i h4
  rw [if_neg h4] at hb ⊢
  split at he
  · rename_i hk
    rw [if_pos hk] at hb
    simp only at hb
    exact absurd hk (key (r := []) hb).2.1
  · rename_i h0
    rw [if_neg h0] at hb ⊢
    obtain ⟨g5, g6⟩ := gN hb
    obtain ⟨k1, k2, k3⟩ := key (r := []) g5
    refine ⟨k1, ?_⟩
    simp only at he
    rw [k3, g6, he, ← (hh k2).1]
    unfold wordsS restS
    simp only
    rw [if_neg h1, if_neg h2, if_neg h3, if_neg h4]
end Go.Proofs.YtmlbomblbdbikaaGreatDoor
/-
  Scenarios: small functions of both.
-/
namespace Go.Proofs.YtmlbomblbdbikaaGreatDoor
set_option linter.unusedSimpArgs false
set_option linter.unusedVariables false
set_option linter.unusedSectionVars false
open Go.ChangeShapes Go.WideShapes Go.ChangeAt Go.RowKit Go.Deep Go.Shelf

set_option maxRecDepth 100000 in
theorem spec_within (n a b : Int) (w : World) : Calls Tryz.prog 37 #[.int .i64 n, .int .i64 a, .int .i64 b] w fun e w' => e = .returned (.bool (inR n a b)) ∧ w = w' := by
  by_cases h0 : a ≤ n <;> by_cases h1 : n ≤ b
  all_goals
    go_enter Tryz.func37, Tryz.ntmps37
    go_wp2_with fail
    go_ret
    exact ⟨by simp [inR, h0, h1], rfl⟩
set_option maxRecDepth 100000 in
theorem spec_stream (n : Int) (w : World) : Calls Tryz.prog 38 #[.int .i64 n] w fun e w' => e = .returned (.bool (inR n 1 topS)) ∧ w = w' := by
  have HW : Hid (∀ W, Calls Tryz.prog 37 #[.int .i64 n, .int .i64 1, .int .i64 2147483647] W fun e w' => e = .returned (.bool (inR n 1 topS)) ∧ W = w') := spec_within n 1 2147483647
  generalize inR n 1 topS = R at HW ⊢
  go_enter Tryz.func38, Tryz.ntmps38
  go_wp2_with (go_at_call 37; (with_reducible refine (HW.out _).mono ?_); rintro e w' ⟨rfl, rfl⟩)
  go_ret
  exact ⟨rfl, rfl⟩
end Go.Proofs.YtmlbomblbdbikaaGreatDoor
/-
  Scenarios: small functions of both: fields that are too many, or too long; a step that is bare.
-/
namespace Go.Proofs.YtmlbomblbdbikaaGreatDoor
set_option linter.unusedSimpArgs false
set_option linter.unusedVariables false
set_option linter.unusedSectionVars false
open Go.ChangeShapes Go.WideShapes Go.ChangeAt Go.RowKit Go.Deep Go.Shelf

def bigF (long : Nat) (f : Fd) : Bool := decide ((long : Int) < (f.name.length : Int)) || decide ((long : Int) < (f.value.length : Int))
def largeF (l : List Fd) (many long : Nat) : Bool := decide ((many : Int) < (l.length : Int)) || l.any (bigF long)
set_option maxHeartbeats 4000000 in
set_option maxRecDepth 100000 in
theorem spec_plain (k s n : Int) (e : Bool) (fa : Option Addr) (nf fc : Nat) (sa : Option Addr) (ns sc : Nat) (w : World) :
    Calls Tryz.prog 48 #[.agg #[.int .i64 k, .int .i64 s, .int .i64 n, .bool e, .slice fa nf fc, .slice sa ns sc]] w fun x w' => x = .returned (.bool (!e && (decide (nf = 0) && decide (ns = 0)))) ∧ ∃ j, w' = w.more j := by
  cases e
  case true =>
    go_enter Tryz.func48, Tryz.ntmps48
    go_wp2_with fail
    go_ret
    exact ⟨rfl, Below.junk bel⟩
  by_cases h1 : nf = 0
  · by_cases h2 : ns = 0
    all_goals
      have h1' : ((nf : Int) == 0) = true := by rw [beq_iff_eq]; omega
      have h2' : ((ns : Int) == 0) = decide (ns = 0) := by by_cases h : ns = 0 <;> simp [h]
      go_enter Tryz.func48, Tryz.ntmps48
      go_wp2_with fail
      go_ret
      exact ⟨by simp [h1, h2], Below.junk bel⟩
  · have h1' : ((nf : Int) == 0) = false := by rw [beq_eq_false_iff_ne]; omega
    go_enter Tryz.func48, Tryz.ntmps48
    go_wp2_with fail
    go_ret
    exact ⟨by simp [h1], Below.junk bel⟩
end Go.Proofs.YtmlbomblbdbikaaGreatDoor
/-
  Numbers as digits: the document's text of a number.
-/
namespace Go.Proofs.YtmlbomblbdbikaaGreatDoor
set_option linter.unusedSimpArgs false
set_option linter.unusedVariables false
set_option linter.unusedSectionVars false
open Go.ChangeShapes Go.WideShapes Go.ChangeAt Go.RowKit Go.Deep Go.Shelf

def digB (d : Nat) : List UInt8 := [UInt8.ofNat (48 + d)]
theorem dig_cut {n : Nat} (h : n < 10) : ([48, 49, 50, 51, 52, 53, 54, 55, 56, 57].drop n).take 1 = digB n := by
  have : ∀ m : Fin 10, (([48, 49, 50, 51, 52, 53, 54, 55, 56, 57] : List UInt8).drop m.val).take 1 = digB m.val := by decide
  exact this ⟨n, h⟩
end Go.Proofs.YtmlbomblbdbikaaGreatDoor
/-
  Numbers as digits: a text's value, the document's.
-/
namespace Go.Proofs.YtmlbomblbdbikaaGreatDoor
set_option linter.unusedSimpArgs false
set_option linter.unusedVariables false
set_option linter.unusedSectionVars false
open Go.ChangeShapes Go.WideShapes Go.ChangeAt Go.RowKit Go.Deep Go.Shelf

def vlE (s : List UInt8) : Option Int → Int × Bool
  | some n => (n, !s.isEmpty)
  | none => (0, false)
end Go.Proofs.YtmlbomblbdbikaaGreatDoor
/-
  Numbers as digits: the document's text of a number: it calls itself.
-/
namespace Go.Proofs.YtmlbomblbdbikaaGreatDoor
set_option linter.unusedSimpArgs false
set_option linter.unusedVariables false
set_option linter.unusedSectionVars false
open Go.ChangeShapes Go.WideShapes Go.ChangeAt Go.RowKit Go.Deep Go.Shelf

theorem dig_lo {n : Nat} (h : n < 10) : Lib.decDigits n = digB n := dec_lo h
theorem dig_hi {n : Nat} (h : ¬ n < 10) : Lib.decDigits n = Lib.decDigits (n / 10) ++ digB (n % 10) := dec_hi h
theorem dec_len20 {n : Nat} (h : n < 10000000000000000000) : (Lib.decDigits n).length ≤ 19 := dec_len 18 n (by omega)
end Go.Proofs.YtmlbomblbdbikaaGreatDoor
/-
  Numbers as digits: a text read as a number, the document's road.
-/
namespace Go.Proofs.YtmlbomblbdbikaaGreatDoor
set_option linter.unusedSimpArgs false
set_option linter.unusedVariables false
set_option linter.unusedSectionVars false
open Go.ChangeShapes Go.WideShapes Go.ChangeAt Go.RowKit Go.Deep Go.Shelf

theorem readR_long {s : List UInt8} (h : 20 < (s.length : Int)) : readR s = (0, false) := by unfold readR; rw [if_pos (.inl h)]
theorem head45 (c : UInt8) (r : List UInt8) : ((c :: r).head?.map (· == 45) = some true) ↔ ((c.toNat : Int) == 45) = true := by
  simp only [List.head?_cons, Option.map_some, Option.some.injEq, beq_iff_eq, ← UInt8.toNat_inj]
  show c.toNat = 45 ↔ _
  omega
theorem readR_minus {c : UInt8} {r : List UInt8} (h : ¬ 20 < ((c :: r).length : Int)) (hc : ((c.toNat : Int) == 45) = true) :
    readR (c :: r) = if (vlF r).2 = true ∧ Lib.itoa (vlF r).1 = c :: r then ((vlF r).1, true) else (0, false) := by
  unfold readR
  rw [if_neg (by simp only [reduceCtorEq, or_false]; exact h), if_pos ((head45 c r).2 hc)]
  rfl
theorem readR_plus {c : UInt8} {r : List UInt8} (h : ¬ 20 < ((c :: r).length : Int)) (hc : ((c.toNat : Int) == 45) = false) :
    readR (c :: r) = if (vlF (c :: r)).1 = -9223372036854775808 then (0, false) else if (vlF (c :: r)).2 = true ∧ Lib.itoa (-(vlF (c :: r)).1) = c :: r then (-(vlF (c :: r)).1, true) else (0, false) := by
  unfold readR
  rw [if_neg (by simp only [reduceCtorEq, or_false]; exact h), if_neg (fun e => by rw [(head45 c r).1 e] at hc; cases hc)]

end Go.Proofs.YtmlbomblbdbikaaGreatDoor
/-
  Scenarios: the document's text: a number's word, an end's word.
-/
namespace Go.Proofs.YtmlbomblbdbikaaGreatDoor
set_option linter.unusedSimpArgs false
set_option linter.unusedVariables false
set_option linter.unusedSectionVars false
open Go.ChangeShapes Go.WideShapes Go.ChangeAt Go.RowKit Go.Deep Go.Shelf

end Go.Proofs.YtmlbomblbdbikaaGreatDoor
