/-
  Reports: plain: which may be, their texts, and texts read, both roads.
-/
import Derived.Test.YtbdmepidabnfkaaGreatDoorMa
import Derived.Test.YtbdmepidabnfkaaGreatDoorMc
import Derived.Test.YtbdmepidabnfkaaGreatDoorMb
namespace Go.Proofs.YtbdmepidabnfkaaGreatDoor
set_option linter.unusedSimpArgs false
set_option linter.unusedVariables false
set_option linter.unusedSectionVars false
open Go.ChangeShapes Go.WideShapes Go.ChangeAt Go.RowKit Go.Deep

structure Rpt where
  c0 : Int
  c1 : Int
  c2 : Int
  c3 : Int
  c4 : Int
  c5 : Int
  l : List Rec
  v : Int
  t : Int
  fs : List Fl
  us : List Int
  f0 : Int
  f1 : Int
def zRpt : Rpt := ⟨0, 0, 0, 0, 0, 0, [], 0, 0, [], [], 0, 0⟩
def inR (n a b : Int) : Bool := decide (a ≤ n) && decide (n ≤ b)
def cfgR (c0 c1 c2 c3 c4 c5 : Int) : Bool := inR c0 0 64 && (inR c1 1 1024 && (inR c2 0 1048576 && (inR c3 1 32 && (inR c4 0 64 && inR c5 4096 1048576))))
def okK (r : Rec) : Bool := decide (r.kd = 1) || decide (r.kd = 2)
def lastK (l : List Rec) : Int := (l.getLast?.getD zRec).kd
def toldD (fs : List Fl) (us : List Int) : Bool := !fs.isEmpty && (!us.isEmpty && (decide (fs = ofF fs) && decide (us = ofR us)))
def noneD (fs : List Fl) (us : List Int) : Bool := fs.isEmpty && us.isEmpty
def endD2 (l : List Rec) (v t : Int) (fs : List Fl) (us : List Int) (f0 f1 : Int) : Bool :=
  !l.isEmpty && (decide (t = (l.length : Int) - 1) && (decide (lastK l = v) && (l.dropLast.all okK && ((decide (f0 = 0) && decide (f1 = 0)) && if v = 3 then toldD fs us else noneD fs us))))
def rightD (x : Rpt) : Bool :=
  cfgR x.c0 x.c1 x.c2 x.c3 x.c4 x.c5 && (x.l.all recR &&
    if x.v = 1 then x.l.all okK && (decide (x.t = (x.l.length : Int)) && (noneD x.fs x.us && decide (0 ≤ min x.f0 x.f1)))
    else if x.v = 3 ∨ x.v = 4 then endD2 x.l x.v x.t x.fs x.us x.f0 x.f1 else false)

/-! Texts. -/
def lineW (ws : List (List UInt8)) : List UInt8 := Lib.join ws [32]
def w1D : List (List UInt8) := [[115, 116, 105, 99, 107, 108, 101, 114], Lib.itoa 1]
def w2D (x : Rpt) : List (List UInt8) := [[99, 111, 110, 102, 105, 103], Lib.itoa x.c0, Lib.itoa x.c1, Lib.itoa x.c2, Lib.itoa x.c3, Lib.itoa x.c4, Lib.itoa x.c5]
def w3D (x : Rpt) : List (List UInt8) := [[102, 114, 97, 109, 101, 115], Lib.itoa (x.l.length : Int)]
def w4D (x : Rpt) : List (List UInt8) := [[118, 101, 114, 100, 105, 99, 116], kindF x.v, Lib.itoa x.t]
def w5D (x : Rpt) : List (List UInt8) := [[102, 97, 117, 108, 116, 115], showW x.fs]
def w6D (x : Rpt) : List (List UInt8) := [[114, 117, 108, 101, 115], showR x.us]
def w7D (x : Rpt) : List (List UInt8) := [[108, 101, 102, 116], Lib.itoa x.f0, Lib.itoa x.f1]
def linesD (x : Rpt) : List (List UInt8) := [lineW w1D, lineW (w2D x), lineW (w3D x)] ++ (x.l.map recLine ++ [lineW (w4D x), lineW (w5D x), lineW (w6D x), lineW (w7D x)])
def flatL (l : List (List UInt8)) : List UInt8 := l.flatMap (· ++ [10])
def textD (x : Rpt) : List UInt8 := flatL (linesD x)
theorem flatL_cons (a : List UInt8) (l : List (List UInt8)) : flatL (a :: l) = a ++ (10 :: flatL l) := by simp [flatL]
theorem flatL_app (l m : List (List UInt8)) : flatL (l ++ m) = flatL l ++ flatL m := by simp [flatL]
theorem cut_flat : ∀ l : List (List UInt8), (∀ x ∈ l, (10 : UInt8) ∉ x) → cutF 10 (flatL l) = l ++ [[]]
  | [], _ => rfl
  | a :: r, h => by
    rw [flatL_cons, cut_app 10 _ a (h a (by simp)), cut_flat r (fun x hx => h x (by simp [hx]))]
    rfl
theorem lines_flat {l : List (List UInt8)} (h : ∀ x ∈ l, (10 : UInt8) ∉ x) : linesF (flatL l) = (l, true) := by
  unfold linesF
  rw [cut_flat l h]
  simp
theorem join_flat : ∀ l : List (List UInt8), Lib.join (l ++ [[]]) [10] = flatL l
  | [] => by simp [Lib.join_one, flatL]
  | [a] => by rw [flatL_cons]; show Lib.join [a, []] [10] = _; rw [join_two, Lib.join_one]; rfl
  | a :: b :: r => by
    rw [flatL_cons]
    show Lib.join (a :: b :: (r ++ [[]])) [10] = _
    rw [join_two, ← join_flat (b :: r)]; rfl
theorem flat_back {s : List UInt8} (h : (linesF s).2 = true) : flatL (linesF s).1 = s := by
  unfold linesF at h ⊢
  split at h
  · rename_i hl
    rw [if_pos hl]
    obtain ⟨y, e⟩ := List.getLast?_eq_some_iff.1 hl
    rw [e]
    simp only [List.dropLast_concat]
    rw [← join_flat y, ← e, join_cut]
  · cases h
theorem mem_join (c : UInt8) (s : List UInt8) : ∀ l : List (List UInt8), c ∈ Lib.join l s → c ∈ s ∨ ∃ x ∈ l, c ∈ x
  | [], h => by simp [Lib.join_nil] at h
  | [a], h => by rw [Lib.join_one] at h; exact .inr ⟨a, by simp, h⟩
  | a :: b :: r, h => by
    rw [join_two] at h
    rcases List.mem_append.1 h with h | h
    · exact .inr ⟨a, by simp, h⟩
    · rcases List.mem_append.1 h with h | h
      · exact .inl h
      · rcases mem_join c s (b :: r) h with h | ⟨x, hx, h⟩
        · exact .inl h
        · exact .inr ⟨x, by simp only [List.mem_cons] at hx ⊢; exact .inr hx, h⟩
theorem okW_nl {w : List UInt8} (h : okW w = true) : (10 : UInt8) ∉ w := by
  rw [okW_R] at h
  simp only [Bool.and_eq_true, Bool.not_eq_true', List.any_eq_false] at h
  intro hm
  exact h.2 10 hm (by decide)
theorem line_nl {ws : List (List UInt8)} (h : ws.all okW = true) : (10 : UInt8) ∉ lineW ws := by
  intro hm
  rcases mem_join 10 [32] ws hm with h1 | ⟨x, hx, h1⟩
  · simp at h1
  · exact okW_nl (List.all_eq_true.1 h x hx) h1
theorem codeN_bytes (c : Int) : ∀ x ∈ codeN c, 33 ≤ x.toNat := by
  unfold codeN
  split
  · simp
  · split
    · rename_i h1 h2
      have : ∀ m : Fin 14, (cdName m.val).all (fun x => decide (33 ≤ x.toNat)) = true := by decide
      have h3 := this ⟨c.toNat, by omega⟩
      intro x hx
      exact of_decide_eq_true (List.all_eq_true.1 h3 x hx)
    · exact itoa_bytes c
theorem textW_bytes (f : Fl) : ∀ x ∈ textW f, 33 ≤ x.toNat := by
  unfold textW
  split
  · intro x hx
    rcases List.mem_append.1 hx with h | h
    · revert h
      unfold scopeW
      split
      · have : ([115, 116, 114, 101, 97, 109] : List UInt8).all (fun x => decide (33 ≤ x.toNat)) = true := by decide
        exact fun h => of_decide_eq_true (List.all_eq_true.1 this x h)
      · have : ([99, 111, 110, 110, 101, 99, 116, 105, 111, 110] : List UInt8).all (fun x => decide (33 ≤ x.toNat)) = true := by decide
        exact fun h => of_decide_eq_true (List.all_eq_true.1 this x h)
    · rcases List.mem_cons.1 h with rfl | h
      · decide
      · exact codeN_bytes _ x h
  · simp
theorem join_nil_of {l : List (List UInt8)} {s : List UInt8} (hs : s ≠ []) (hl : l ≠ []) (h1 : ∀ x ∈ l, x ≠ []) : Lib.join l s ≠ [] := by
  match l, hl with
  | [a], _ => rw [Lib.join_one]; exact h1 a (by simp)
  | a :: b :: r, _ => rw [join_two]; simp [hs]
theorem okW_show (l : List Fl) : okW (showW l) = true := by
  unfold showW
  split
  · decide
  · rename_i h
    refine okW_of (join_nil_of (by simp) (by simpa using h) ?_) ?_
    · simp only [List.mem_map]
      rintro x ⟨f, hf, rfl⟩
      rw [textW_right (ofF_right l f hf)]
      simp
    · intro c hc
      rcases mem_join c [44] _ hc with h1 | ⟨x, hx, h1⟩
      · simp at h1; subst h1; decide
      · simp only [List.mem_map] at hx
        obtain ⟨f, hf, rfl⟩ := hx
        exact textW_bytes f c h1
theorem rulW_bytes : ∀ i : Fin 35, (rulW.getD i.val []).all (fun x => decide (33 ≤ x.toNat)) = true := by decide +kernel
theorem okW_showR (l : List Int) : okW (showR l) = true := by
  unfold showR
  split
  · decide
  · rename_i h
    refine okW_of (join_nil_of (by simp) (by simpa using h) ?_) ?_
    · simp only [List.mem_map]
      rintro x ⟨n, hn, rfl⟩
      obtain ⟨k, rfl, hk⟩ := rul_in ((mem_ofR l n).1 hn).2
      rw [nameR_in k hk]
      exact rul_ne ⟨k, hk⟩
    · intro c hc
      rcases mem_join c [44] _ hc with h1 | ⟨x, hx, h1⟩
      · simp at h1; subst h1; decide
      · simp only [List.mem_map] at hx
        obtain ⟨n, hn, rfl⟩ := hx
        obtain ⟨k, rfl, hk⟩ := rul_in ((mem_ofR l n).1 hn).2
        rw [nameR_in k hk] at h1
        exact of_decide_eq_true (List.all_eq_true.1 (rulW_bytes ⟨k, hk⟩) c h1)
theorem w1_ok : w1D.all okW = true := by simp only [w1D, List.all_cons, okW_itoa, List.all_nil, Bool.and_true, Bool.true_and]; decide
theorem w2_ok (x : Rpt) : (w2D x).all okW = true := by simp only [w2D, List.all_cons, okW_itoa, List.all_nil, Bool.and_true, Bool.true_and]; decide
theorem w3_ok (x : Rpt) : (w3D x).all okW = true := by simp only [w3D, List.all_cons, okW_itoa, List.all_nil, Bool.and_true, Bool.true_and]; decide
theorem w4_ok {x : Rpt} (h : 1 ≤ x.v ∧ x.v ≤ 4) : (w4D x).all okW = true := by simp only [w4D, List.all_cons, okW_itoa, kindF_ok h, List.all_nil, Bool.and_true, Bool.true_and]; decide
theorem w5_ok (x : Rpt) : (w5D x).all okW = true := by simp only [w5D, List.all_cons, okW_show, List.all_nil, Bool.and_true, Bool.true_and]; decide
theorem w6_ok (x : Rpt) : (w6D x).all okW = true := by simp only [w6D, List.all_cons, okW_showR, List.all_nil, Bool.and_true, Bool.true_and]; decide
theorem w7_ok (x : Rpt) : (w7D x).all okW = true := by simp only [w7D, List.all_cons, okW_itoa, List.all_nil, Bool.and_true, Bool.true_and]; decide
theorem inR_iff {n a b : Int} : inR n a b = true ↔ a ≤ n ∧ n ≤ b := by simp [inR]
theorem right_v {x : Rpt} (h : rightD x = true) : 1 ≤ x.v ∧ x.v ≤ 4 := by
  unfold rightD at h
  simp only [Bool.and_eq_true] at h
  obtain ⟨_, _, h⟩ := h
  split at h
  · omega
  · split at h
    · omega
    · cases h
theorem right_l {x : Rpt} (h : rightD x = true) : x.l.all recR = true := by
  unfold rightD at h
  simp only [Bool.and_eq_true] at h
  exact h.2.1
theorem right_cfg {x : Rpt} (h : rightD x = true) : cfgR x.c0 x.c1 x.c2 x.c3 x.c4 x.c5 = true := by
  unfold rightD at h
  simp only [Bool.and_eq_true] at h
  exact h.1
theorem right_sets {x : Rpt} (h : rightD x = true) : ofF x.fs = x.fs ∧ ofR x.us = x.us := by
  unfold rightD at h
  simp only [Bool.and_eq_true] at h
  obtain ⟨_, _, h⟩ := h
  have hn : noneD x.fs x.us = true → ofF x.fs = x.fs ∧ ofR x.us = x.us := fun h => by
    simp only [noneD, Bool.and_eq_true, List.isEmpty_iff] at h
    rw [h.1, h.2]; exact ⟨rfl, rfl⟩
  split at h
  · simp only [Bool.and_eq_true] at h
    exact hn h.2.2.1
  · split at h
    · unfold endD2 at h
      simp only [Bool.and_eq_true] at h
      obtain ⟨_, _, _, _, _, h⟩ := h
      split at h
      · simp only [toldD, Bool.and_eq_true, decide_eq_true_eq] at h
        exact ⟨h.2.2.1.symm, h.2.2.2.symm⟩
      · exact hn h
    · cases h
def goodR (x : Rpt) : Prop := goodI x.t ∧ goodI x.f0 ∧ goodI x.f1 ∧ x.l.length ≤ 100000
theorem lines_of {x : Rpt} (h : rightD x = true) : linesF (textD x) = (linesD x, true) := by
  refine lines_flat ?_
  intro s hs
  unfold linesD at hs
  simp only [List.mem_append, List.mem_cons, List.mem_map, List.not_mem_nil, or_false] at hs
  rcases hs with (rfl | rfl | rfl) | ⟨r, hr, rfl⟩ | rfl | rfl | rfl | rfl
  · exact line_nl w1_ok
  · exact line_nl (w2_ok x)
  · exact line_nl (w3_ok x)
  · exact line_nl (recWords_ok (recR_ok (List.all_eq_true.1 (right_l h) r hr)))
  · exact line_nl (w4_ok (right_v h))
  · exact line_nl (w5_ok x)
  · exact line_nl (w6_ok x)
  · exact line_nl (w7_ok x)

/-! The program's road back: lines one behind the other, and whether one was none. -/
def nextD (many : Nat) (first : List UInt8) (L : List (List UInt8)) (b : Bool) : List (List UInt8) × List (List UInt8) × Bool :=
  match L with
  | [] => (List.replicate many [], [], true)
  | x :: r => if (splitF x).2 = true ∧ (splitF x).1.length = many + 1 ∧ (splitF x).1.head? = some first then ((splitF x).1.drop 1, r, b) else (List.replicate many [], r, true)
theorem next_len (many : Nat) (first : List UInt8) (L : List (List UInt8)) (b : Bool) : (nextD many first L b).1.length = many := by
  unfold nextD
  split
  · simp
  · split
    · rename_i h; simp [h.2.1]
    · simp
theorem next_line {many : Nat} {first : List UInt8} {ws : List (List UInt8)} {r : List (List UInt8)} {b : Bool} (h : (first :: ws).all okW = true) (hl : ws.length = many) : nextD many first (lineW (first :: ws) :: r) b = (ws, r, b) := by
  unfold nextD
  simp only
  unfold lineW
  rw [split_line _ h, if_pos ⟨rfl, by simp [hl], rfl⟩]
  rfl
theorem next_yes {many : Nat} {first : List UInt8} {L : List (List UInt8)} {b : Bool} (h : (nextD many first L b).2.2 = false) : b = false ∧ ∃ ws r, ws.length = many ∧ L = lineW (first :: ws) :: r ∧ nextD many first L b = (ws, r, false) := by
  unfold nextD at h ⊢
  split at h
  · cases h
  · rename_i x r
    split at h
    · rename_i hc
      simp only at h
      subst h
      simp only
      rw [if_pos hc]
      obtain ⟨h1, h2, h3⟩ := hc
      have hb := split_back h1
      generalize splitF x = p at h1 h2 h3 hb
      obtain ⟨l, o⟩ := p
      simp only at h1 h2 h3 hb ⊢
      match l, h3 with
      | a :: ws, h3 =>
        simp only [List.head?_cons, Option.some.injEq] at h3
        subst h3
        exact ⟨trivial, ws, r, by simpa using h2, by rw [← hb]; rfl, rfl⟩
    · cases h
def numD (s : List UInt8) (b : Bool) : Int × Bool := ((readF s).1, b || !(readF s).2)
theorem num_itoa {n : Int} (h : goodI n) (b : Bool) : numD (Lib.itoa n) b = (n, b) := by
  unfold numD
  rw [readF_itoa h.1 h.2]
  simp
theorem num_yes {s : List UInt8} {b : Bool} (h : (numD s b).2 = false) : b = false ∧ Lib.itoa (numD s b).1 = s ∧ goodI (numD s b).1 := by
  unfold numD at h ⊢
  simp only [Bool.or_eq_false_iff, Bool.not_eq_false'] at h
  obtain ⟨h1, h2⟩ := h
  obtain ⟨h3, h4, h5⟩ := readF_yes h2
  exact ⟨h1, h3, h4, h5⟩
def atD (l : List (List UInt8)) (k : Nat) : List UInt8 := l.getD k []
structure CfD where
  c0 : Int
  c1 : Int
  c2 : Int
  c3 : Int
  c4 : Int
  c5 : Int
def configD (L : List (List UInt8)) (b : Bool) : CfD × List (List UInt8) × Bool :=
  let n := nextD 6 [99, 111, 110, 102, 105, 103] L b
  let n0 := numD (atD n.1 0) n.2.2
  let n1 := numD (atD n.1 1) n0.2
  let n2 := numD (atD n.1 2) n1.2
  let n3 := numD (atD n.1 3) n2.2
  let n4 := numD (atD n.1 4) n3.2
  let n5 := numD (atD n.1 5) n4.2
  (⟨n0.1, n1.1, n2.1, n3.1, n4.1, n5.1⟩, n.2.1, n5.2)
def recsD : Nat → List (List UInt8) → Bool → List Rec × List (List UInt8) × Bool
  | 0, L, b => ([], L, b)
  | _ + 1, [], b => ([], [], b)
  | n + 1, x :: r, b => let p := recsD n r (b || !(readRecF x).2); ((readRecF x).1 :: p.1, p.2)
def recordsD (L : List (List UInt8)) (b : Bool) : List Rec × List (List UInt8) × Bool :=
  let n := nextD 1 [102, 114, 97, 109, 101, 115] L b
  let k := numD (atD n.1 0) n.2.2
  if k.2 = true ∨ k.1 ≠ (n.2.1.length : Int) - 4 then ([], n.2.1, true) else recsD k.1.toNat n.2.1 false
def verdictD (L : List (List UInt8)) (b : Bool) : Int × Int × List (List UInt8) × Bool :=
  let n := nextD 2 [118, 101, 114, 100, 105, 99, 116] L b
  let k := numD (atD n.1 1) n.2.2
  ((kindB (atD n.1 0)).1, k.1, n.2.1, k.2)
def headD (L : List (List UInt8)) (is : Bool) : List (List UInt8) × Bool :=
  if is = true then
    let n := nextD 1 [115, 116, 105, 99, 107, 108, 101, 114] L false
    (n.2.1, n.2.2 || !(atD n.1 0 == [49]))
  else (L, true)
def readD2 (L : List (List UInt8)) (is : Bool) : Rpt × Bool :=
  let s1 := headD L is
  let s2 := configD s1.1 s1.2
  let s3 := recordsD s2.2.1 s2.2.2
  let s4 := verdictD s3.2.1 s3.2.2
  let n5 := nextD 1 [102, 97, 117, 108, 116, 115] s4.2.2.1 s4.2.2.2
  let n6 := nextD 1 [114, 117, 108, 101, 115] n5.2.1 n5.2.2
  let n7 := nextD 2 [108, 101, 102, 116] n6.2.1 n6.2.2
  let k0 := numD (atD n7.1 0) n7.2.2
  let k1 := numD (atD n7.1 1) k0.2
  let x : Rpt := ⟨s2.1.c0, s2.1.c1, s2.1.c2, s2.1.c3, s2.1.c4, s2.1.c5, s3.1, s4.1, s4.2.1, (setW (atD n5.1 0)).1, (setRP (atD n6.1 0)).1, k0.1, k1.1⟩
  if (k1.2 || (!((setW (atD n5.1 0)).2 && (setRP (atD n6.1 0)).2) || (!n7.2.1.isEmpty || !rightD x))) = true then (zRpt, false) else (x, true)
def readRp (s : List UInt8) : Rpt × Bool := readD2 (linesF s).1 (linesF s).2
theorem recs_map : ∀ (l : List Rec) (T : List (List UInt8)), (∀ r ∈ l, recR r = true) → recsD l.length (l.map recLine ++ T) false = (l, T, false)
  | [], T, _ => by cases T <;> rfl
  | r :: l, T, h => by
    show recsD (l.length + 1) (recLine r :: (l.map recLine ++ T)) false = _
    unfold recsD
    rw [readRec_line (h r (by simp))]
    simp only [Bool.not_true, Bool.or_false]
    rw [recs_map l T (fun x hx => h x (by simp [hx]))]
theorem recs_yes : ∀ (n : Nat) (L : List (List UInt8)) (b : Bool), n ≤ L.length → (recsD n L b).2.2 = false → b = false ∧ (recsD n L b).1.length = n ∧ L = (recsD n L b).1.map recLine ++ (recsD n L b).2.1 ∧ (recsD n L b).1.all recR = true
  | 0, L, b, _, h => by cases L <;> simp_all [recsD]
  | n + 1, [], b, hn, h => by simp at hn
  | n + 1, x :: r, b, hn, h => by
    unfold recsD at h ⊢
    simp only at h ⊢
    obtain ⟨h1, h2, h3, h4⟩ := recs_yes n r _ (by simpa using hn) h
    simp only [Bool.or_eq_false_iff, Bool.not_eq_false'] at h1
    obtain ⟨h5, h6⟩ := readRec_yes h1.2
    refine ⟨h1.1, by simp [h2], ?_, ?_⟩
    · rw [List.map_cons, h6, List.cons_append, ← h3]
    · rw [List.all_cons, h5, h4]; rfl
theorem itoa_one : Lib.itoa 1 = [49] := by
  rw [show (1 : Int) = ((1 : Nat) : Int) from rfl, itoa_pos, dec_lo (by omega)]
  decide
theorem cfg_good {c0 c1 c2 c3 c4 c5 : Int} (h : cfgR c0 c1 c2 c3 c4 c5 = true) : goodI c0 ∧ goodI c1 ∧ goodI c2 ∧ goodI c3 ∧ goodI c4 ∧ goodI c5 := by
  unfold cfgR at h
  simp only [Bool.and_eq_true, inR_iff] at h
  unfold goodI
  omega
theorem read_lines {x : Rpt} (h : rightD x = true) (hg : goodR x) : readD2 (linesD x) true = (x, true) := by
  obtain ⟨g0, g1, g2, g3, g4, g5⟩ := cfg_good (right_cfg h)
  obtain ⟨gt, gf, gg, gl⟩ := hg
  obtain ⟨hf, hu⟩ := right_sets h
  have e1 : headD (linesD x) true = ([lineW (w2D x), lineW (w3D x)] ++ (x.l.map recLine ++ [lineW (w4D x), lineW (w5D x), lineW (w6D x), lineW (w7D x)]), false) := by
    unfold headD
    rw [if_pos rfl]
    unfold linesD w1D
    simp only [List.cons_append, List.nil_append]
    rw [next_line (many := 1) w1_ok rfl]
    simp only [atD, List.getD_cons_zero, itoa_one]
    simp
  have e2 : configD ([lineW (w2D x), lineW (w3D x)] ++ (x.l.map recLine ++ [lineW (w4D x), lineW (w5D x), lineW (w6D x), lineW (w7D x)])) false = (⟨x.c0, x.c1, x.c2, x.c3, x.c4, x.c5⟩, lineW (w3D x) :: (x.l.map recLine ++ [lineW (w4D x), lineW (w5D x), lineW (w6D x), lineW (w7D x)]), false) := by
    unfold configD
    simp only [List.cons_append, List.nil_append]
    unfold w2D
    rw [next_line (many := 6) (w2_ok x) rfl]
    simp only [atD, List.getD_cons_zero, List.getD_cons_succ, num_itoa g0, num_itoa g1, num_itoa g2, num_itoa g3, num_itoa g4, num_itoa g5]
  have e3 : recordsD (lineW (w3D x) :: (x.l.map recLine ++ [lineW (w4D x), lineW (w5D x), lineW (w6D x), lineW (w7D x)])) false = (x.l, [lineW (w4D x), lineW (w5D x), lineW (w6D x), lineW (w7D x)], false) := by
    unfold recordsD w3D
    rw [next_line (many := 1) (w3_ok x) rfl]
    simp only [atD, List.getD_cons_zero]
    rw [num_itoa (by unfold goodI; omega)]
    simp only
    rw [if_neg (by simp), Int.toNat_natCast, recs_map x.l _ (List.all_eq_true.1 (right_l h))]
  have e4 : verdictD [lineW (w4D x), lineW (w5D x), lineW (w6D x), lineW (w7D x)] false = (x.v, x.t, [lineW (w5D x), lineW (w6D x), lineW (w7D x)], false) := by
    unfold verdictD w4D
    rw [next_line (many := 2) (w4_ok (right_v h)) rfl]
    simp only [atD, List.getD_cons_zero, List.getD_cons_succ]
    rw [num_itoa gt, kindB_kind (right_v h)]
  unfold readD2
  simp only [e1, e2, e3, e4]
  unfold w5D w6D w7D
  rw [next_line (many := 1) (w5_ok x) rfl]
  simp only
  rw [next_line (many := 1) (w6_ok x) rfl]
  simp only
  rw [next_line (many := 2) (w7_ok x) rfl]
  simp only [atD, List.getD_cons_zero, List.getD_cons_succ]
  rw [num_itoa gf]
  simp only
  rw [num_itoa gg, setW_show, setR_show, hf, hu]
  simp only [List.isEmpty_nil, Bool.not_true, Bool.and_true, Bool.false_or]
  rw [h]
  rfl
theorem readRp_text {x : Rpt} (h : rightD x = true) (hg : goodR x) : readRp (textD x) = (x, true) := by
  unfold readRp
  rw [lines_of h]
  exact read_lines h hg
theorem setW_yes {s : List UInt8} (h : (setW s).2 = true) : showW (setW s).1 = s := by
  rw [setW_eq] at h ⊢
  unfold setD at h ⊢
  by_cases h0 : s = [45]
  · rw [if_pos h0]; subst h0; rfl
  · rw [if_neg h0] at h ⊢
    cases ha : allD (cutF 44 s) with
    | none => rw [ha] at h; cases h
    | some l =>
      rw [ha] at h
      simp only at h ⊢
      by_cases hs : showW l = s
      · rw [if_pos hs]; exact hs
      · rw [if_neg hs] at h; cases h
theorem showR_of (l : List Int) : showR (ofR l) = showR l := by unfold showR; rw [ofR_of]
theorem setRP_yes {s : List UInt8} (h : (setRP s).2 = true) : showR (setRP s).1 = s := by
  rw [setR_eq] at h ⊢
  unfold setRD at h ⊢
  by_cases h0 : s = [45]
  · rw [if_pos h0]; subst h0; rfl
  · rw [if_neg h0] at h ⊢
    by_cases hs : showR ((cutF 44 s).map numR) = s
    · rw [if_pos hs]; simp only; rw [showR_of]; exact hs
    · rw [if_neg hs] at h; cases h
theorem len1 {l : List (List UInt8)} (h : l.length = 1) : l = [atD l 0] := by
  match l, h with
  | [a], _ => rfl
theorem len2 {l : List (List UInt8)} (h : l.length = 2) : l = [atD l 0, atD l 1] := by
  match l, h with
  | [a, b], _ => rfl
theorem len6 {l : List (List UInt8)} (h : l.length = 6) : l = [atD l 0, atD l 1, atD l 2, atD l 3, atD l 4, atD l 5] := by
  match l, h with
  | [a, b, c, d, e, f], _ => rfl
theorem readD_yes {L : List (List UInt8)} {is : Bool} (h : (readD2 L is).2 = true) : is = true ∧ rightD (readD2 L is).1 = true ∧ linesD (readD2 L is).1 = L ∧ goodI (readD2 L is).1.t ∧ goodI (readD2 L is).1.f0 ∧ goodI (readD2 L is).1.f1 := by
  unfold readD2 at h ⊢
  simp only at h ⊢
  generalize hs1 : headD L is = s1 at h ⊢
  generalize hs2 : configD s1.1 s1.2 = s2 at h ⊢
  generalize hs3 : recordsD s2.2.1 s2.2.2 = s3 at h ⊢
  generalize hs4 : verdictD s3.2.1 s3.2.2 = s4 at h ⊢
  generalize hn5 : nextD 1 [102, 97, 117, 108, 116, 115] s4.2.2.1 s4.2.2.2 = n5 at h ⊢
  generalize hn6 : nextD 1 [114, 117, 108, 101, 115] n5.2.1 n5.2.2 = n6 at h ⊢
  generalize hn7 : nextD 2 [108, 101, 102, 116] n6.2.1 n6.2.2 = n7 at h ⊢
  generalize hk0 : numD (atD n7.1 0) n7.2.2 = k0 at h ⊢
  generalize hk1 : numD (atD n7.1 1) k0.2 = k1 at h ⊢
  split at h
  · cases h
  · rename_i hc
    rw [if_neg hc]
    simp only [Bool.or_eq_true, Bool.not_eq_true', not_or, Bool.not_eq_true, Bool.not_eq_false, Bool.and_eq_true] at hc
    obtain ⟨c1, ⟨c2, c3⟩, c4, c5⟩ := hc
    simp only
    -- the numbers behind 'left'
    obtain ⟨d1, d2, d3⟩ := num_yes (s := atD n7.1 1) (b := k0.2) (by rw [hk1]; exact c1)
    obtain ⟨d4, d5, d6⟩ := num_yes (s := atD n7.1 0) (b := n7.2.2) (by rw [hk0]; exact d1)
    rw [hk1] at d2 d3
    rw [hk0] at d5 d6
    obtain ⟨f1, w7, r7, l7, q7, p7⟩ := next_yes (many := 2) (first := [108, 101, 102, 116]) (L := n6.2.1) (b := n6.2.2) (by rw [hn7]; exact d4)
    rw [hn7] at p7
    subst p7
    obtain ⟨f2, w6, r6, l6, q6, p6⟩ := next_yes (many := 1) (first := [114, 117, 108, 101, 115]) (L := n5.2.1) (b := n5.2.2) (by rw [hn6]; exact f1)
    rw [hn6] at p6
    subst p6
    obtain ⟨f3, w5, r5, l5, q5, p5⟩ := next_yes (many := 1) (first := [102, 97, 117, 108, 116, 115]) (L := s4.2.2.1) (b := s4.2.2.2) (by rw [hn5]; exact f2)
    rw [hn5] at p5
    subst p5
    simp only at q7 q6 c4 d2 d5 c2 c3 c5 ⊢
    obtain rfl : r7 = [] := List.isEmpty_iff.1 (by simpa using c4)
    -- the verdict
    unfold verdictD at hs4
    simp only at hs4
    generalize hn4 : nextD 2 [118, 101, 114, 100, 105, 99, 116] s3.2.1 s3.2.2 = n4 at hs4
    generalize hk4 : numD (atD n4.1 1) n4.2.2 = k4 at hs4
    subst hs4
    simp only at f3 q5 c5 ⊢
    obtain ⟨g1, g2, g3⟩ := num_yes (s := atD n4.1 1) (b := n4.2.2) (by rw [hk4]; exact f3)
    rw [hk4] at g2 g3
    obtain ⟨f4, w4, r4, l4, q4, p4⟩ := next_yes (many := 2) (first := [118, 101, 114, 100, 105, 99, 116]) (L := s3.2.1) (b := s3.2.2) (by rw [hn4]; exact g1)
    rw [hn4] at p4
    subst p4
    simp only at q5 g2 c5 ⊢
    have hkv : kindF (kindB (atD w4 0)).1 = atD w4 0 := by
      have hv := right_v c5
      simp only at hv
      by_cases hb : (kindB (atD w4 0)).2 = true
      · exact scan_pair hb
      · have := scan_false kindF (atD w4 0) 4 1 (by unfold kindB at hb; simpa using hb)
        have hz : (kindB (atD w4 0)).1 = 0 := by unfold kindB; rw [this]
        rw [hz] at hv
        omega
    -- the records
    unfold recordsD at hs3
    simp only at hs3
    generalize hn3 : nextD 1 [102, 114, 97, 109, 101, 115] s2.2.1 s2.2.2 = n3 at hs3
    generalize hk3 : numD (atD n3.1 0) n3.2.2 = k3 at hs3
    split at hs3
    · subst hs3; cases f4
    · rename_i hc3
      simp only [not_or, Bool.not_eq_true, Decidable.not_not] at hc3
      obtain ⟨m1, m2⟩ := hc3
      obtain ⟨m3, m4, m5⟩ := num_yes (s := atD n3.1 0) (b := n3.2.2) (by rw [hk3]; exact m1)
      rw [hk3] at m4 m5
      have hq : k3.1.toNat ≤ n3.2.1.length := by omega
      obtain ⟨_, x1, x2, x3⟩ := recs_yes k3.1.toNat n3.2.1 false hq (by rw [hs3]; exact f4)
      rw [hs3] at x1 x2 x3
      obtain ⟨f5, w3, r3, l3, q3, p3⟩ := next_yes (many := 1) (first := [102, 114, 97, 109, 101, 115]) (L := s2.2.1) (b := s2.2.2) (by rw [hn3]; exact m3)
      rw [hn3] at p3
      subst p3
      simp only at x2 m4 m2 hq
      have h3len : k3.1 = (s3.1.length : Int) := by
        have hx : r3.length = s3.1.length + s3.2.1.length := by
          have := congrArg List.length x2
          simpa using this
        have h4 : s3.2.1.length = 4 := by rw [q4, q5, q6, q7]; rfl
        omega
      -- the config
      unfold configD at hs2
      simp only at hs2
      generalize hn2 : nextD 6 [99, 111, 110, 102, 105, 103] s1.1 s1.2 = n2 at hs2
      generalize ha0 : numD (atD n2.1 0) n2.2.2 = a0 at hs2
      generalize ha1 : numD (atD n2.1 1) a0.2 = a1 at hs2
      generalize ha2 : numD (atD n2.1 2) a1.2 = a2 at hs2
      generalize ha3 : numD (atD n2.1 3) a2.2 = a3 at hs2
      generalize ha4 : numD (atD n2.1 4) a3.2 = a4 at hs2
      generalize ha5 : numD (atD n2.1 5) a4.2 = a5 at hs2
      subst hs2
      simp only at f5 q3 c5 ⊢
      obtain ⟨b5, e5, _⟩ := num_yes (s := atD n2.1 5) (b := a4.2) (by rw [ha5]; exact f5)
      obtain ⟨b4, e4, _⟩ := num_yes (s := atD n2.1 4) (b := a3.2) (by rw [ha4]; exact b5)
      obtain ⟨b3, e3, _⟩ := num_yes (s := atD n2.1 3) (b := a2.2) (by rw [ha3]; exact b4)
      obtain ⟨b2, e2, _⟩ := num_yes (s := atD n2.1 2) (b := a1.2) (by rw [ha2]; exact b3)
      obtain ⟨b1, e1, _⟩ := num_yes (s := atD n2.1 1) (b := a0.2) (by rw [ha1]; exact b2)
      obtain ⟨b0, e0, _⟩ := num_yes (s := atD n2.1 0) (b := n2.2.2) (by rw [ha0]; exact b1)
      rw [ha5] at e5
      rw [ha4] at e4
      rw [ha3] at e3
      rw [ha2] at e2
      rw [ha1] at e1
      rw [ha0] at e0
      obtain ⟨f6, w2, r2, l2, q2, p2⟩ := next_yes (many := 6) (first := [99, 111, 110, 102, 105, 103]) (L := s1.1) (b := s1.2) (by rw [hn2]; exact b0)
      rw [hn2] at p2
      subst p2
      simp only at q3 e0 e1 e2 e3 e4 e5
      -- the head
      unfold headD at hs1
      cases is with
      | false => rw [if_neg (by simp)] at hs1; subst hs1; cases f6
      | true =>
        rw [if_pos rfl] at hs1
        simp only at hs1
        generalize hn1 : nextD 1 [115, 116, 105, 99, 107, 108, 101, 114] L false = n1 at hs1
        subst hs1
        simp only [Bool.or_eq_false_iff, Bool.not_eq_false', beq_iff_eq] at f6 q2
        obtain ⟨f7, f8⟩ := f6
        obtain ⟨_, w1, r1, l1, q1, p1⟩ := next_yes (many := 1) (first := [115, 116, 105, 99, 107, 108, 101, 114]) (L := L) (b := false) (by rw [hn1]; exact f7)
        rw [hn1] at p1
        subst p1
        simp only at q2 f8
        have h5 := setW_yes c2
        have h6 := setRP_yes c3
        refine ⟨rfl, c5, ?_, g3, d6, d3⟩
        generalize (setW (atD w5 0)).1 = vf at h5 ⊢
        generalize (setRP (atD w6 0)).1 = vu at h6 ⊢
        generalize (kindB (atD w4 0)).1 = vk at hkv ⊢
        have E1 : w1 = [Lib.itoa 1] := (len1 l1).trans (by rw [f8, itoa_one])
        have E2 : w2 = [Lib.itoa a0.1, Lib.itoa a1.1, Lib.itoa a2.1, Lib.itoa a3.1, Lib.itoa a4.1, Lib.itoa a5.1] := (len6 l2).trans (by rw [e0, e1, e2, e3, e4, e5])
        have E3 : w3 = [Lib.itoa (s3.1.length : Int)] := (len1 l3).trans (by rw [← m4, h3len])
        have E4 : w4 = [kindF vk, Lib.itoa k4.1] := (len2 l4).trans (by rw [hkv, g2])
        have E5 : w5 = [showW vf] := (len1 l5).trans (by rw [h5])
        have E6 : w6 = [showR vu] := (len1 l6).trans (by rw [h6])
        have E7 : w7 = [Lib.itoa k0.1, Lib.itoa k1.1] := (len2 l7).trans (by rw [d5, d2])
        rw [q1, q2, q3, x2, q4, q5, q6, q7, E1, E2, E3, E4, E5, E6, E7]
        unfold linesD w1D w2D w3D w4D w5D w6D w7D
        simp only [List.cons_append, List.nil_append, List.map_append, List.append_assoc]
theorem readRp_yes {s : List UInt8} (h : (readRp s).2 = true) : rightD (readRp s).1 = true ∧ textD (readRp s).1 = s ∧ goodI (readRp s).1.t ∧ goodI (readRp s).1.f0 ∧ goodI (readRp s).1.f1 := by
  unfold readRp at h ⊢
  obtain ⟨h1, h2, h3, h4⟩ := readD_yes h
  refine ⟨h2, ?_, h4⟩
  unfold textD
  rw [h3]
  exact flat_back h1
theorem readRp_no {s : List UInt8} (h : (readRp s).2 = false) : readRp s = (zRpt, false) := by
  unfold readRp readD2 at h ⊢
  simp only at h ⊢
  split
  · rfl
  · rename_i hc
    rw [if_neg hc] at h
    cases h
end Go.Proofs.YtbdmepidabnfkaaGreatDoor
