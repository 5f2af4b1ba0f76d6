/-
  How it may be told that a rule is broken: the document's.
-/
import Derived.Test.YtjhhdgmhocpceaaGreatDoorRfb
import Derived.Test.YtjhhdgmhocpceaaGreatDoorMo
import Derived.Test.YtjhhdgmhocpceaaGreatDoorFrmB
import Derived.Test.YtjhhdgmhocpceaaGreatDoorMk
import Derived.Lib.SmallJoins
namespace Go.Proofs.YtjhhdgmhocpceaaGreatDoor
set_option linter.unusedSimpArgs false
set_option linter.unusedVariables false
set_option linter.unusedSectionVars false
open Go.ChangeShapes Go.WideShapes Go.ChangeAt Go.RowKit Go.Deep Go.Shelf


def EitP (s c : Int) (w : World) (e : Ending) (w' : World) : Prop := ∃ g, e = .returned (.slice (some ⟨g, 0, none⟩) 1 1) ∧ OwnFl w.heap.size w' (.slice (some ⟨g, 0, none⟩) 1 1) [⟨s, c⟩] ∧ Below w.heap.size w w'
theorem eit_own {B : Nat} {w : World} {s c : Int} (h : B ≤ w.heap.size) : OwnFl B (w.alloc (.cells #[.int .i64 s, .int .i64 c] FlT)) (.slice (some ⟨w.heap.size, 0, none⟩) 1 1) [⟨s, c⟩] := World.ownsRow_lit w #[.int .i64 s, .int .i64 c] 1 h (by decide) rfl
set_option maxRecDepth 100000 in
theorem either_conn (k : Int) (w : World) : Calls Tryz.prog 18 #[.bool true, .int .i64 k] w (EitP 2 k w) := by
  go_enter Tryz.func18, Tryz.ntmps18
  go_wp2_with fail
  go_ret
  exact ⟨_, rfl, eit_own (by simp), bel⟩
set_option maxRecDepth 100000 in
theorem either_stream (k : Int) (w : World) : Calls Tryz.prog 18 #[.bool false, .int .i64 k] w (EitP 1 k w) := by
  go_enter Tryz.func18, Tryz.ntmps18
  go_wp2_with fail
  go_ret
  exact ⟨_, rfl, eit_own (by simp), bel⟩
theorem either_of (b : Bool) (k : Int) (w : World) : Calls Tryz.prog 18 #[.bool b, .int .i64 k] w (EitP (if b = true then 2 else 1) k w) := by
  cases b
  · exact either_stream k w
  · exact either_conn k w
theorem OwnFl.toSl {B : Nat} {w : World} {v : Value} {l : List Fl} (h : OwnFl B w v l) : ∃ a cap, v = .slice a l.length cap ∧ SlFl w w.heap.size a l := by
  obtain ⟨a, cap, rfl, _, hs, _⟩ := OwnC.full h flC_len
  exact ⟨a, cap, rfl, hs⟩
/-- A parsed frame's cells, the document's, the world grown. -/
def FmD (w : World) (f : Fm) (q : Int × Int) (e : Ending) (w' : World) : Prop := ∃ da dc sa sc, e = .returned (.tuple #[.agg (fmC f.ty f.fl f.st f.pad da f.data.length dc sa f.sets.length sc f.wt f.pa f.al f.pr f.la f.co f.sp), fuV q]) ∧ SlG w' w'.heap.size sa f.sets ∧ ∃ j, w' = w.more j
theorem head_parse {ty fl st : Int} {l : List UInt8} (h : headR l.length ty fl st = true) : parseF ty fl st l = (parseF0 ty fl st l, 0) := by
  unfold parseF parseF0
  rw [if_neg (by rw [h]; simp)]
  repeat' split
  all_goals rfl
theorem head_not {ty fl st : Int} {l : List UInt8} (h : headR l.length ty fl st = false) : parseF ty fl st l = ((zFm, (0, 0)), 1) := by
  unfold parseF
  rw [if_pos h]
theorem ref14_ParseM (fr ty fl st : Int) (rs : Bool) (a : Option Addr) (c : Nat) (l : List UInt8) (hh : headR l.length ty fl st = true) (hl : l.length ≤ 1048576) (hlc : l.length ≤ c) (w : World) (h : SlB w w.heap.size a l) :
    Calls Tryz.prog 35 #[rawV fr ty fl st rs a l.length c] w (FmD w (parseF ty fl st l).1.1 (parseF ty fl st l).1.2) := by
  obtain ⟨_, _, hf, _⟩ := headR_iff.1 hh
  rw [head_parse hh]
  exact (ref14_Parse fr ty fl st rs a c l hf.1 hf.2 hl hlc w h).mono fun e w' ⟨cs, he, ⟨da, dc, sa, sc, hcs, h1, h2, h3, h4, h5, h6⟩, hb⟩ => ⟨da, dc, sa, sc, by rw [he, hcs], h4, hb.junk⟩
theorem ofF_zero : ofF [⟨0, 0⟩] = [] := by decide +kernel

set_option maxHeartbeats 4000000 in
set_option maxRecDepth 100000 in
theorem ref38_looked5 (fr ty fl st : Int) (rs : Bool) (a : Option Addr) (c : Nat) (l : List UInt8) (hl : l.length ≤ 1048576) (hlc : l.length ≤ c) (w : World) (h : SlB w w.heap.size a l) :
    Calls Tryz.prog 19 #[.int .i64 5, rawV fr ty fl st rs a l.length c] w (TwoP (ofF [⟨(parseF ty fl st l).1.2.1, (parseF ty fl st l).1.2.2⟩]) w) := by
  have HH : Hid (∀ W, Calls Tryz.prog 34 #[rawV fr ty fl st rs a l.length c] W fun e w' => e = .returned (.bool (headR l.length ty fl st)) ∧ ∃ j, w' = W.more j) := ref14_Right fr ty fl st rs a l.length c
  cases hh : headR l.length ty fl st with
  | false =>
    rw [hh] at HH
    have e : (parseF ty fl st l).1.2 = (0, 0) := by rw [head_not hh]
    rw [e, ofF_zero]
    clear h hh e
    go_enter Tryz.func19, Tryz.ntmps19
    go_wp2_with (go_at_call 34; (with_reducible refine (HH.out _).mono ?_); rintro e w' ⟨rfl, j, rfl⟩)
    go_ret
    exact ⟨none, 0, rfl, .nil, bel⟩
  | true =>
    rw [hh] at HH
    have HP : Hid (∀ W, Below w.heap.size w W → Calls Tryz.prog 35 #[rawV fr ty fl st rs a l.length c] W (FmD W (parseF ty fl st l).1.1 (parseF ty fl st l).1.2)) := fun W hW => ref14_ParseM fr ty fl st rs a c l hh hl hlc W (h.grow hW)
    generalize parseF ty fl st l = R at HP ⊢
    obtain ⟨⟨⟨ty', fl', st', pad, data, sets, wt, pa, al, pr, la, co, sp⟩, q1, q2⟩, ev⟩ := R
    unfold FmD at HP
    simp only at HP ⊢
    have H1 : Hid (∀ W g, Blk W g FuT #[.int .i64 q1, .int .i64 q2] → Calls Tryz.prog 8 #[.slice (some ⟨g, 0, none⟩) 1 1] W (TwoP (ofF [⟨q1, q2⟩]) W)) := fun W g hg => (ref09_Of (some ⟨g, 0, none⟩) [⟨q1, q2⟩] 1 (by simp) W (slFl_one hg)).mono fun e w' ⟨a', c', he, _, hs, hb⟩ => ⟨a', c', he, hs, hb⟩
    generalize ofF [⟨q1, q2⟩] = F at H1 ⊢
    clear h hh
    go_enter Tryz.func19, Tryz.ntmps19
    go_wp2_with (go_at_call 34; (with_reducible refine (HH.out _).mono ?_); rintro e w' ⟨rfl, j, rfl⟩)
    refine (HP.out _ bel).mono ?_
    rintro e w' ⟨da, dc, sa, sc, rfl, hs4, j2, rfl⟩
    clear hs4
    go_wp2_with fail
    refine (H1.out _ _ blk).mono ?_
    rintro e w1 ⟨a1, c1, rfl, hs1, hb1⟩
    have HS1 := Lib.hid hs1
    have HB1 : Hid (Below w.heap.size w w1) := Below.trans (B := w.heap.size) bel (hb1.mono (by simp; try omega))
    clear hs1 hb1
    go_wp2_with fail
    go_ret
    exact ⟨_, _, rfl, HS1.out, HB1.out⟩

set_option maxHeartbeats 4000000 in
set_option maxRecDepth 100000 in
theorem ref38_looked6 (fr ty fl st : Int) (rs : Bool) (a : Option Addr) (c : Nat) (l : List UInt8) (hl : l.length ≤ 1048576) (hlc : l.length ≤ c) (w : World) (h : SlB w w.heap.size a l) :
    Calls Tryz.prog 19 #[.int .i64 6, rawV fr ty fl st rs a l.length c] w (TwoP (ofF [⟨(valF fr ty fl st l).1, (valF fr ty fl st l).2⟩]) w) := by
  have HH : Hid (∀ W, Calls Tryz.prog 34 #[rawV fr ty fl st rs a l.length c] W fun e w' => e = .returned (.bool (headR l.length ty fl st)) ∧ ∃ j, w' = W.more j) := ref14_Right fr ty fl st rs a l.length c
  cases hh : headR l.length ty fl st with
  | false =>
    rw [hh] at HH
    have e : (valF fr ty fl st l) = (0, 0) := by unfold valF; rw [head_not hh]; rfl
    rw [e, ofF_zero]
    clear h hh e
    go_enter Tryz.func19, Tryz.ntmps19
    go_wp2_with (go_at_call 34; (with_reducible refine (HH.out _).mono ?_); rintro e w' ⟨rfl, j, rfl⟩)
    go_ret
    exact ⟨none, 0, rfl, .nil, bel⟩
  | true =>
    rw [hh] at HH
    have HP : Hid (∀ W, Below w.heap.size w W → Calls Tryz.prog 35 #[rawV fr ty fl st rs a l.length c] W (FmD W (parseF ty fl st l).1.1 (parseF ty fl st l).1.2)) := fun W hW => ref14_ParseM fr ty fl st rs a c l hh hl hlc W (h.grow hW)
    have hs := parse_sets (ty := ty) (fl := fl) (st := st) (l := l)
    have hv : valF fr ty fl st l = (scopeOf (chkS fr (parseF ty fl st l).1.1.sets), chkS fr (parseF ty fl st l).1.1.sets) := by
      unfold valF
      rw [head_parse hh]
      rfl
    rw [hv]
    clear hv
    generalize parseF ty fl st l = R at HP hs ⊢
    obtain ⟨⟨⟨ty', fl', st', pad, data, sets, wt, pa, al, pr, la, co, sp⟩, q01, q02⟩, ev⟩ := R
    unfold FmD at HP
    simp only at HP hs ⊢
    have HC : Hid (∀ W sa sc, SlG W W.heap.size sa sets → Calls Tryz.prog 36 #[.slice sa sets.length sc, .int .i64 fr] W (ChkP fr sets W)) := fun W sa sc hW => ref13_Check sa sc fr sets (by omega) W hW
    unfold ChkP at HC
    generalize chkS fr sets = q2 at HC ⊢
    generalize scopeOf q2 = q1 at HC ⊢
    have H1 : Hid (∀ W g, Blk W g FuT #[.int .i64 q1, .int .i64 q2] → Calls Tryz.prog 8 #[.slice (some ⟨g, 0, none⟩) 1 1] W (TwoP (ofF [⟨q1, q2⟩]) W)) := fun W g hg => (ref09_Of (some ⟨g, 0, none⟩) [⟨q1, q2⟩] 1 (by simp) W (slFl_one hg)).mono fun e w' ⟨a', c', he, _, hs, hb⟩ => ⟨a', c', he, hs, hb⟩
    generalize ofF [⟨q1, q2⟩] = F at H1 ⊢
    clear h hh
    go_enter Tryz.func19, Tryz.ntmps19
    go_wp2_with (go_at_call 34; (with_reducible refine (HH.out _).mono ?_); rintro e w' ⟨rfl, j, rfl⟩)
    refine (HP.out _ bel).mono ?_
    rintro e w' ⟨da, dc, sa, sc, rfl, hs4, j2, rfl⟩
    simp only [World.more_more] at hs4
    have HS4 := Lib.hid hs4
    clear hs4
    go_wp2_with fail
    refine (HC.out _ sa sc (SlR.grow' HS4.out bel)).mono ?_
    rintro e w' ⟨rfl, j3, rfl⟩
    go_wp2_with fail
    refine (H1.out _ _ blk).mono ?_
    rintro e w1 ⟨a1, c1, rfl, hs1, hb1⟩
    have HS1 := Lib.hid hs1
    have HB1 : Hid (Below w.heap.size w w1) := Below.trans (B := w.heap.size) bel (hb1.mono (by simp; try omega))
    clear hs1 hb1
    go_wp2_with fail
    go_ret
    exact ⟨_, _, rfl, HS1.out, HB1.out⟩

set_option maxHeartbeats 4000000 in
set_option maxRecDepth 100000 in
theorem ref38_Faults_1 (fr ty fl st : Int) (rs : Bool) (a : Option Addr) (c : Nat) (l : List UInt8) (w : World) :
    Calls Tryz.prog 7 #[.int .i64 1, rawV fr ty fl st rs a l.length c] w (TwoP [⟨2, 1⟩] w) := by
  have H1 : Hid (∀ W, Calls Tryz.prog 18 #[.bool true, .int .i64 1] W (EitP 2 1 W)) := either_conn 1
  go_enter Tryz.func7, Tryz.ntmps7
  go_wp2_with fail
  refine (H1.out _).mono ?_
  rintro e w1 ⟨g1, rfl, ho1, hb1⟩
  obtain ⟨a1, c1, e1, hs1⟩ := ho1.toSl
  injection e1 with e3 e4 e5
  subst e3 e5
  have HS1 := Lib.hid hs1
  have HB1 : Hid (Below w.heap.size w w1) := Below.trans (B := w.heap.size) bel (hb1.mono (by simp; try omega))
  clear ho1 hs1 hb1 e4
  go_wp2_with fail
  go_ret
  exact ⟨_, _, rfl, HS1.out, HB1.out⟩

set_option maxHeartbeats 4000000 in
set_option maxRecDepth 100000 in
theorem ref38_Faults_2 (fr ty fl st : Int) (rs : Bool) (a : Option Addr) (c : Nat) (l : List UInt8) (w : World) :
    Calls Tryz.prog 7 #[.int .i64 2, rawV fr ty fl st rs a l.length c] w (TwoP [⟨2, 1⟩] w) := by
  have H1 : Hid (∀ W, Calls Tryz.prog 18 #[.bool true, .int .i64 1] W (EitP 2 1 W)) := either_conn 1
  go_enter Tryz.func7, Tryz.ntmps7
  go_wp2_with fail
  refine (H1.out _).mono ?_
  rintro e w1 ⟨g1, rfl, ho1, hb1⟩
  obtain ⟨a1, c1, e1, hs1⟩ := ho1.toSl
  injection e1 with e3 e4 e5
  subst e3 e5
  have HS1 := Lib.hid hs1
  have HB1 : Hid (Below w.heap.size w w1) := Below.trans (B := w.heap.size) bel (hb1.mono (by simp; try omega))
  clear ho1 hs1 hb1 e4
  go_wp2_with fail
  go_ret
  exact ⟨_, _, rfl, HS1.out, HB1.out⟩

set_option maxHeartbeats 4000000 in
set_option maxRecDepth 100000 in
theorem ref38_Faults_4 (fr ty fl st : Int) (rs : Bool) (a : Option Addr) (c : Nat) (l : List UInt8) (w : World) :
    Calls Tryz.prog 7 #[.int .i64 4, rawV fr ty fl st rs a l.length c] w (TwoP [⟨2, 1⟩] w) := by
  have H1 : Hid (∀ W, Calls Tryz.prog 18 #[.bool true, .int .i64 1] W (EitP 2 1 W)) := either_conn 1
  go_enter Tryz.func7, Tryz.ntmps7
  go_wp2_with fail
  refine (H1.out _).mono ?_
  rintro e w1 ⟨g1, rfl, ho1, hb1⟩
  obtain ⟨a1, c1, e1, hs1⟩ := ho1.toSl
  injection e1 with e3 e4 e5
  subst e3 e5
  have HS1 := Lib.hid hs1
  have HB1 : Hid (Below w.heap.size w w1) := Below.trans (B := w.heap.size) bel (hb1.mono (by simp; try omega))
  clear ho1 hs1 hb1 e4
  go_wp2_with fail
  go_ret
  exact ⟨_, _, rfl, HS1.out, HB1.out⟩

set_option maxHeartbeats 4000000 in
set_option maxRecDepth 100000 in
theorem ref38_Faults_7 (fr ty fl st : Int) (rs : Bool) (a : Option Addr) (c : Nat) (l : List UInt8) (w : World) :
    Calls Tryz.prog 7 #[.int .i64 7, rawV fr ty fl st rs a l.length c] w (TwoP [⟨2, 1⟩] w) := by
  have H1 : Hid (∀ W, Calls Tryz.prog 18 #[.bool true, .int .i64 1] W (EitP 2 1 W)) := either_conn 1
  go_enter Tryz.func7, Tryz.ntmps7
  go_wp2_with fail
  refine (H1.out _).mono ?_
  rintro e w1 ⟨g1, rfl, ho1, hb1⟩
  obtain ⟨a1, c1, e1, hs1⟩ := ho1.toSl
  injection e1 with e3 e4 e5
  subst e3 e5
  have HS1 := Lib.hid hs1
  have HB1 : Hid (Below w.heap.size w w1) := Below.trans (B := w.heap.size) bel (hb1.mono (by simp; try omega))
  clear ho1 hs1 hb1 e4
  go_wp2_with fail
  go_ret
  exact ⟨_, _, rfl, HS1.out, HB1.out⟩

set_option maxHeartbeats 4000000 in
set_option maxRecDepth 100000 in
theorem ref38_Faults_8 (fr ty fl st : Int) (rs : Bool) (a : Option Addr) (c : Nat) (l : List UInt8) (w : World) :
    Calls Tryz.prog 7 #[.int .i64 8, rawV fr ty fl st rs a l.length c] w (TwoP [⟨2, 3⟩] w) := by
  have H1 : Hid (∀ W, Calls Tryz.prog 18 #[.bool true, .int .i64 3] W (EitP 2 3 W)) := either_conn 3
  go_enter Tryz.func7, Tryz.ntmps7
  go_wp2_with fail
  refine (H1.out _).mono ?_
  rintro e w1 ⟨g1, rfl, ho1, hb1⟩
  obtain ⟨a1, c1, e1, hs1⟩ := ho1.toSl
  injection e1 with e3 e4 e5
  subst e3 e5
  have HS1 := Lib.hid hs1
  have HB1 : Hid (Below w.heap.size w w1) := Below.trans (B := w.heap.size) bel (hb1.mono (by simp; try omega))
  clear ho1 hs1 hb1 e4
  go_wp2_with fail
  go_ret
  exact ⟨_, _, rfl, HS1.out, HB1.out⟩

set_option maxHeartbeats 4000000 in
set_option maxRecDepth 100000 in
theorem ref38_Faults_9 (fr ty fl st : Int) (rs : Bool) (a : Option Addr) (c : Nat) (l : List UInt8) (w : World) :
    Calls Tryz.prog 7 #[.int .i64 9, rawV fr ty fl st rs a l.length c] w (TwoP [⟨2, 1⟩] w) := by
  have H1 : Hid (∀ W, Calls Tryz.prog 18 #[.bool true, .int .i64 1] W (EitP 2 1 W)) := either_conn 1
  go_enter Tryz.func7, Tryz.ntmps7
  go_wp2_with fail
  refine (H1.out _).mono ?_
  rintro e w1 ⟨g1, rfl, ho1, hb1⟩
  obtain ⟨a1, c1, e1, hs1⟩ := ho1.toSl
  injection e1 with e3 e4 e5
  subst e3 e5
  have HS1 := Lib.hid hs1
  have HB1 : Hid (Below w.heap.size w w1) := Below.trans (B := w.heap.size) bel (hb1.mono (by simp; try omega))
  clear ho1 hs1 hb1 e4
  go_wp2_with fail
  go_ret
  exact ⟨_, _, rfl, HS1.out, HB1.out⟩

set_option maxHeartbeats 4000000 in
set_option maxRecDepth 100000 in
theorem ref38_Faults_10 (fr ty fl st : Int) (rs : Bool) (a : Option Addr) (c : Nat) (l : List UInt8) (w : World) :
    Calls Tryz.prog 7 #[.int .i64 10, rawV fr ty fl st rs a l.length c] w (TwoP [⟨2, 1⟩] w) := by
  have H1 : Hid (∀ W, Calls Tryz.prog 18 #[.bool true, .int .i64 1] W (EitP 2 1 W)) := either_conn 1
  go_enter Tryz.func7, Tryz.ntmps7
  go_wp2_with fail
  refine (H1.out _).mono ?_
  rintro e w1 ⟨g1, rfl, ho1, hb1⟩
  obtain ⟨a1, c1, e1, hs1⟩ := ho1.toSl
  injection e1 with e3 e4 e5
  subst e3 e5
  have HS1 := Lib.hid hs1
  have HB1 : Hid (Below w.heap.size w w1) := Below.trans (B := w.heap.size) bel (hb1.mono (by simp; try omega))
  clear ho1 hs1 hb1 e4
  go_wp2_with fail
  go_ret
  exact ⟨_, _, rfl, HS1.out, HB1.out⟩

set_option maxHeartbeats 4000000 in
set_option maxRecDepth 100000 in
theorem ref38_Faults_11 (fr ty fl st : Int) (rs : Bool) (a : Option Addr) (c : Nat) (l : List UInt8) (w : World) :
    Calls Tryz.prog 7 #[.int .i64 11, rawV fr ty fl st rs a l.length c] w (TwoP [⟨2, 1⟩] w) := by
  have H1 : Hid (∀ W, Calls Tryz.prog 18 #[.bool true, .int .i64 1] W (EitP 2 1 W)) := either_conn 1
  go_enter Tryz.func7, Tryz.ntmps7
  go_wp2_with fail
  refine (H1.out _).mono ?_
  rintro e w1 ⟨g1, rfl, ho1, hb1⟩
  obtain ⟨a1, c1, e1, hs1⟩ := ho1.toSl
  injection e1 with e3 e4 e5
  subst e3 e5
  have HS1 := Lib.hid hs1
  have HB1 : Hid (Below w.heap.size w w1) := Below.trans (B := w.heap.size) bel (hb1.mono (by simp; try omega))
  clear ho1 hs1 hb1 e4
  go_wp2_with fail
  go_ret
  exact ⟨_, _, rfl, HS1.out, HB1.out⟩

set_option maxHeartbeats 4000000 in
set_option maxRecDepth 100000 in
theorem ref38_Faults_12 (fr ty fl st : Int) (rs : Bool) (a : Option Addr) (c : Nat) (l : List UInt8) (w : World) :
    Calls Tryz.prog 7 #[.int .i64 12, rawV fr ty fl st rs a l.length c] w (TwoP [⟨2, 1⟩] w) := by
  have H1 : Hid (∀ W, Calls Tryz.prog 18 #[.bool true, .int .i64 1] W (EitP 2 1 W)) := either_conn 1
  go_enter Tryz.func7, Tryz.ntmps7
  go_wp2_with fail
  refine (H1.out _).mono ?_
  rintro e w1 ⟨g1, rfl, ho1, hb1⟩
  obtain ⟨a1, c1, e1, hs1⟩ := ho1.toSl
  injection e1 with e3 e4 e5
  subst e3 e5
  have HS1 := Lib.hid hs1
  have HB1 : Hid (Below w.heap.size w w1) := Below.trans (B := w.heap.size) bel (hb1.mono (by simp; try omega))
  clear ho1 hs1 hb1 e4
  go_wp2_with fail
  go_ret
  exact ⟨_, _, rfl, HS1.out, HB1.out⟩

set_option maxHeartbeats 4000000 in
set_option maxRecDepth 100000 in
theorem ref38_Faults_13 (fr ty fl st : Int) (rs : Bool) (a : Option Addr) (c : Nat) (l : List UInt8) (w : World) :
    Calls Tryz.prog 7 #[.int .i64 13, rawV fr ty fl st rs a l.length c] w (TwoP [⟨1, 5⟩] w) := by
  have H1 : Hid (∀ W, Calls Tryz.prog 18 #[.bool false, .int .i64 5] W (EitP 1 5 W)) := either_stream 5
  go_enter Tryz.func7, Tryz.ntmps7
  go_wp2_with fail
  refine (H1.out _).mono ?_
  rintro e w1 ⟨g1, rfl, ho1, hb1⟩
  obtain ⟨a1, c1, e1, hs1⟩ := ho1.toSl
  injection e1 with e3 e4 e5
  subst e3 e5
  have HS1 := Lib.hid hs1
  have HB1 : Hid (Below w.heap.size w w1) := Below.trans (B := w.heap.size) bel (hb1.mono (by simp; try omega))
  clear ho1 hs1 hb1 e4
  go_wp2_with fail
  go_ret
  exact ⟨_, _, rfl, HS1.out, HB1.out⟩

set_option maxHeartbeats 4000000 in
set_option maxRecDepth 100000 in
theorem ref38_Faults_15 (fr ty fl st : Int) (rs : Bool) (a : Option Addr) (c : Nat) (l : List UInt8) (w : World) :
    Calls Tryz.prog 7 #[.int .i64 15, rawV fr ty fl st rs a l.length c] w (TwoP [⟨1, 5⟩] w) := by
  have H1 : Hid (∀ W, Calls Tryz.prog 18 #[.bool false, .int .i64 5] W (EitP 1 5 W)) := either_stream 5
  go_enter Tryz.func7, Tryz.ntmps7
  go_wp2_with fail
  refine (H1.out _).mono ?_
  rintro e w1 ⟨g1, rfl, ho1, hb1⟩
  obtain ⟨a1, c1, e1, hs1⟩ := ho1.toSl
  injection e1 with e3 e4 e5
  subst e3 e5
  have HS1 := Lib.hid hs1
  have HB1 : Hid (Below w.heap.size w w1) := Below.trans (B := w.heap.size) bel (hb1.mono (by simp; try omega))
  clear ho1 hs1 hb1 e4
  go_wp2_with fail
  go_ret
  exact ⟨_, _, rfl, HS1.out, HB1.out⟩

set_option maxHeartbeats 4000000 in
set_option maxRecDepth 100000 in
theorem ref38_Faults_19 (fr ty fl st : Int) (rs : Bool) (a : Option Addr) (c : Nat) (l : List UInt8) (w : World) :
    Calls Tryz.prog 7 #[.int .i64 19, rawV fr ty fl st rs a l.length c] w (TwoP [⟨2, 3⟩] w) := by
  have H1 : Hid (∀ W, Calls Tryz.prog 18 #[.bool true, .int .i64 3] W (EitP 2 3 W)) := either_conn 3
  go_enter Tryz.func7, Tryz.ntmps7
  go_wp2_with fail
  refine (H1.out _).mono ?_
  rintro e w1 ⟨g1, rfl, ho1, hb1⟩
  obtain ⟨a1, c1, e1, hs1⟩ := ho1.toSl
  injection e1 with e3 e4 e5
  subst e3 e5
  have HS1 := Lib.hid hs1
  have HB1 : Hid (Below w.heap.size w w1) := Below.trans (B := w.heap.size) bel (hb1.mono (by simp; try omega))
  clear ho1 hs1 hb1 e4
  go_wp2_with fail
  go_ret
  exact ⟨_, _, rfl, HS1.out, HB1.out⟩

set_option maxHeartbeats 4000000 in
set_option maxRecDepth 100000 in
theorem ref38_Faults_21 (fr ty fl st : Int) (rs : Bool) (a : Option Addr) (c : Nat) (l : List UInt8) (w : World) :
    Calls Tryz.prog 7 #[.int .i64 21, rawV fr ty fl st rs a l.length c] w (TwoP [⟨2, 1⟩] w) := by
  have H1 : Hid (∀ W, Calls Tryz.prog 18 #[.bool true, .int .i64 1] W (EitP 2 1 W)) := either_conn 1
  go_enter Tryz.func7, Tryz.ntmps7
  go_wp2_with fail
  refine (H1.out _).mono ?_
  rintro e w1 ⟨g1, rfl, ho1, hb1⟩
  obtain ⟨a1, c1, e1, hs1⟩ := ho1.toSl
  injection e1 with e3 e4 e5
  subst e3 e5
  have HS1 := Lib.hid hs1
  have HB1 : Hid (Below w.heap.size w w1) := Below.trans (B := w.heap.size) bel (hb1.mono (by simp; try omega))
  clear ho1 hs1 hb1 e4
  go_wp2_with fail
  go_ret
  exact ⟨_, _, rfl, HS1.out, HB1.out⟩

set_option maxHeartbeats 4000000 in
set_option maxRecDepth 100000 in
theorem ref38_Faults_22 (fr ty fl st : Int) (rs : Bool) (a : Option Addr) (c : Nat) (l : List UInt8) (w : World) :
    Calls Tryz.prog 7 #[.int .i64 22, rawV fr ty fl st rs a l.length c] w (TwoP [⟨2, 1⟩] w) := by
  have H1 : Hid (∀ W, Calls Tryz.prog 18 #[.bool true, .int .i64 1] W (EitP 2 1 W)) := either_conn 1
  go_enter Tryz.func7, Tryz.ntmps7
  go_wp2_with fail
  refine (H1.out _).mono ?_
  rintro e w1 ⟨g1, rfl, ho1, hb1⟩
  obtain ⟨a1, c1, e1, hs1⟩ := ho1.toSl
  injection e1 with e3 e4 e5
  subst e3 e5
  have HS1 := Lib.hid hs1
  have HB1 : Hid (Below w.heap.size w w1) := Below.trans (B := w.heap.size) bel (hb1.mono (by simp; try omega))
  clear ho1 hs1 hb1 e4
  go_wp2_with fail
  go_ret
  exact ⟨_, _, rfl, HS1.out, HB1.out⟩

set_option maxHeartbeats 4000000 in
set_option maxRecDepth 100000 in
theorem ref38_Faults_23 (fr ty fl st : Int) (rs : Bool) (a : Option Addr) (c : Nat) (l : List UInt8) (w : World) :
    Calls Tryz.prog 7 #[.int .i64 23, rawV fr ty fl st rs a l.length c] w (TwoP [⟨2, 1⟩] w) := by
  have H1 : Hid (∀ W, Calls Tryz.prog 18 #[.bool true, .int .i64 1] W (EitP 2 1 W)) := either_conn 1
  go_enter Tryz.func7, Tryz.ntmps7
  go_wp2_with fail
  refine (H1.out _).mono ?_
  rintro e w1 ⟨g1, rfl, ho1, hb1⟩
  obtain ⟨a1, c1, e1, hs1⟩ := ho1.toSl
  injection e1 with e3 e4 e5
  subst e3 e5
  have HS1 := Lib.hid hs1
  have HB1 : Hid (Below w.heap.size w w1) := Below.trans (B := w.heap.size) bel (hb1.mono (by simp; try omega))
  clear ho1 hs1 hb1 e4
  go_wp2_with fail
  go_ret
  exact ⟨_, _, rfl, HS1.out, HB1.out⟩

set_option maxHeartbeats 4000000 in
set_option maxRecDepth 100000 in
theorem ref38_Faults_25 (fr ty fl st : Int) (rs : Bool) (a : Option Addr) (c : Nat) (l : List UInt8) (w : World) :
    Calls Tryz.prog 7 #[.int .i64 25, rawV fr ty fl st rs a l.length c] w (TwoP [⟨2, 9⟩] w) := by
  have H1 : Hid (∀ W, Calls Tryz.prog 18 #[.bool true, .int .i64 9] W (EitP 2 9 W)) := either_conn 9
  go_enter Tryz.func7, Tryz.ntmps7
  go_wp2_with fail
  refine (H1.out _).mono ?_
  rintro e w1 ⟨g1, rfl, ho1, hb1⟩
  obtain ⟨a1, c1, e1, hs1⟩ := ho1.toSl
  injection e1 with e3 e4 e5
  subst e3 e5
  have HS1 := Lib.hid hs1
  have HB1 : Hid (Below w.heap.size w w1) := Below.trans (B := w.heap.size) bel (hb1.mono (by simp; try omega))
  clear ho1 hs1 hb1 e4
  go_wp2_with fail
  go_ret
  exact ⟨_, _, rfl, HS1.out, HB1.out⟩

set_option maxHeartbeats 4000000 in
set_option maxRecDepth 100000 in
theorem ref38_Faults_26 (fr ty fl st : Int) (rs : Bool) (a : Option Addr) (c : Nat) (l : List UInt8) (w : World) :
    Calls Tryz.prog 7 #[.int .i64 26, rawV fr ty fl st rs a l.length c] w (TwoP [⟨2, 9⟩] w) := by
  have H1 : Hid (∀ W, Calls Tryz.prog 18 #[.bool true, .int .i64 9] W (EitP 2 9 W)) := either_conn 9
  go_enter Tryz.func7, Tryz.ntmps7
  go_wp2_with fail
  refine (H1.out _).mono ?_
  rintro e w1 ⟨g1, rfl, ho1, hb1⟩
  obtain ⟨a1, c1, e1, hs1⟩ := ho1.toSl
  injection e1 with e3 e4 e5
  subst e3 e5
  have HS1 := Lib.hid hs1
  have HB1 : Hid (Below w.heap.size w w1) := Below.trans (B := w.heap.size) bel (hb1.mono (by simp; try omega))
  clear ho1 hs1 hb1 e4
  go_wp2_with fail
  go_ret
  exact ⟨_, _, rfl, HS1.out, HB1.out⟩

set_option maxHeartbeats 4000000 in
set_option maxRecDepth 100000 in
theorem ref38_Faults_27 (fr ty fl st : Int) (rs : Bool) (a : Option Addr) (c : Nat) (l : List UInt8) (w : World) :
    Calls Tryz.prog 7 #[.int .i64 27, rawV fr ty fl st rs a l.length c] w (TwoP [⟨2, 9⟩] w) := by
  have H1 : Hid (∀ W, Calls Tryz.prog 18 #[.bool true, .int .i64 9] W (EitP 2 9 W)) := either_conn 9
  go_enter Tryz.func7, Tryz.ntmps7
  go_wp2_with fail
  refine (H1.out _).mono ?_
  rintro e w1 ⟨g1, rfl, ho1, hb1⟩
  obtain ⟨a1, c1, e1, hs1⟩ := ho1.toSl
  injection e1 with e3 e4 e5
  subst e3 e5
  have HS1 := Lib.hid hs1
  have HB1 : Hid (Below w.heap.size w w1) := Below.trans (B := w.heap.size) bel (hb1.mono (by simp; try omega))
  clear ho1 hs1 hb1 e4
  go_wp2_with fail
  go_ret
  exact ⟨_, _, rfl, HS1.out, HB1.out⟩

set_option maxHeartbeats 4000000 in
set_option maxRecDepth 100000 in
theorem ref38_Faults_28 (fr ty fl st : Int) (rs : Bool) (a : Option Addr) (c : Nat) (l : List UInt8) (w : World) :
    Calls Tryz.prog 7 #[.int .i64 28, rawV fr ty fl st rs a l.length c] w (TwoP [⟨1, 1⟩] w) := by
  have H1 : Hid (∀ W, Calls Tryz.prog 18 #[.bool false, .int .i64 1] W (EitP 1 1 W)) := either_stream 1
  go_enter Tryz.func7, Tryz.ntmps7
  go_wp2_with fail
  refine (H1.out _).mono ?_
  rintro e w1 ⟨g1, rfl, ho1, hb1⟩
  obtain ⟨a1, c1, e1, hs1⟩ := ho1.toSl
  injection e1 with e3 e4 e5
  subst e3 e5
  have HS1 := Lib.hid hs1
  have HB1 : Hid (Below w.heap.size w w1) := Below.trans (B := w.heap.size) bel (hb1.mono (by simp; try omega))
  clear ho1 hs1 hb1 e4
  go_wp2_with fail
  go_ret
  exact ⟨_, _, rfl, HS1.out, HB1.out⟩

set_option maxHeartbeats 4000000 in
set_option maxRecDepth 100000 in
theorem ref38_Faults_29 (fr ty fl st : Int) (rs : Bool) (a : Option Addr) (c : Nat) (l : List UInt8) (w : World) :
    Calls Tryz.prog 7 #[.int .i64 29, rawV fr ty fl st rs a l.length c] w (TwoP [⟨1, 1⟩] w) := by
  have H1 : Hid (∀ W, Calls Tryz.prog 18 #[.bool false, .int .i64 1] W (EitP 1 1 W)) := either_stream 1
  go_enter Tryz.func7, Tryz.ntmps7
  go_wp2_with fail
  refine (H1.out _).mono ?_
  rintro e w1 ⟨g1, rfl, ho1, hb1⟩
  obtain ⟨a1, c1, e1, hs1⟩ := ho1.toSl
  injection e1 with e3 e4 e5
  subst e3 e5
  have HS1 := Lib.hid hs1
  have HB1 : Hid (Below w.heap.size w w1) := Below.trans (B := w.heap.size) bel (hb1.mono (by simp; try omega))
  clear ho1 hs1 hb1 e4
  go_wp2_with fail
  go_ret
  exact ⟨_, _, rfl, HS1.out, HB1.out⟩

set_option maxHeartbeats 4000000 in
set_option maxRecDepth 100000 in
theorem ref38_Faults_30 (fr ty fl st : Int) (rs : Bool) (a : Option Addr) (c : Nat) (l : List UInt8) (w : World) :
    Calls Tryz.prog 7 #[.int .i64 30, rawV fr ty fl st rs a l.length c] w (TwoP [⟨1, 1⟩] w) := by
  have H1 : Hid (∀ W, Calls Tryz.prog 18 #[.bool false, .int .i64 1] W (EitP 1 1 W)) := either_stream 1
  go_enter Tryz.func7, Tryz.ntmps7
  go_wp2_with fail
  refine (H1.out _).mono ?_
  rintro e w1 ⟨g1, rfl, ho1, hb1⟩
  obtain ⟨a1, c1, e1, hs1⟩ := ho1.toSl
  injection e1 with e3 e4 e5
  subst e3 e5
  have HS1 := Lib.hid hs1
  have HB1 : Hid (Below w.heap.size w w1) := Below.trans (B := w.heap.size) bel (hb1.mono (by simp; try omega))
  clear ho1 hs1 hb1 e4
  go_wp2_with fail
  go_ret
  exact ⟨_, _, rfl, HS1.out, HB1.out⟩

set_option maxHeartbeats 4000000 in
set_option maxRecDepth 100000 in
theorem ref38_Faults_31 (fr ty fl st : Int) (rs : Bool) (a : Option Addr) (c : Nat) (l : List UInt8) (w : World) :
    Calls Tryz.prog 7 #[.int .i64 31, rawV fr ty fl st rs a l.length c] w (TwoP [⟨1, 1⟩] w) := by
  have H1 : Hid (∀ W, Calls Tryz.prog 18 #[.bool false, .int .i64 1] W (EitP 1 1 W)) := either_stream 1
  go_enter Tryz.func7, Tryz.ntmps7
  go_wp2_with fail
  refine (H1.out _).mono ?_
  rintro e w1 ⟨g1, rfl, ho1, hb1⟩
  obtain ⟨a1, c1, e1, hs1⟩ := ho1.toSl
  injection e1 with e3 e4 e5
  subst e3 e5
  have HS1 := Lib.hid hs1
  have HB1 : Hid (Below w.heap.size w w1) := Below.trans (B := w.heap.size) bel (hb1.mono (by simp; try omega))
  clear ho1 hs1 hb1 e4
  go_wp2_with fail
  go_ret
  exact ⟨_, _, rfl, HS1.out, HB1.out⟩

set_option maxHeartbeats 4000000 in
set_option maxRecDepth 100000 in
theorem ref38_Faults_32 (fr ty fl st : Int) (rs : Bool) (a : Option Addr) (c : Nat) (l : List UInt8) (w : World) :
    Calls Tryz.prog 7 #[.int .i64 32, rawV fr ty fl st rs a l.length c] w (TwoP [⟨1, 1⟩] w) := by
  have H1 : Hid (∀ W, Calls Tryz.prog 18 #[.bool false, .int .i64 1] W (EitP 1 1 W)) := either_stream 1
  go_enter Tryz.func7, Tryz.ntmps7
  go_wp2_with fail
  refine (H1.out _).mono ?_
  rintro e w1 ⟨g1, rfl, ho1, hb1⟩
  obtain ⟨a1, c1, e1, hs1⟩ := ho1.toSl
  injection e1 with e3 e4 e5
  subst e3 e5
  have HS1 := Lib.hid hs1
  have HB1 : Hid (Below w.heap.size w w1) := Below.trans (B := w.heap.size) bel (hb1.mono (by simp; try omega))
  clear ho1 hs1 hb1 e4
  go_wp2_with fail
  go_ret
  exact ⟨_, _, rfl, HS1.out, HB1.out⟩

set_option maxHeartbeats 4000000 in
set_option maxRecDepth 100000 in
theorem ref38_Faults_33 (fr ty fl st : Int) (rs : Bool) (a : Option Addr) (c : Nat) (l : List UInt8) (w : World) :
    Calls Tryz.prog 7 #[.int .i64 33, rawV fr ty fl st rs a l.length c] w (TwoP [⟨1, 1⟩] w) := by
  have H1 : Hid (∀ W, Calls Tryz.prog 18 #[.bool false, .int .i64 1] W (EitP 1 1 W)) := either_stream 1
  go_enter Tryz.func7, Tryz.ntmps7
  go_wp2_with fail
  refine (H1.out _).mono ?_
  rintro e w1 ⟨g1, rfl, ho1, hb1⟩
  obtain ⟨a1, c1, e1, hs1⟩ := ho1.toSl
  injection e1 with e3 e4 e5
  subst e3 e5
  have HS1 := Lib.hid hs1
  have HB1 : Hid (Below w.heap.size w w1) := Below.trans (B := w.heap.size) bel (hb1.mono (by simp; try omega))
  clear ho1 hs1 hb1 e4
  go_wp2_with fail
  go_ret
  exact ⟨_, _, rfl, HS1.out, HB1.out⟩

set_option maxHeartbeats 4000000 in
set_option maxRecDepth 100000 in
theorem ref38_Faults_34 (fr ty fl st : Int) (rs : Bool) (a : Option Addr) (c : Nat) (l : List UInt8) (w : World) :
    Calls Tryz.prog 7 #[.int .i64 34, rawV fr ty fl st rs a l.length c] w (TwoP [⟨1, 1⟩] w) := by
  have H1 : Hid (∀ W, Calls Tryz.prog 18 #[.bool false, .int .i64 1] W (EitP 1 1 W)) := either_stream 1
  go_enter Tryz.func7, Tryz.ntmps7
  go_wp2_with fail
  refine (H1.out _).mono ?_
  rintro e w1 ⟨g1, rfl, ho1, hb1⟩
  obtain ⟨a1, c1, e1, hs1⟩ := ho1.toSl
  injection e1 with e3 e4 e5
  subst e3 e5
  have HS1 := Lib.hid hs1
  have HB1 : Hid (Below w.heap.size w w1) := Below.trans (B := w.heap.size) bel (hb1.mono (by simp; try omega))
  clear ho1 hs1 hb1 e4
  go_wp2_with fail
  go_ret
  exact ⟨_, _, rfl, HS1.out, HB1.out⟩

set_option maxHeartbeats 4000000 in
set_option maxRecDepth 100000 in
theorem ref38_Faults_35 (fr ty fl st : Int) (rs : Bool) (a : Option Addr) (c : Nat) (l : List UInt8) (w : World) :
    Calls Tryz.prog 7 #[.int .i64 35, rawV fr ty fl st rs a l.length c] w (TwoP [⟨2, 1⟩] w) := by
  have H1 : Hid (∀ W, Calls Tryz.prog 18 #[.bool true, .int .i64 1] W (EitP 2 1 W)) := either_conn 1
  go_enter Tryz.func7, Tryz.ntmps7
  go_wp2_with fail
  refine (H1.out _).mono ?_
  rintro e w1 ⟨g1, rfl, ho1, hb1⟩
  obtain ⟨a1, c1, e1, hs1⟩ := ho1.toSl
  injection e1 with e3 e4 e5
  subst e3 e5
  have HS1 := Lib.hid hs1
  have HB1 : Hid (Below w.heap.size w w1) := Below.trans (B := w.heap.size) bel (hb1.mono (by simp; try omega))
  clear ho1 hs1 hb1 e4
  go_wp2_with fail
  go_ret
  exact ⟨_, _, rfl, HS1.out, HB1.out⟩

set_option maxHeartbeats 4000000 in
set_option maxRecDepth 100000 in
theorem ref38_Faults_14 (fr ty fl st : Int) (rs : Bool) (a : Option Addr) (c : Nat) (l : List UInt8) (w : World) :
    Calls Tryz.prog 7 #[.int .i64 14, rawV fr ty fl st rs a l.length c] w (TwoP [⟨1, 5⟩, ⟨2, 5⟩] w) := by
  have H1 : Hid (∀ W, Calls Tryz.prog 18 #[.bool false, .int .i64 5] W (EitP 1 5 W)) := either_stream 5
  have H2 : Hid (∀ W, Calls Tryz.prog 18 #[.bool true, .int .i64 5] W (EitP 2 5 W)) := either_conn 5
  go_enter Tryz.func7, Tryz.ntmps7
  go_wp2_with fail
  refine (H1.out _).mono ?_
  rintro e w1 ⟨g1, rfl, ho1, hb1⟩
  have HO1 : Hid (OwnFl w.heap.size w1 (.slice (some ⟨g1, 0, none⟩) 1 1) [⟨1, 5⟩]) := Joins.ownsRow_le ho1 (by simp; try omega)
  have HB1 : Hid (Below w.heap.size w w1) := Below.trans (B := w.heap.size) bel (hb1.mono (by simp; try omega))
  clear ho1 hb1
  go_wp2_with fail
  refine (H2.out _).mono ?_
  rintro e w2 ⟨g2, rfl, ho2, hb2⟩
  obtain ⟨a2, c2, e2, hs2⟩ := ho2.toSl
  injection e2 with e3 e4 e5
  subst e3 e5
  have HS2 := Lib.hid hs2
  have HO2 : Hid (OwnFl w.heap.size w2 (.slice (some ⟨g1, 0, none⟩) 1 1) [⟨1, 5⟩]) := own_below HO1.out hb2 (Nat.le_refl _)
  have HB2 : Hid (Below w.heap.size w w2) := HB1.out.trans (hb2.mono HB1.out.size)
  clear ho2 hs2 hb2 e4 HO1 HB1
  go_wp2_with (at_builtin; refine app_fls (.tmp 62) (.tmp 63) rfl rfl (m := [⟨2, 5⟩]) rfl HO2.out rfl HS2.out (by simp) HB2.out.size ?_; intro v' w3 ho3 hb3)
  obtain ⟨a3, c3, rfl, hs3⟩ := ho3.toSl
  have HS3 := Lib.hid hs3
  have HB3 := Lib.hid (HB2.out.trans hb3)
  clear ho3 hs3 hb3
  go_wp2_with fail
  go_ret
  exact ⟨_, _, rfl, HS3.out, HB3.out⟩

set_option maxHeartbeats 4000000 in
set_option maxRecDepth 100000 in
theorem ref38_Faults_16 (fr ty fl st : Int) (rs : Bool) (a : Option Addr) (c : Nat) (l : List UInt8) (w : World) :
    Calls Tryz.prog 7 #[.int .i64 16, rawV fr ty fl st rs a l.length c] w (TwoP [⟨2, 1⟩, ⟨2, 5⟩] w) := by
  have H1 : Hid (∀ W, Calls Tryz.prog 18 #[.bool true, .int .i64 1] W (EitP 2 1 W)) := either_conn 1
  have H2 : Hid (∀ W, Calls Tryz.prog 18 #[.bool true, .int .i64 5] W (EitP 2 5 W)) := either_conn 5
  go_enter Tryz.func7, Tryz.ntmps7
  go_wp2_with fail
  refine (H1.out _).mono ?_
  rintro e w1 ⟨g1, rfl, ho1, hb1⟩
  have HO1 : Hid (OwnFl w.heap.size w1 (.slice (some ⟨g1, 0, none⟩) 1 1) [⟨2, 1⟩]) := Joins.ownsRow_le ho1 (by simp; try omega)
  have HB1 : Hid (Below w.heap.size w w1) := Below.trans (B := w.heap.size) bel (hb1.mono (by simp; try omega))
  clear ho1 hb1
  go_wp2_with fail
  refine (H2.out _).mono ?_
  rintro e w2 ⟨g2, rfl, ho2, hb2⟩
  obtain ⟨a2, c2, e2, hs2⟩ := ho2.toSl
  injection e2 with e3 e4 e5
  subst e3 e5
  have HS2 := Lib.hid hs2
  have HO2 : Hid (OwnFl w.heap.size w2 (.slice (some ⟨g1, 0, none⟩) 1 1) [⟨2, 1⟩]) := own_below HO1.out hb2 (Nat.le_refl _)
  have HB2 : Hid (Below w.heap.size w w2) := HB1.out.trans (hb2.mono HB1.out.size)
  clear ho2 hs2 hb2 e4 HO1 HB1
  go_wp2_with (at_builtin; refine app_fls (.tmp 67) (.tmp 68) rfl rfl (m := [⟨2, 5⟩]) rfl HO2.out rfl HS2.out (by simp) HB2.out.size ?_; intro v' w3 ho3 hb3)
  obtain ⟨a3, c3, rfl, hs3⟩ := ho3.toSl
  have HS3 := Lib.hid hs3
  have HB3 := Lib.hid (HB2.out.trans hb3)
  clear ho3 hs3 hb3
  go_wp2_with fail
  go_ret
  exact ⟨_, _, rfl, HS3.out, HB3.out⟩

set_option maxHeartbeats 4000000 in
set_option maxRecDepth 100000 in
theorem ref38_Faults_20 (fr ty fl st : Int) (rs : Bool) (a : Option Addr) (c : Nat) (l : List UInt8) (w : World) :
    Calls Tryz.prog 7 #[.int .i64 20, rawV fr ty fl st rs a l.length c] w (TwoP [⟨1, 3⟩, ⟨2, 3⟩] w) := by
  have H1 : Hid (∀ W, Calls Tryz.prog 18 #[.bool false, .int .i64 3] W (EitP 1 3 W)) := either_stream 3
  have H2 : Hid (∀ W, Calls Tryz.prog 18 #[.bool true, .int .i64 3] W (EitP 2 3 W)) := either_conn 3
  go_enter Tryz.func7, Tryz.ntmps7
  go_wp2_with fail
  refine (H1.out _).mono ?_
  rintro e w1 ⟨g1, rfl, ho1, hb1⟩
  have HO1 : Hid (OwnFl w.heap.size w1 (.slice (some ⟨g1, 0, none⟩) 1 1) [⟨1, 3⟩]) := Joins.ownsRow_le ho1 (by simp; try omega)
  have HB1 : Hid (Below w.heap.size w w1) := Below.trans (B := w.heap.size) bel (hb1.mono (by simp; try omega))
  clear ho1 hb1
  go_wp2_with fail
  refine (H2.out _).mono ?_
  rintro e w2 ⟨g2, rfl, ho2, hb2⟩
  obtain ⟨a2, c2, e2, hs2⟩ := ho2.toSl
  injection e2 with e3 e4 e5
  subst e3 e5
  have HS2 := Lib.hid hs2
  have HO2 : Hid (OwnFl w.heap.size w2 (.slice (some ⟨g1, 0, none⟩) 1 1) [⟨1, 3⟩]) := own_below HO1.out hb2 (Nat.le_refl _)
  have HB2 : Hid (Below w.heap.size w w2) := HB1.out.trans (hb2.mono HB1.out.size)
  clear ho2 hs2 hb2 e4 HO1 HB1
  go_wp2_with (at_builtin; refine app_fls (.tmp 84) (.tmp 85) rfl rfl (m := [⟨2, 3⟩]) rfl HO2.out rfl HS2.out (by simp) HB2.out.size ?_; intro v' w3 ho3 hb3)
  obtain ⟨a3, c3, rfl, hs3⟩ := ho3.toSl
  have HS3 := Lib.hid hs3
  have HB3 := Lib.hid (HB2.out.trans hb3)
  clear ho3 hs3 hb3
  go_wp2_with fail
  go_ret
  exact ⟨_, _, rfl, HS3.out, HB3.out⟩

set_option maxHeartbeats 4000000 in
set_option maxRecDepth 100000 in
theorem ref38_Faults_24 (fr ty fl st : Int) (rs : Bool) (a : Option Addr) (c : Nat) (l : List UInt8) (w : World) :
    Calls Tryz.prog 7 #[.int .i64 24, rawV fr ty fl st rs a l.length c] w (TwoP [⟨1, 1⟩, ⟨1, 7⟩] w) := by
  have H1 : Hid (∀ W, Calls Tryz.prog 18 #[.bool false, .int .i64 1] W (EitP 1 1 W)) := either_stream 1
  have H2 : Hid (∀ W, Calls Tryz.prog 18 #[.bool false, .int .i64 7] W (EitP 1 7 W)) := either_stream 7
  go_enter Tryz.func7, Tryz.ntmps7
  go_wp2_with fail
  refine (H1.out _).mono ?_
  rintro e w1 ⟨g1, rfl, ho1, hb1⟩
  have HO1 : Hid (OwnFl w.heap.size w1 (.slice (some ⟨g1, 0, none⟩) 1 1) [⟨1, 1⟩]) := Joins.ownsRow_le ho1 (by simp; try omega)
  have HB1 : Hid (Below w.heap.size w w1) := Below.trans (B := w.heap.size) bel (hb1.mono (by simp; try omega))
  clear ho1 hb1
  go_wp2_with fail
  refine (H2.out _).mono ?_
  rintro e w2 ⟨g2, rfl, ho2, hb2⟩
  obtain ⟨a2, c2, e2, hs2⟩ := ho2.toSl
  injection e2 with e3 e4 e5
  subst e3 e5
  have HS2 := Lib.hid hs2
  have HO2 : Hid (OwnFl w.heap.size w2 (.slice (some ⟨g1, 0, none⟩) 1 1) [⟨1, 1⟩]) := own_below HO1.out hb2 (Nat.le_refl _)
  have HB2 : Hid (Below w.heap.size w w2) := HB1.out.trans (hb2.mono HB1.out.size)
  clear ho2 hs2 hb2 e4 HO1 HB1
  go_wp2_with (at_builtin; refine app_fls (.tmp 89) (.tmp 90) rfl rfl (m := [⟨1, 7⟩]) rfl HO2.out rfl HS2.out (by simp) HB2.out.size ?_; intro v' w3 ho3 hb3)
  obtain ⟨a3, c3, rfl, hs3⟩ := ho3.toSl
  have HS3 := Lib.hid hs3
  have HB3 := Lib.hid (HB2.out.trans hb3)
  clear ho3 hs3 hb3
  go_wp2_with fail
  go_ret
  exact ⟨_, _, rfl, HS3.out, HB3.out⟩

set_option maxHeartbeats 4000000 in
set_option maxRecDepth 100000 in
theorem ref38_Faults_3 (fr ty fl st : Int) (rs : Bool) (a : Option Addr) (c : Nat) (l : List UInt8) (w : World) :
    Calls Tryz.prog 7 #[.int .i64 3, rawV fr ty fl st rs a l.length c] w (TwoP [⟨if wholeF ty st = true then 2 else 1, 6⟩] w) := by
  have hc : (st = 0 ∧ wholeF ty st = true) ∨ (¬ st = 0 ∧ ty = 1 ∧ wholeF ty st = true) ∨ (¬ st = 0 ∧ ty = 4 ∧ wholeF ty st = true) ∨ (¬ st = 0 ∧ ty = 5 ∧ wholeF ty st = true) ∨ (¬ st = 0 ∧ ty = 9 ∧ wholeF ty st = true) ∨
      (¬ st = 0 ∧ ¬ ty = 1 ∧ ¬ ty = 4 ∧ ¬ ty = 5 ∧ ¬ ty = 9 ∧ wholeF ty st = false) := by
    unfold wholeF
    simp only [decide_eq_true_eq, decide_eq_false_iff_not]
    omega
  generalize wholeF ty st = R at hc ⊢
  have H1 : Hid (∀ b W, Calls Tryz.prog 18 #[.bool b, .int .i64 6] W (EitP (if b = true then 2 else 1) 6 W)) := fun b => either_of b 6
  rcases hc with ⟨rfl, rfl⟩ | ⟨h0, rfl, rfl⟩ | ⟨h0, rfl, rfl⟩ | ⟨h0, rfl, rfl⟩ | ⟨h0, rfl, rfl⟩ | ⟨h0, h1, h4, h5, h9, rfl⟩
  all_goals
    try (have b0 : (st == 0) = false := by simpa using h0)
    try (have b1 : (ty == 1) = false := by simpa using h1)
    try (have b4 : (ty == 4) = false := by simpa using h4)
    try (have b5 : (ty == 5) = false := by simpa using h5)
    try (have b9 : (ty == 9) = false := by simpa using h9)
    go_enter Tryz.func7, Tryz.ntmps7
    go_wp2_with fail
    refine (H1.out _ _).mono ?_
    rintro e w1 ⟨g1, rfl, ho1, hb1⟩
    obtain ⟨a1, c1, e1, hs1⟩ := ho1.toSl
    injection e1 with e3 e4 e5
    subst e3 e5
    have HS1 := Lib.hid hs1
    have HB1 : Hid (Below w.heap.size w w1) := Below.trans (B := w.heap.size) bel (hb1.mono (by simp; try omega))
    clear ho1 hs1 hb1 e4
    go_wp2_with fail
    go_ret
    exact ⟨_, _, rfl, HS1.out, HB1.out⟩

set_option maxHeartbeats 4000000 in
set_option maxRecDepth 100000 in
theorem ref38_Faults_17 (fr ty fl st : Int) (rs : Bool) (a : Option Addr) (c : Nat) (l : List UInt8) (w : World) :
    Calls Tryz.prog 7 #[.int .i64 17, rawV fr ty fl st rs a l.length c] w (TwoP [⟨if st = 0 then 2 else 1, 1⟩] w) := by
  have H1 : Hid (∀ W, Calls Tryz.prog 18 #[.bool (st == 0), .int .i64 1] W (EitP (if st = 0 then 2 else 1) 1 W)) := fun W => by
    have := either_of (st == 0) 1 W
    have e : (if (st == 0) = true then (2 : Int) else 1) = if st = 0 then 2 else 1 := by by_cases h : st = 0 <;> simp [h]
    rwa [e] at this
  generalize (if st = 0 then (2 : Int) else 1) = S at H1 ⊢
  go_enter Tryz.func7, Tryz.ntmps7
  go_wp2_with fail
  refine (H1.out _).mono ?_
  rintro e w1 ⟨g1, rfl, ho1, hb1⟩
  obtain ⟨a1, c1, e1, hs1⟩ := ho1.toSl
  injection e1 with e3 e4 e5
  subst e3 e5
  have HS1 := Lib.hid hs1
  have HB1 : Hid (Below w.heap.size w w1) := Below.trans (B := w.heap.size) bel (hb1.mono (by simp; try omega))
  clear ho1 hs1 hb1 e4
  go_wp2_with fail
  go_ret
  exact ⟨_, _, rfl, HS1.out, HB1.out⟩

set_option maxHeartbeats 4000000 in
set_option maxRecDepth 100000 in
theorem ref38_Faults_18 (fr ty fl st : Int) (rs : Bool) (a : Option Addr) (c : Nat) (l : List UInt8) (w : World) :
    Calls Tryz.prog 7 #[.int .i64 18, rawV fr ty fl st rs a l.length c] w (TwoP [⟨if st = 0 then 2 else 1, 3⟩] w) := by
  have H1 : Hid (∀ W, Calls Tryz.prog 18 #[.bool (st == 0), .int .i64 3] W (EitP (if st = 0 then 2 else 1) 3 W)) := fun W => by
    have := either_of (st == 0) 3 W
    have e : (if (st == 0) = true then (2 : Int) else 1) = if st = 0 then 2 else 1 := by by_cases h : st = 0 <;> simp [h]
    rwa [e] at this
  generalize (if st = 0 then (2 : Int) else 1) = S at H1 ⊢
  go_enter Tryz.func7, Tryz.ntmps7
  go_wp2_with fail
  refine (H1.out _).mono ?_
  rintro e w1 ⟨g1, rfl, ho1, hb1⟩
  obtain ⟨a1, c1, e1, hs1⟩ := ho1.toSl
  injection e1 with e3 e4 e5
  subst e3 e5
  have HS1 := Lib.hid hs1
  have HB1 : Hid (Below w.heap.size w w1) := Below.trans (B := w.heap.size) bel (hb1.mono (by simp; try omega))
  clear ho1 hs1 hb1 e4
  go_wp2_with fail
  go_ret
  exact ⟨_, _, rfl, HS1.out, HB1.out⟩

set_option maxHeartbeats 4000000 in
set_option maxRecDepth 100000 in
theorem ref38_Faults_5 (fr ty fl st : Int) (rs : Bool) (a : Option Addr) (c : Nat) (l : List UInt8) (w : World) (hl : l.length ≤ 1048576) (hlc : l.length ≤ c) (h : SlB w w.heap.size a l) :
    Calls Tryz.prog 7 #[.int .i64 5, rawV fr ty fl st rs a l.length c] w (TwoP (ofF [⟨(parseF ty fl st l).1.2.1, (parseF ty fl st l).1.2.2⟩]) w) := by
  have H1 : Hid (∀ W, Below w.heap.size w W → Calls Tryz.prog 19 #[.int .i64 5, rawV fr ty fl st rs a l.length c] W (TwoP (ofF [⟨(parseF ty fl st l).1.2.1, (parseF ty fl st l).1.2.2⟩]) W)) := fun W hW => ref38_looked5 fr ty fl st rs a c l hl hlc W (h.grow hW)
  generalize ofF [⟨(parseF ty fl st l).1.2.1, (parseF ty fl st l).1.2.2⟩] = F at H1 ⊢
  clear h
  go_enter Tryz.func7, Tryz.ntmps7
  go_wp2_with fail
  refine (H1.out _ bel).mono ?_
  rintro e w1 ⟨a1, c1, rfl, hs1, hb1⟩
  have HS1 := Lib.hid hs1
  have HB1 : Hid (Below w.heap.size w w1) := Below.trans (B := w.heap.size) bel (hb1.mono (by simp; try omega))
  clear hs1 hb1
  go_wp2_with fail
  go_ret
  exact ⟨_, _, rfl, HS1.out, HB1.out⟩

set_option maxHeartbeats 4000000 in
set_option maxRecDepth 100000 in
theorem ref38_Faults_6 (fr ty fl st : Int) (rs : Bool) (a : Option Addr) (c : Nat) (l : List UInt8) (w : World) (hl : l.length ≤ 1048576) (hlc : l.length ≤ c) (h : SlB w w.heap.size a l) :
    Calls Tryz.prog 7 #[.int .i64 6, rawV fr ty fl st rs a l.length c] w (TwoP (ofF [⟨(valF fr ty fl st l).1, (valF fr ty fl st l).2⟩]) w) := by
  have H1 : Hid (∀ W, Below w.heap.size w W → Calls Tryz.prog 19 #[.int .i64 6, rawV fr ty fl st rs a l.length c] W (TwoP (ofF [⟨(valF fr ty fl st l).1, (valF fr ty fl st l).2⟩]) W)) := fun W hW => ref38_looked6 fr ty fl st rs a c l hl hlc W (h.grow hW)
  generalize ofF [⟨(valF fr ty fl st l).1, (valF fr ty fl st l).2⟩] = F at H1 ⊢
  clear h
  go_enter Tryz.func7, Tryz.ntmps7
  go_wp2_with fail
  refine (H1.out _ bel).mono ?_
  rintro e w1 ⟨a1, c1, rfl, hs1, hb1⟩
  have HS1 := Lib.hid hs1
  have HB1 : Hid (Below w.heap.size w w1) := Below.trans (B := w.heap.size) bel (hb1.mono (by simp; try omega))
  clear hs1 hb1
  go_wp2_with fail
  go_ret
  exact ⟨_, _, rfl, HS1.out, HB1.out⟩

set_option maxHeartbeats 4000000 in
set_option maxRecDepth 100000 in
theorem ref38_Faults_out (rule : Int) (fr ty fl st : Int) (rs : Bool) (a : Option Addr) (c : Nat) (l : List UInt8) (w : World) (hr : rule < 1 ∨ 35 < rule) :
    Calls Tryz.prog 7 #[.int .i64 rule, rawV fr ty fl st rs a l.length c] w (TwoP [] w) := by
  have n1 : (rule == 1) = false := by simp; omega
  have n2 : (rule == 2) = false := by simp; omega
  have n4 : (rule == 4) = false := by simp; omega
  have n7 : (rule == 7) = false := by simp; omega
  have n9 : (rule == 9) = false := by simp; omega
  have n10 : (rule == 10) = false := by simp; omega
  have n11 : (rule == 11) = false := by simp; omega
  have n12 : (rule == 12) = false := by simp; omega
  have n21 : (rule == 21) = false := by simp; omega
  have n22 : (rule == 22) = false := by simp; omega
  have n23 : (rule == 23) = false := by simp; omega
  have n35 : (rule == 35) = false := by simp; omega
  have n3 : (rule == 3) = false := by simp; omega
  have n5 : (rule == 5) = false := by simp; omega
  have n6 : (rule == 6) = false := by simp; omega
  have n8 : (rule == 8) = false := by simp; omega
  have n19 : (rule == 19) = false := by simp; omega
  have n13 : (rule == 13) = false := by simp; omega
  have n15 : (rule == 15) = false := by simp; omega
  have n14 : (rule == 14) = false := by simp; omega
  have n16 : (rule == 16) = false := by simp; omega
  have n17 : (rule == 17) = false := by simp; omega
  have n18 : (rule == 18) = false := by simp; omega
  have n20 : (rule == 20) = false := by simp; omega
  have n24 : (rule == 24) = false := by simp; omega
  have n25 : (rule == 25) = false := by simp; omega
  have n26 : (rule == 26) = false := by simp; omega
  have n27 : (rule == 27) = false := by simp; omega
  have n28 : (rule == 28) = false := by simp; omega
  have n29 : (rule == 29) = false := by simp; omega
  have n30 : (rule == 30) = false := by simp; omega
  have n31 : (rule == 31) = false := by simp; omega
  have n32 : (rule == 32) = false := by simp; omega
  have n33 : (rule == 33) = false := by simp; omega
  have n34 : (rule == 34) = false := by simp; omega
  clear hr
  go_enter Tryz.func7, Tryz.ntmps7
  go_wp2_with fail
  go_ret
  exact ⟨none, 0, rfl, .nil, bel⟩

theorem ref38_Faults (rule : Int) (fr ty fl st : Int) (rs : Bool) (a : Option Addr) (c : Nat) (l : List UInt8) (w : World) (hl : l.length ≤ 1048576) (hlc : l.length ≤ c) (h : SlB w w.heap.size a l) :
    Calls Tryz.prog 7 #[.int .i64 rule, rawV fr ty fl st rs a l.length c] w (TwoP (faultsL rule fr ty fl st l) w) := by
  by_cases hr : rule < 1 ∨ 35 < rule
  · have e : faultsL rule fr ty fl st l = [] := by
      unfold faultsL fixL
      repeat' rw [if_neg (by omega)]
    rw [e]
    exact ref38_Faults_out rule fr ty fl st rs a c l w hr
  have hc : rule = 1 ∨ rule = 2 ∨ rule = 3 ∨ rule = 4 ∨ rule = 5 ∨ rule = 6 ∨ rule = 7 ∨ rule = 8 ∨ rule = 9 ∨ rule = 10 ∨ rule = 11 ∨ rule = 12 ∨ rule = 13 ∨ rule = 14 ∨ rule = 15 ∨ rule = 16 ∨ rule = 17 ∨ rule = 18 ∨ rule = 19 ∨ rule = 20 ∨ rule = 21 ∨ rule = 22 ∨ rule = 23 ∨ rule = 24 ∨ rule = 25 ∨ rule = 26 ∨ rule = 27 ∨ rule = 28 ∨ rule = 29 ∨ rule = 30 ∨ rule = 31 ∨ rule = 32 ∨ rule = 33 ∨ rule = 34 ∨ rule = 35 := by omega
  rcases hc with rfl | rfl | rfl | rfl | rfl | rfl | rfl | rfl | rfl | rfl | rfl | rfl | rfl | rfl | rfl | rfl | rfl | rfl | rfl | rfl | rfl | rfl | rfl | rfl | rfl | rfl | rfl | rfl | rfl | rfl | rfl | rfl | rfl | rfl | rfl
  · exact ref38_Faults_1 fr ty fl st rs a c l w
  · exact ref38_Faults_2 fr ty fl st rs a c l w
  · exact ref38_Faults_3 fr ty fl st rs a c l w
  · exact ref38_Faults_4 fr ty fl st rs a c l w
  · exact ref38_Faults_5 fr ty fl st rs a c l w hl hlc h
  · exact ref38_Faults_6 fr ty fl st rs a c l w hl hlc h
  · exact ref38_Faults_7 fr ty fl st rs a c l w
  · exact ref38_Faults_8 fr ty fl st rs a c l w
  · exact ref38_Faults_9 fr ty fl st rs a c l w
  · exact ref38_Faults_10 fr ty fl st rs a c l w
  · exact ref38_Faults_11 fr ty fl st rs a c l w
  · exact ref38_Faults_12 fr ty fl st rs a c l w
  · exact ref38_Faults_13 fr ty fl st rs a c l w
  · exact ref38_Faults_14 fr ty fl st rs a c l w
  · exact ref38_Faults_15 fr ty fl st rs a c l w
  · exact ref38_Faults_16 fr ty fl st rs a c l w
  · exact ref38_Faults_17 fr ty fl st rs a c l w
  · exact ref38_Faults_18 fr ty fl st rs a c l w
  · exact ref38_Faults_19 fr ty fl st rs a c l w
  · exact ref38_Faults_20 fr ty fl st rs a c l w
  · exact ref38_Faults_21 fr ty fl st rs a c l w
  · exact ref38_Faults_22 fr ty fl st rs a c l w
  · exact ref38_Faults_23 fr ty fl st rs a c l w
  · exact ref38_Faults_24 fr ty fl st rs a c l w
  · exact ref38_Faults_25 fr ty fl st rs a c l w
  · exact ref38_Faults_26 fr ty fl st rs a c l w
  · exact ref38_Faults_27 fr ty fl st rs a c l w
  · exact ref38_Faults_28 fr ty fl st rs a c l w
  · exact ref38_Faults_29 fr ty fl st rs a c l w
  · exact ref38_Faults_30 fr ty fl st rs a c l w
  · exact ref38_Faults_31 fr ty fl st rs a c l w
  · exact ref38_Faults_32 fr ty fl st rs a c l w
  · exact ref38_Faults_33 fr ty fl st rs a c l w
  · exact ref38_Faults_34 fr ty fl st rs a c l w
  · exact ref38_Faults_35 fr ty fl st rs a c l w

end Go.Proofs.YtjhhdgmhocpceaaGreatDoor
