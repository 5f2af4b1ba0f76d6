/-
  Parts of the proof, one behind the other: contracts of the program and plain laws; no condition of their own.
-/
import Derived.Test.YtfcgdfcekpbliaaGreatDoorMh
import Derived.Test.YtfcgdfcekpbliaaGreatDoorMi
import Derived.Test.YtfcgdfcekpbliaaGreatDoorMf
import Derived.Test.YtfcgdfcekpbliaaGreatDoorMd
import Derived.Test.YtfcgdfcekpbliaaGreatDoorMg
/-
  Scenarios: the program's reader of a line: a word, a number, one of two, a text.
-/
namespace Go.Proofs.YtfcgdfcekpbliaaGreatDoor
set_option linter.unusedSimpArgs false
set_option linter.unusedVariables false
set_option linter.unusedSectionVars false
open Go.ChangeShapes Go.WideShapes Go.ChangeAt Go.RowKit Go.Deep Go.Shelf

abbrev RzT : TypeId := 78
/-- The reader of a line at a block: the words that are left (they lie below a number), and whether one was none. -/
structure Rd (B : Nat) (w : World) (g : Nat) (L : List (List UInt8)) (b : Bool) : Prop where
  st : ∃ a c, Blk w g RzT #[.slice a L.length c, .bool b] ∧ SlX w B a L ∧ L.length ≤ c
  lz : B ≤ w.heap.size
theorem slX_farB {B : Nat} {w w' : World} {gc : Nat} {t : TypeId} {cs : Array Value} {a : Option Addr} {l : List (List UInt8)} (hz : B ≤ w.heap.size) (hb : Blk w gc t cs) (hc : ∀ (j : Nat) (s : ByteArray), cs[j]? ≠ some (Value.string s)) (hs : SlX w B a l) (h : Gm gc w w') : SlX w' B a l := by
  intro k hk
  obtain ⟨b1, off, ha1, hb1, hcell, _⟩ := hs.atX hk
  have hne : b1 ≠ gc := fun e => by
    subst e
    rw [hb.cell] at hcell
    exact hc _ _ hcell
  obtain ⟨b2, off2, cs2, ha2, hb2, hR, hcs⟩ := hs k hk
  rw [ha1] at ha2
  injection ha2 with ha2
  injection ha2 with e1 e2
  subst e1 e2
  exact ⟨b1, off, cs2, ha1, hb1, hR, fun j v hj => (h.cell b1 _ (Nat.lt_of_lt_of_le hb1 hz) hne).trans (hcs j v hj)⟩
theorem rd_nt {a : Option Addr} {n c : Nat} {b : Bool} : ∀ (j : Nat) (s : ByteArray), (#[.slice a n c, .bool b] : Array Value)[j]? ≠ some (Value.string s) := by
  intro j s
  match j with
  | 0 => simp
  | 1 => simp
  | j + 2 => simp
theorem Rd.lt {B : Nat} {w : World} {g : Nat} {L : List (List UInt8)} {b : Bool} (h : Rd B w g L b) : g < w.heap.size := by
  obtain ⟨a, c, h1, _⟩ := h.st
  exact h1.lt
theorem Rd.grow {B : Nat} {w w' : World} {g : Nat} {L : List (List UInt8)} {b : Bool} (h : Rd B w g L b) (hb : Below w.heap.size w w') : Rd B w' g L b := by
  obtain ⟨a, c, h1, h2, h3⟩ := h.st
  exact ⟨⟨a, c, h1.below hb h1.lt, h2.below hb h.lz, h3⟩, Nat.le_trans h.lz hb.size⟩
theorem Rd.wrong {B : Nat} {w : World} {g : Nat} {L : List (List UInt8)} {b : Bool} (h : Rd B w g L b) (b2 : Bool) : Rd B (w.setCell ⟨g, 1, none⟩ (.bool b2)) g L b2 := by
  obtain ⟨a, c, h1, h2, h3⟩ := h.st
  exact ⟨⟨a, c, h1.set_ 1 _, slX_farB h.lz h1 rd_nt h2 (gm_set _), h3⟩, by simpa using h.lz⟩
/-- Another block is written, that holds no texts. -/
theorem Rd.far {B : Nat} {w w' : World} {g gc : Nat} {L : List (List UInt8)} {b : Bool} {t : TypeId} {cs : Array Value} (h : Rd B w g L b) (hb : Blk w gc t cs) (hc : ∀ (j : Nat) (s : ByteArray), cs[j]? ≠ some (Value.string s)) (hg : Gm gc w w') (hne : g ≠ gc) : Rd B w' g L b := by
  obtain ⟨a, c, h1, h2, h3⟩ := h.st
  exact ⟨⟨a, c, h1.grown hg (by simpa using hne), slX_farB h.lz hb hc h2 hg, h3⟩, Nat.le_trans h.lz hg.size⟩
/-- A row above the words grows. -/
theorem Rd.besides {B : Nat} {w w' : World} {g : Nat} {L : List (List UInt8)} {b : Bool} {row : Option Nat} (h : Rd B w g L b) (hg : w.grownBy w' row) (hr : ∀ k, row = some k → B ≤ k) (hne : some g ≠ row) : Rd B w' g L b := by
  obtain ⟨a, c, h1, h2, h3⟩ := h.st
  have hb : Below B w w' := ⟨hg.os, hg.tape, hg.output, hg.size, fun k hk => hg.block k (Nat.lt_of_lt_of_le hk h.lz) (fun e => by have := hr k e.symm; omega)⟩
  exact ⟨⟨a, c, h1.grown hg hne, h2.below hb (Nat.le_refl _), h3⟩, Nat.le_trans h.lz hg.size⟩
set_option maxHeartbeats 4000000 in
set_option maxRecDepth 100000 in
theorem rd_word {B : Nat} (g : Nat) (L : List (List UInt8)) (b : Bool) (hL : L.length ≤ 1000000) (w : World) (hS : Rd B w g L b) :
    Calls Tryz.prog 54 #[.pointer (some ⟨g, 0, none⟩)] w fun e w' => e = .returned (bstr (rdW L b).1) ∧ Rd B w' g (rdW L b).2.1 (rdW L b).2.2 ∧ Gm g w w' := by
  obtain ⟨a, c, hg, hs, hc⟩ := hS.st
  have k0 : w.cell? ⟨g, 0, none⟩ = some (.slice a L.length c) := hg.cell 0
  have f0 : w.frozen? ⟨g, 0, none⟩ = false := hg.frozen 0
  have k1 : w.cell? ⟨g, 1, none⟩ = some (.bool b) := hg.cell 1
  have f1 : w.frozen? ⟨g, 1, none⟩ = false := hg.frozen 1
  have hgl := hg.lt
  cases L with
  | nil =>
    have HR := Lib.hid hS
    simp only [List.length_nil] at k0
    clear hg hs hc hS
    go_enter Tryz.func54, Tryz.ntmps54
    go_wp2_with fail
    go_ret
    exact ⟨rfl, HR.out.wrong true, gm_set _⟩
  | cons x r =>
    obtain ⟨b1, off, ha, hb1, c0, _⟩ := SlR.atX hs (k := 0) (by simp)
    subst ha
    rw [Nat.add_zero, List.getElem_cons_zero] at c0
    have HST := Lib.hid (slX_tail hs)
    have HLZ := Lib.hid hS.lz
    have HG := Lib.hid hg
    have hlr : r.length ≤ 1000000 := by simp at hL; omega
    simp only [List.length_cons] at k0 hc HG
    have HC := Lib.hid hc
    have FIN : Hid (∀ (a' : Option Addr) (c' : Nat), SlX w B a' r → r.length ≤ c' → Rd B (w.setCell ⟨g, 0, none⟩ (.slice a' r.length c')) g r b ∧ Gm g w (w.setCell ⟨g, 0, none⟩ (.slice a' r.length c'))) := fun a' c' h1 h2 =>
      ⟨⟨⟨_, _, HG.out.set_ 0 _, slX_farB HLZ.out HG.out rd_nt h1 (gm_set _), h2⟩, by simpa using HLZ.out⟩, gm_set _⟩
    have HSN : Hid (c = 1 → SlX w B (some ⟨b1, off, none⟩) r) := fun h => by
      have h0 : r = [] := List.length_eq_zero_iff.1 (by have := HC.out; omega)
      rw [h0]; exact .nil
    have hr1 : ¬ ((r.length : Int) + 1 = 0) := by omega
    have hr2 : ((r.length : Int) + 1 == 0) = false := by rw [beq_eq_false_iff_ne]; omega
    clear hg hs hc hS hL k1 f1
    show Calls _ _ _ _ fun e w' => e = .returned (bstr x) ∧ Rd B w' g r b ∧ Gm g w w'
    go_enter Tryz.func54, Tryz.ntmps54
    go_wp2_with fail
    all_goals go_ret
    all_goals first | exact ⟨rfl, FIN.out _ _ HST.out (by have := HC.out; omega)⟩ | exact ⟨rfl, FIN.out _ _ (HSN.out (by assumption)) (by have := HC.out; omega)⟩
end Go.Proofs.YtfcgdfcekpbliaaGreatDoor
/-
  Scenarios: the program's reader of a line: a number, one of two, a text.
-/
namespace Go.Proofs.YtfcgdfcekpbliaaGreatDoor
set_option linter.unusedSimpArgs false
set_option linter.unusedVariables false
set_option linter.unusedSectionVars false
open Go.ChangeShapes Go.WideShapes Go.ChangeAt Go.RowKit Go.Deep Go.Shelf

theorem rdW_short {L : List (List UInt8)} {b : Bool} {n : Nat} (h : ∀ x ∈ L, x.length ≤ n) : (rdW L b).1.length ≤ n := by
  cases L with
  | nil => simp [rdW]
  | cons x r => exact h x (by simp)
set_option maxHeartbeats 4000000 in
set_option maxRecDepth 100000 in
theorem rd_number {B : Nat} (g : Nat) (L : List (List UInt8)) (b : Bool) (hL : L.length ≤ 1000000) (hLl : ∀ x ∈ L, x.length ≤ 90000) (w0 w : World) (hb : Rb w0 g w) (hS : Rd B w g L b) :
    Calls Tryz.prog 55 #[.pointer (some ⟨g, 0, none⟩)] w fun e w' => e = .returned (.int .i64 (rdN L b).1) ∧ Rd B w' g (rdN L b).2.1 (rdN L b).2.2 ∧ Gm g w w' := by
  have HW := Lib.hid (rd_word g L b hL w hS)
  have hs := rdW_short (b := b) hLl
  unfold rdN
  simp only
  generalize rdW L b = p at HW hs ⊢
  obtain ⟨x, L1, b1⟩ := p
  simp only at HW hs ⊢
  have HD : Hid (∀ W, Rb w0 g W → Calls Tryz.prog 78 #[bstr x] W fun e w' => e = .returned (.tuple #[.int .i64 (readF x).1, .bool (readF x).2]) ∧ ∃ j, w' = W.more j) := fun W hW => digits_Read x (by omega) W hW.e
  generalize readF x = q at HD ⊢
  obtain ⟨n, is⟩ := q
  simp only at HD ⊢
  have HB := Lib.hid hb
  clear hL hLl hb hS hs
  cases b1 <;> cases is
  all_goals
    go_enter Tryz.func55, Tryz.ntmps55
    go_wp2_with fail
    refine HW.out.mono ?_
    rintro e w1 ⟨rfl, hr, hg⟩
    have HR1 := Lib.hid hr
    have HG1 := Lib.hid hg
    have HD1 := Lib.hid (HD.out w1 (HB.out.gm hg))
    obtain ⟨a1, c1, hg1, _, _⟩ := hr.st
    have k1 := hg1.cell 1
    have f1 : w1.frozen? ⟨g, 1, none⟩ = false := hg1.frozen 1
    have hgl := hg1.lt
    simp only [List.getElem?_toArray, List.getElem?_cons_succ, List.getElem?_cons_zero] at k1
    clear hr hg hg1 HD
    go_wp2_with (go_at_call 78; refine HD1.out.mono ?_; rintro e w' ⟨rfl, j, rfl⟩)
    go_ret
    have FIN : ∀ (b2 : Bool) (j : Junk), Rd B ((w1.setCell ⟨g, 1, none⟩ (.bool b2)).more j) g L1 b2 := fun b2 j => (HR1.out.wrong b2).grow (Below.moreS (Below.refl _ _) j)
    exact ⟨rfl, FIN _ _, HG1.out.trans ((gm_set _).trans (gm_below (Below.moreS (Below.refl _ _) _)))⟩
set_option maxHeartbeats 4000000 in
set_option maxRecDepth 100000 in
theorem rd_text {B : Nat} (g : Nat) (L : List (List UInt8)) (b : Bool) (hL : L.length ≤ 1000000) (hLl : ∀ x ∈ L, x.length ≤ 90000) (w : World) (hS : Rd B w g L b) :
    Calls Tryz.prog 57 #[.pointer (some ⟨g, 0, none⟩)] w fun e w' => e = .returned (bstr (rdT L b).1) ∧ Rd B w' g (rdT L b).2.1 (rdT L b).2.2 ∧ Gm g w w' := by
  have HW := Lib.hid (rd_word g L b hL w hS)
  have hs := rdW_short (b := b) hLl
  unfold rdT
  simp only
  generalize rdW L b = p at HW hs ⊢
  obtain ⟨x, L1, b1⟩ := p
  simp only at HW hs ⊢
  have HD : Hid (∀ W, Calls Tryz.prog 79 #[bstr x] W fun e w' => e = .returned (.tuple #[bstr (unquoteF x).1, .bool (unquoteF x).2]) ∧ ∃ j, w' = W.more j) := fun W => words_Unquote x (by omega) W
  generalize unquoteF x = q at HD ⊢
  obtain ⟨n, is⟩ := q
  simp only at HD ⊢
  clear hL hLl hS hs
  cases b1 <;> cases is
  all_goals
    go_enter Tryz.func57, Tryz.ntmps57
    go_wp2_with fail
    refine HW.out.mono ?_
    rintro e w1 ⟨rfl, hr, hg⟩
    have HR1 := Lib.hid hr
    have HG1 := Lib.hid hg
    have HD1 := Lib.hid (HD.out w1)
    obtain ⟨a1, c1, hg1, _, _⟩ := hr.st
    have k1 := hg1.cell 1
    have f1 : w1.frozen? ⟨g, 1, none⟩ = false := hg1.frozen 1
    have hgl := hg1.lt
    simp only [List.getElem?_toArray, List.getElem?_cons_succ, List.getElem?_cons_zero] at k1
    clear hr hg hg1 HD
    go_wp2_with (go_at_call 79; refine HD1.out.mono ?_; rintro e w' ⟨rfl, j, rfl⟩)
    go_ret
    have FIN : ∀ (b2 : Bool) (j : Junk), Rd B ((w1.setCell ⟨g, 1, none⟩ (.bool b2)).more j) g L1 b2 := fun b2 j => (HR1.out.wrong b2).grow (Below.moreS (Below.refl _ _) j)
    exact ⟨rfl, FIN _ _, HG1.out.trans ((gm_set _).trans (gm_below (Below.moreS (Below.refl _ _) _)))⟩
set_option maxHeartbeats 4000000 in
set_option maxRecDepth 100000 in
theorem rd_either {B : Nat} (g : Nat) (x y : List UInt8) (L : List (List UInt8)) (b : Bool) (hL : L.length ≤ 1000000) (w : World) (hS : Rd B w g L b) :
    Calls Tryz.prog 56 #[.pointer (some ⟨g, 0, none⟩), bstr x, bstr y] w fun e w' => e = .returned (.bool (rdE x y L b).1) ∧ Rd B w' g (rdE x y L b).2.1 (rdE x y L b).2.2 ∧ Gm g w w' := by
  have HW := Lib.hid (rd_word g L b hL w hS)
  unfold rdE
  simp only
  generalize rdW L b = p at HW ⊢
  obtain ⟨z, L1, b1⟩ := p
  simp only at HW ⊢
  clear hL hS
  cases b1 <;> cases hx : (z == x) <;> cases hy : (z == y)
  all_goals
    have hx2 : (z != x) = !(z == x) := rfl
    have hy2 : (z != y) = !(z == y) := rfl
    rw [hx] at hx2
    rw [hy] at hy2
    simp only [Bool.not_true, Bool.not_false] at hx2 hy2
    rw [hx2, hy2]
    go_enter Tryz.func56, Tryz.ntmps56
    go_wp2_with fail
    refine HW.out.mono ?_
    rintro e w1 ⟨rfl, hr, hg⟩
    have HR1 := Lib.hid hr
    have HG1 := Lib.hid hg
    obtain ⟨a1, c1, hg1, _, _⟩ := hr.st
    have k1 := hg1.cell 1
    have f1 : w1.frozen? ⟨g, 1, none⟩ = false := hg1.frozen 1
    have hgl := hg1.lt
    simp only [List.getElem?_toArray, List.getElem?_cons_succ, List.getElem?_cons_zero] at k1
    clear hr hg hg1 HW
    go_wp2_with fail
    go_ret
    exact ⟨rfl, HR1.out.wrong _, HG1.out.trans (gm_set _)⟩
end Go.Proofs.YtfcgdfcekpbliaaGreatDoor
/-
  Scenarios: the program's reader of a line: the kind of step that a word begins.
-/
namespace Go.Proofs.YtfcgdfcekpbliaaGreatDoor
set_option linter.unusedSimpArgs false
set_option linter.unusedVariables false
set_option linter.unusedSectionVars false
open Go.ChangeShapes Go.WideShapes Go.ChangeAt Go.RowKit Go.Deep Go.Shelf

/-- The heads of the lines stand where the program keeps them. -/
structure Hd (w : World) : Prop where
  c : ∀ k : Nat, k < 9 → w.cell? ⟨0, k, none⟩ = some (bstr (headW k))
  lt : 0 < w.heap.size
theorem Hd.below {w w' : World} (h : Hd w) (hb : Below w.heap.size w w') : Hd w' :=
  ⟨fun k hk => (hb.cell (p := ⟨0, k, none⟩) h.lt).trans (h.c k hk), Nat.lt_of_lt_of_le h.lt hb.size⟩
theorem kindW_of {k : Nat} (h1 : 1 ≤ k) (h2 : k ≤ 8) : kindW (headW k) = k := by
  match k, h1, h2 with
  | 1, _, _ => decide
  | 2, _, _ => decide
  | 3, _, _ => decide
  | 4, _, _ => decide
  | 5, _, _ => decide
  | 6, _, _ => decide
  | 7, _, _ => decide
  | 8, _, _ => decide
theorem kindW_none {s : List UInt8} (h : ∀ k : Nat, 1 ≤ k → k ≤ 8 → headW k ≠ s) : kindW s = 0 := by
  by_cases hk : kindW s = 0
  · exact hk
  · obtain ⟨h1, h2, h3⟩ := kindW_head s hk
    obtain ⟨k, e⟩ : ∃ k : Nat, kindW s = k := ⟨(kindW s).toNat, by omega⟩
    rw [e] at h1 h2 h3
    exact absurd h1 (h k (by omega) (by omega))
set_option maxHeartbeats 4000000 in
set_option maxRecDepth 100000 in
theorem rd_kind {B : Nat} (g : Nat) (s : List UInt8) (L : List (List UInt8)) (b : Bool) (w : World) (hH : Hd w) (hS : Rd B w g L b) :
    Calls Tryz.prog 53 #[.pointer (some ⟨g, 0, none⟩), bstr s] w fun e w' => e = .returned (.int .i64 (kindW s)) ∧ Rd B w' g L (b || decide (kindW s = 0)) ∧ Gm g w w' := by
  obtain ⟨K, hK⟩ : ∃ K, K = kindW s := ⟨_, rfl⟩
  rw [← hK]
  have HK := Lib.hid hK
  have HH := Lib.hid hH
  have HR := Lib.hid hS
  have hhl := hH.lt
  clear hK hH hS
  go_enter Tryz.func53, Tryz.ntmps53
  go_wp2_with fail
  go_loopw [5] (fun i wr => ∃ k : Nat, 1 ≤ k ∧ k ≤ 9 ∧ i = .int .i64 k ∧ Hid (∀ q : Nat, 1 ≤ q → q < k → headW q ≠ s) ∧ wr = w) (fun i _ => 9 - (intOf i).toNat)
  case atStart => exact ⟨1, by omega, by omega, rfl, fun q h1 h2 => by omega, rfl⟩
  case round =>
    obtain ⟨k, hk1, hk2, rfl, HN, rfl⟩ := hrel
    by_cases hlt : k ≤ 8
    · have hlt2 : (k : Int) ≤ 8 := by omega
      have hlt3 : (k : Int) < 9 := by omega
      have c0 := HH.out.c k (by omega)
      have HY : Hid (headW (k : Int) = s → K = k) := fun h => by rw [HK.out, ← h]; exact kindW_of hk1 hlt
      have HN2 : Hid (headW (k : Int) ≠ s → ∀ q : Nat, 1 ≤ q → q < k + 1 → headW q ≠ s) := fun h q h1 h2 => by
        by_cases hq : q = k
        · subst hq; exact h
        · exact HN.out q h1 (by omega)
      generalize headW (k : Int) = T at c0 HY HN2
      by_cases ht : T = s
      · have e1 : (T == s) = true := by simpa using ht
        obtain rfl : K = k := HY.out ht
        have hz : decide ((k : Int) = 0) = false := by simp; omega
        clear HN HY HN2 HK ht
        go_wp2_with fail
        go_ret
        exact ⟨rfl, by rw [hz, Bool.or_false]; exact HR.out, Gm.refl _⟩
      · have e1 : (T == s) = false := by simpa using ht
        have HN3 := Lib.hid (HN2.out ht)
        clear HN HY HN2 ht
        go_wp2_with fail
        go_round
        case rel => exact ⟨k + 1, by omega, by omega, by go_num, HN3, by trivial⟩
        case measure => simp [intOf]; omega
    · obtain rfl : k = 9 := by omega
      obtain rfl : K = 0 := by rw [HK.out]; exact kindW_none (fun q h1 h2 => HN.out q h1 (by omega))
      obtain ⟨a1, c1, hg1, _, _⟩ := HR.out.st
      have k1 := hg1.cell 1
      have f1 : wr.frozen? ⟨g, 1, none⟩ = false := hg1.frozen 1
      have hgl := hg1.lt
      simp only [List.getElem?_toArray, List.getElem?_cons_succ, List.getElem?_cons_zero] at k1
      clear HN HK hg1
      go_wp2_with fail
      go_ret
      have hb1 : (b || decide ((0 : Int) = 0)) = true := by cases b <;> rfl
      exact ⟨rfl, by first | exact HR.out.wrong true | (rw [hb1]; exact HR.out.wrong true), gm_set _⟩
end Go.Proofs.YtfcgdfcekpbliaaGreatDoor
/-
  Scenarios: the program's first line; a reader of a line.
-/
namespace Go.Proofs.YtfcgdfcekpbliaaGreatDoor
set_option linter.unusedSimpArgs false
set_option linter.unusedVariables false
set_option linter.unusedSectionVars false
open Go.ChangeShapes Go.WideShapes Go.ChangeAt Go.RowKit Go.Deep Go.Shelf

set_option maxHeartbeats 4000000 in
set_option maxRecDepth 100000 in
theorem scene_line (s : List UInt8) (hs : s.length ≤ 90000) (m : Int) (w : World) (hM : w.cell? MaxA = some (.int .i64 m)) :
    Calls Tryz.prog 30 #[bstr s] w fun e w' => ∃ g, e = .returned (.pointer (some ⟨g, 0, none⟩)) ∧ w.heap.size ≤ g ∧ Rd w'.heap.size w' g (splitF s).1 (!(splitF s).2) ∧ Below w.heap.size w w' := by
  have hcl := cut_len 32 s
  have HSP : Hid (Calls Tryz.prog 52 #[bstr s] w fun e w' => ∃ a cap, e = .returned (.tuple #[.slice a (splitF s).1.length cap, .bool (splitF s).2]) ∧ (splitF s).1.length ≤ cap ∧ SlX w' w'.heap.size a (splitF s).1 ∧ Below w.heap.size w w') :=
    words_SplitC s m w (by omega) (by omega) (fun y hy => by have := cut_short 32 s y hy; omega) hM
  generalize splitF s = p at HSP ⊢
  obtain ⟨l, is⟩ := p
  simp only at HSP ⊢
  clear hM hcl
  go_enter Tryz.func30, Tryz.ntmps30
  go_wp2_with fail
  refine HSP.out.mono ?_
  rintro e w1 ⟨al, cl, rfl, hcl, hsl, hb1⟩
  have HC := Lib.hid hcl
  have HSL := Lib.hid hsl
  have HB1 := Lib.hid hb1
  have hz := hb1.size
  clear hcl hsl hb1
  go_wp2_with fail
  go_ret
  exact ⟨_, rfl, hz, ⟨⟨al, cl, Blk.new _ _ _, (HSL.out.below (C := w1.heap.size) bel (Nat.le_refl _)).mono (by simp) (fun _ _ _ h => h), HC.out⟩, Nat.le_refl _⟩, HB1.out.trans (Below.mono (B := w1.heap.size) bel HB1.out.size)⟩
end Go.Proofs.YtfcgdfcekpbliaaGreatDoor
/-
  Scenarios: the program's first line: whose side it is.
-/
namespace Go.Proofs.YtfcgdfcekpbliaaGreatDoor
set_option linter.unusedSimpArgs false
set_option linter.unusedVariables false
set_option linter.unusedSectionVars false
open Go.ChangeShapes Go.WideShapes Go.ChangeAt Go.RowKit Go.Deep Go.Shelf

theorem firstS_eq (n : Int) : firstS n = 115 :: 99 :: 101 :: 110 :: 97 :: 114 :: 105 :: 111 :: 32 :: sideF n := by
  unfold firstS lineW
  rw [join_two, Lib.join_one]
  rfl
set_option maxHeartbeats 4000000 in
set_option maxRecDepth 100000 in
theorem scene_side (s : List UInt8) (hs : s.length ≤ 1000000) (w : World) :
    Calls Tryz.prog 29 #[bstr s] w fun e w' => e = .returned (.tuple #[.int .i64 (sideP s).1, .bool (sideP s).2]) ∧ ∃ j, w' = w.more j := by
  have H0 : Hid (∀ W, Calls Tryz.prog 17 #[.int .i64 0] W fun e w' => e = .returned (bstr (sideF 0)) ∧ W = w') := fun W => record_Side 0 W
  have H1 : Hid (∀ W, Calls Tryz.prog 17 #[.int .i64 1] W fun e w' => e = .returned (bstr (sideF 1)) ∧ W = w') := fun W => record_Side 1 W
  have HP : Hid (sideP s = if s = 115 :: 99 :: 101 :: 110 :: 97 :: 114 :: 105 :: 111 :: 32 :: sideF 0 then (0, true) else if s = 115 :: 99 :: 101 :: 110 :: 97 :: 114 :: 105 :: 111 :: 32 :: sideF 1 then (1, true) else (0, false)) := by
    show _ = _
    unfold sideP
    rw [firstS_eq, firstS_eq]
  have l0 : (sideF 0).length = 6 := by decide
  have l1 : (sideF 1).length = 6 := by decide
  generalize sideP s = P at HP ⊢
  generalize sideF 0 = A at H0 HP l0
  generalize sideF 1 = B at H1 HP l1
  obtain ⟨p1, p2⟩ := P
  simp only
  cases e0 : (s == (115 :: 99 :: 101 :: 110 :: 97 :: 114 :: 105 :: 111 :: 32 :: A : List UInt8))
  · cases e1 : (s == (115 :: 99 :: 101 :: 110 :: 97 :: 114 :: 105 :: 111 :: 32 :: B : List UInt8))
    · have hr : (p1, p2) = (0, false) := by rw [HP.out, if_neg (by simpa using e0), if_neg (by simpa using e1)]
      obtain ⟨rfl, rfl⟩ := Prod.mk.inj hr
      clear hr HP
      go_enter Tryz.func29, Tryz.ntmps29
      go_wp2_with fail
      go_loopw [4] (fun i wr => ∃ k : Nat, k ≤ 2 ∧ i = .int .i64 k ∧ wr = w) (fun i _ => 2 - (intOf i).toNat)
      case atStart => exact ⟨0, by omega, rfl, rfl⟩
      case round =>
        obtain ⟨k, hk, rfl, rfl⟩ := hrel
        by_cases h0 : k = 0
        · subst h0
          go_wp2_with (first | (go_at_call 17; (with_reducible refine (H0.out _).mono ?_); rintro e w' ⟨rfl, rfl⟩) | (go_at_call 17; (with_reducible refine (H1.out _).mono ?_); rintro e w' ⟨rfl, rfl⟩))
          go_round
          case rel => exact ⟨1, by omega, by go_num, by trivial⟩
          case measure => simp [intOf]
        by_cases h1 : k = 1
        · subst h1
          go_wp2_with (first | (go_at_call 17; (with_reducible refine (H0.out _).mono ?_); rintro e w' ⟨rfl, rfl⟩) | (go_at_call 17; (with_reducible refine (H1.out _).mono ?_); rintro e w' ⟨rfl, rfl⟩))
          go_round
          case rel => exact ⟨2, by omega, by go_num, by trivial⟩
          case measure => simp [intOf]
        · obtain rfl : k = 2 := by omega
          go_wp2_with (first | (go_at_call 17; (with_reducible refine (H0.out _).mono ?_); rintro e w' ⟨rfl, rfl⟩) | (go_at_call 17; (with_reducible refine (H1.out _).mono ?_); rintro e w' ⟨rfl, rfl⟩))
          go_ret2
          exact ⟨rfl, Below.junk bel⟩
    · have hr : (p1, p2) = (1, true) := by rw [HP.out, if_neg (by simpa using e0), if_pos (by simpa using e1)]
      obtain ⟨rfl, rfl⟩ := Prod.mk.inj hr
      clear hr HP
      go_enter Tryz.func29, Tryz.ntmps29
      go_wp2_with fail
      go_loopw [4] (fun i wr => ∃ k : Nat, k ≤ 1 ∧ i = .int .i64 k ∧ wr = w) (fun i _ => 2 - (intOf i).toNat)
      case atStart => exact ⟨0, by omega, rfl, rfl⟩
      case round =>
        obtain ⟨k, hk, rfl, rfl⟩ := hrel
        by_cases h0 : k = 0
        · subst h0
          go_wp2_with (first | (go_at_call 17; (with_reducible refine (H0.out _).mono ?_); rintro e w' ⟨rfl, rfl⟩) | (go_at_call 17; (with_reducible refine (H1.out _).mono ?_); rintro e w' ⟨rfl, rfl⟩))
          go_round
          case rel => exact ⟨1, by omega, by go_num, by trivial⟩
          case measure => simp [intOf]
        · obtain rfl : k = 1 := by omega
          go_wp2_with (first | (go_at_call 17; (with_reducible refine (H0.out _).mono ?_); rintro e w' ⟨rfl, rfl⟩) | (go_at_call 17; (with_reducible refine (H1.out _).mono ?_); rintro e w' ⟨rfl, rfl⟩))
          go_ret2
          exact ⟨rfl, Below.junk bel⟩
  · have hr : (p1, p2) = (0, true) := by rw [HP.out, if_pos (by simpa using e0)]
    obtain ⟨rfl, rfl⟩ := Prod.mk.inj hr
    clear hr HP
    go_enter Tryz.func29, Tryz.ntmps29
    go_wp2_with fail
    go_loopw [4] (fun i wr => ∃ k : Nat, k ≤ 0 ∧ i = .int .i64 k ∧ wr = w) (fun i _ => 2 - (intOf i).toNat)
    case atStart => exact ⟨0, by omega, rfl, rfl⟩
    case round =>
      obtain ⟨k, hk, rfl, rfl⟩ := hrel
      obtain rfl : k = 0 := by omega
      go_wp2_with (first | (go_at_call 17; (with_reducible refine (H0.out _).mono ?_); rintro e w' ⟨rfl, rfl⟩) | (go_at_call 17; (with_reducible refine (H1.out _).mono ?_); rintro e w' ⟨rfl, rfl⟩))
      go_ret2
      exact ⟨rfl, Below.junk bel⟩
end Go.Proofs.YtfcgdfcekpbliaaGreatDoor
