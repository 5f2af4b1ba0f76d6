/-
  Parts of the proof, one behind the other: contracts of the program and plain laws; no condition of their own.
-/
import Derived.Test.YtfloijkagfabpaaGreatDoorFrm8
import Derived.Test.YtfloijkagfabpaaGreatDoorMg
/-
  Which settings may be: the program's and the document's.
-/
namespace Go.Proofs.YtfloijkagfabpaaGreatDoor
set_option linter.unusedSimpArgs false
set_option linter.unusedVariables false
set_option linter.unusedSectionVars false
open Go.ChangeShapes Go.WideShapes Go.ChangeAt Go.RowKit Go.Deep Go.Shelf

abbrev FuT : TypeId := 111
theorem st_Fu : StructTy Tryz.prog FuT 2 := ⟨_, Tryz.underlying111, rfl, by kernel_rfl⟩
def codeF (p : Int × Int) (from_ : Int) : Int := if p.1 = 2 ∧ (p.2 > 1 ∨ p.2 = 1 ∧ from_ = 1) then 1 else if p.1 = 4 ∧ p.2 > 2147483647 then 3 else if p.1 = 5 ∧ (p.2 < 16384 ∨ p.2 > 16777215) then 1 else 0
def chkS (from_ : Int) : List (Int × Int) → Int
  | [] => 0
  | p :: r => if codeF p from_ = 0 then chkS from_ r else codeF p from_
theorem chkS_step {from_ : Int} {l : List (Int × Int)} {k : Nat} (h : k < l.length) : chkS from_ (l.drop k) = if codeF l[k] from_ = 0 then chkS from_ (l.drop (k + 1)) else codeF l[k] from_ := by rw [List.drop_eq_getElem_cons h]; rfl
def scopeOf (c : Int) : Int := if c = 0 then 0 else 2
theorem code_cases (i v f : Int) : (i = 2 ∧ ((v > 1 ∧ codeF (i, v) f = 1) ∨ (¬ v > 1 ∧ v = 1 ∧ f = 1 ∧ codeF (i, v) f = 1) ∨ (¬ v > 1 ∧ v = 1 ∧ ¬ f = 1 ∧ codeF (i, v) f = 0) ∨ (¬ v > 1 ∧ ¬ v = 1 ∧ codeF (i, v) f = 0))) ∨
    (i = 4 ∧ ((v > 2147483647 ∧ codeF (i, v) f = 3) ∨ (¬ v > 2147483647 ∧ codeF (i, v) f = 0))) ∨
    (i = 5 ∧ ((v < 16384 ∧ codeF (i, v) f = 1) ∨ (¬ v < 16384 ∧ v > 16777215 ∧ codeF (i, v) f = 1) ∨ (¬ v < 16384 ∧ ¬ v > 16777215 ∧ codeF (i, v) f = 0))) ∨
    (¬ i = 2 ∧ ¬ i = 4 ∧ ¬ i = 5 ∧ codeF (i, v) f = 0) := by
  unfold codeF
  simp only
  by_cases h2 : i = 2
  · subst h2
    refine .inl ⟨rfl, ?_⟩
    by_cases h1 : v > 1
    · exact .inl ⟨h1, by rw [if_pos ⟨rfl, .inl h1⟩]⟩
    · by_cases h3 : v = 1
      · by_cases h4 : f = 1
        · exact .inr (.inl ⟨h1, h3, h4, by rw [if_pos ⟨rfl, .inr ⟨h3, h4⟩⟩]⟩)
        · exact .inr (.inr (.inl ⟨h1, h3, h4, by rw [if_neg (by simp [h1, h4]), if_neg (by simp), if_neg (by simp)]⟩))
      · exact .inr (.inr (.inr ⟨h1, h3, by rw [if_neg (by simp [h1, h3]), if_neg (by simp), if_neg (by simp)]⟩))
  by_cases h4 : i = 4
  · subst h4
    refine .inr (.inl ⟨rfl, ?_⟩)
    by_cases h1 : v > 2147483647
    · exact .inl ⟨h1, by rw [if_neg (by simp), if_pos ⟨rfl, h1⟩]⟩
    · exact .inr ⟨h1, by rw [if_neg (by simp), if_neg (by simp [h1]), if_neg (by simp)]⟩
  by_cases h5 : i = 5
  · subst h5
    refine .inr (.inr (.inl ⟨rfl, ?_⟩))
    by_cases h1 : v < 16384
    · exact .inl ⟨h1, by rw [if_neg (by simp), if_neg (by simp), if_pos ⟨rfl, .inl h1⟩]⟩
    · by_cases h3 : v > 16777215
      · exact .inr (.inl ⟨h1, h3, by rw [if_neg (by simp), if_neg (by simp), if_pos ⟨rfl, .inr h3⟩]⟩)
      · exact .inr (.inr ⟨h1, h3, by rw [if_neg (by simp), if_neg (by simp), if_neg (by simp [h1, h3])]⟩)
  exact .inr (.inr (.inr ⟨h2, h4, h5, by rw [if_neg (by simp [h2]), if_neg (by simp [h4]), if_neg (by simp [h5])]⟩))
set_option maxRecDepth 100000 in
theorem setting_code (i v f : Int) (w : World) : Calls Tryz.prog 275 #[.agg #[.int .i64 i, .int .i64 v], .int .i64 f] w fun e w' => e = .returned (.int .i64 (codeF (i, v) f)) ∧ ∃ j, w' = w.more j := by
  have hc := code_cases i v f
  generalize codeF (i, v) f = R at hc ⊢
  rcases hc with ⟨rfl, ⟨h1, rfl⟩ | ⟨h1, h2, h3, rfl⟩ | ⟨h1, h2, h3, rfl⟩ | ⟨h1, h2, rfl⟩⟩ | ⟨rfl, ⟨h1, rfl⟩ | ⟨h1, rfl⟩⟩ | ⟨rfl, ⟨h1, rfl⟩ | ⟨h1, h2, rfl⟩ | ⟨h1, h2, rfl⟩⟩ | ⟨h1, h2, h3, rfl⟩
  all_goals
    go_enter Tryz.func275, Tryz.ntmps275
    go_wp2_with fail
    go_ret
    exact ⟨rfl, Below.junk bel⟩
set_option maxRecDepth 100000 in
theorem ref13_wrong (i v f : Int) (w : World) : Calls Tryz.prog 208 #[.agg #[.int .i64 i, .int .i64 v], .int .i64 f] w fun e w' => e = .returned (.agg #[.int .i64 (scopeOf (codeF (i, v) f)), .int .i64 (codeF (i, v) f)]) ∧ ∃ j, w' = w.more j := by
  have hc := code_cases i v f
  generalize codeF (i, v) f = R at hc ⊢
  rcases hc with ⟨rfl, ⟨h1, rfl⟩ | ⟨h1, h2, h3, rfl⟩ | ⟨h1, h2, h3, rfl⟩ | ⟨h1, h2, rfl⟩⟩ | ⟨rfl, ⟨h1, rfl⟩ | ⟨h1, rfl⟩⟩ | ⟨rfl, ⟨h1, rfl⟩ | ⟨h1, h2, rfl⟩ | ⟨h1, h2, rfl⟩⟩ | ⟨h1, h2, h3, rfl⟩
  all_goals
    first | rw [show scopeOf 1 = 2 from rfl] | rw [show scopeOf 3 = 2 from rfl] | rw [show scopeOf 0 = 0 from rfl]
    go_enter Tryz.func208, Tryz.ntmps208
    go_wp2_with fail
    refine bodyPost_ret (res_cell rfl st_Fu rfl blk rfl) rfl ⟨rfl, Below.junk bel⟩
def ChkP (f : Int) (l : List (Int × Int)) (w : World) (e : Ending) (w' : World) : Prop := e = .returned (.tuple #[.agg #[.int .i64 (scopeOf (chkS f l)), .int .i64 (chkS f l)], .bool (decide (chkS f l = 0))]) ∧ ∃ j, w' = w.more j
set_option maxHeartbeats 2000000 in
set_option maxRecDepth 100000 in
theorem setting_Check (a : Option Addr) (c : Nat) (f : Int) (l : List (Int × Int)) (hl : l.length ≤ 1048576) (w : World) (h : SlG w w.heap.size a l) :
    Calls Tryz.prog 224 #[.slice a l.length c, .int .i64 f] w (ChkP f l w) := by
  obtain ⟨R, hR⟩ : ∃ R, R = chkS f l := ⟨_, rfl⟩
  have HS := Lib.hid h
  unfold ChkP
  rw [← hR]
  have HR := Lib.hid hR
  clear hR h
  go_enter Tryz.func224, Tryz.ntmps224
  go_wp2_with fail
  go_loopg [11] (l.length + 1) (fun q i wr => ∃ k, k + q = l.length + 1 ∧ k ≤ l.length ∧ i = .int .i64 (k : Int) ∧ R = chkS f (l.drop k) ∧ ∃ j, wr = (w.alloc (.cells #[.int .i64 0, .int .i64 0] FuT)).more j)
  case atStart => exact ⟨0, by omega, by omega, rfl, by rw [List.drop_zero]; exact HR.out, ⟨#[], w.drawn⟩, more_self _⟩
  case round =>
    obtain ⟨k, hkq, hkn, rfl, hRk, j, rfl⟩ := hrel
    by_cases hlt : k < l.length
    · have hlt2 : (k : Int) < (l.length : Int) := by omega
      obtain ⟨b, o, cs, rfl, hbb, rfl, hcell⟩ := HS.out k hlt
      have c0 : w.cell? ⟨b, o + k * 2, none⟩ = some (.int .i64 l[k].1) := hcell 0 _ rfl
      have c1 : w.cell? ⟨b, o + k * 2 + 1, none⟩ = some (.int .i64 l[k].2) := hcell 1 _ rfl
      rw [chkS_step hlt] at hRk
      have HC : Hid (∀ W, Calls Tryz.prog 275 #[.agg #[.int .i64 l[k].1, .int .i64 l[k].2], .int .i64 f] W fun e w' => e = .returned (.int .i64 (codeF l[k] f)) ∧ ∃ j, w' = W.more j) := fun W => setting_code l[k].1 l[k].2 f W
      generalize codeF l[k] f = D at HC hRk
      obtain ⟨⟨i, v⟩, hiv⟩ : ∃ p, p = l[k] := ⟨_, rfl⟩
      rw [← hiv] at HC c0 c1
      have HRK := Lib.hid hRk
      have HKQ := Lib.hid hkq
      clear hcell hiv hRk hkq
      by_cases hd : D = 0
      · subst hd
        have HLT := Lib.hid hlt
        have HRK2 : Hid (R = chkS f (l.drop (k + 1))) := by show _ = _; rw [HRK.out, if_pos rfl]
        go_wp2_with (go_at_call 275; (with_reducible refine (HC.out _).mono ?_); rintro e w' ⟨rfl, j, rfl⟩)
        go_roundg (l.length - k)
        case measure => have := HKQ.out; have := HLT.out; omega
        case rel => exact ⟨k + 1, by have := HLT.out; omega, by have := HLT.out; omega, by go_num, HRK2.out, Below.junk bel⟩
      · have hRD : R = D := by rw [HRK.out, if_neg hd]
        subst hRD
        go_wp2_with (go_at_call 275; (with_reducible refine (HC.out _).mono ?_); rintro e w' ⟨rfl, j, rfl⟩)
        refine bodyPost_ret (res_cell_tmp rfl st_Fu rfl (t := FuT) (cs := #[.int .i64 2, .int .i64 R]) (g := w.heap.size) blk rfl rfl) rfl ⟨?_, Below.junk bel⟩
        rw [decide_eq_false hd, show scopeOf R = 2 from if_neg hd]
        rfl
    · obtain rfl : k = l.length := by omega
      rw [List.drop_length] at hRk
      have hR0 : R = 0 := hRk
      subst hR0
      have hlt2 : ¬ (l.length : Int) < (l.length : Int) := by omega
      clear hRk
      go_wp2_with fail
      refine bodyPost_ret (res_cell_tmp rfl st_Fu rfl (t := FuT) (cs := #[.int .i64 0, .int .i64 0]) (g := w.heap.size) blk rfl rfl) rfl ⟨?_, Below.junk bel⟩
      rfl
end Go.Proofs.YtfloijkagfabpaaGreatDoor
/-
  A frame's stream and length: whether they may be; the program's and the document's.
-/
namespace Go.Proofs.YtfloijkagfabpaaGreatDoor
set_option linter.unusedSimpArgs false
set_option linter.unusedVariables false
set_option linter.unusedSectionVars false
open Go.ChangeShapes Go.WideShapes Go.ChangeAt Go.RowKit Go.Deep Go.Shelf

abbrev rawV (fr ty fl st : Int) (rs : Bool) (a : Option Addr) (n c : Nat) : Value := .agg #[.int .i64 fr, .int .i64 ty, .int .i64 fl, .int .i64 st, .bool rs, .slice a n c]
abbrev fuV (p : Int × Int) : Value := .agg #[.int .i64 p.1, .int .i64 p.2]
def strOk (ty st : Int) : Bool := if strF ty = 0 then decide (st = 0) else if strF ty = 1 then decide (¬ st = 0) else true
def lenOk (ty fl : Int) (n : Nat) : Bool :=
  if ty = 2 then decide (n = 5) else if ty = 3 ∨ ty = 8 then decide (n = 4) else if ty = 6 then decide (n = 8) else if ty = 7 then decide (8 ≤ n)
  else if ty = 4 then (if hasF 4 fl 1 = true then decide (n = 0) else decide (n % 6 = 0)) else true
theorem strF_cases (ty : Int) : strF ty = 0 ∨ strF ty = 1 ∨ strF ty = 2 := by unfold strF; repeat' split
                                                                              all_goals simp
set_option maxRecDepth 100000 in
theorem frame_streamed (fr ty fl st : Int) (rs : Bool) (a : Option Addr) (n c : Nat) (w : World) : Calls Tryz.prog 76 #[rawV fr ty fl st rs a n c] w fun e w' => e = .returned (.bool (strOk ty st)) ∧ ∃ j, w' = w.more j := by
  have HK : Hid (∀ W, Calls Tryz.prog 145 #[.int .i64 ty] W fun e w' => e = .returned (.int .i64 (strF ty)) ∧ W = w') := kinds_Streams ty
  have hc := strF_cases ty
  unfold strOk
  generalize strF ty = s at HK hc ⊢
  rcases hc with rfl | rfl | rfl
  all_goals
    go_enter Tryz.func76, Tryz.ntmps76
    go_wp2_with (go_at_call 145; (with_reducible refine (HK.out _).mono ?_); rintro e w' ⟨rfl, rfl⟩)
    go_ret
    exact ⟨by by_cases h : st = 0 <;> simp [h], Below.junk bel⟩
set_option maxRecDepth 100000 in
theorem frame_scope (t : Int) (w : World) : Calls Tryz.prog 79 #[.int .i64 t] w fun e w' => e = .returned (.int .i64 (if t = 0 ∨ t = 2 then 1 else 2)) ∧ w = w' := by
  have hc : t = 0 ∨ t = 2 ∨ (¬ t = 0 ∧ ¬ t = 2) := by omega
  rcases hc with rfl | rfl | ⟨h0, h2⟩
  all_goals
    go_enter Tryz.func79, Tryz.ntmps79
    go_wp2_with fail
    go_ret
    exact ⟨by simp [*], rfl⟩
set_option maxRecDepth 100000 in
theorem frame_fault (s c : Int) (w : World) : Calls Tryz.prog 77 #[.int .i64 s, .int .i64 c] w fun e w' => e = .returned (.agg #[.int .i64 s, .int .i64 c]) ∧ ∃ j, w' = w.more j := by
  go_enter Tryz.func77, Tryz.ntmps77
  go_wp2_with fail
  refine bodyPost_ret (res_cell rfl st_Fu rfl blk rfl) rfl ⟨rfl, Below.junk bel⟩
theorem len_cases (ty fl : Int) (n : Nat) : (ty = 2 ∧ lenOk ty fl n = decide ((n : Int) = 5)) ∨ (ty = 3 ∧ lenOk ty fl n = decide ((n : Int) = 4)) ∨ (ty = 8 ∧ lenOk ty fl n = decide ((n : Int) = 4)) ∨ (ty = 6 ∧ lenOk ty fl n = decide ((n : Int) = 8)) ∨
    (ty = 7 ∧ lenOk ty fl n = decide ((n : Int) ≥ 8)) ∨ (ty = 4 ∧ hasF 4 fl 1 = true ∧ lenOk ty fl n = decide ((n : Int) = 0)) ∨ (ty = 4 ∧ hasF 4 fl 1 = false ∧ lenOk ty fl n = decide ((n : Int) % 6 = 0)) ∨
    (¬ ty = 2 ∧ ¬ ty = 3 ∧ ¬ ty = 8 ∧ ¬ ty = 6 ∧ ¬ ty = 7 ∧ ¬ ty = 4 ∧ lenOk ty fl n = true) := by
  have e1 : ∀ m : Nat, decide (n = m) = decide ((n : Int) = (m : Int)) := fun m => by congr 1; exact propext ⟨fun h => by omega, fun h => by omega⟩
  unfold lenOk
  by_cases h2 : ty = 2
  · exact .inl ⟨h2, by rw [if_pos h2]; exact e1 5⟩
  by_cases h3 : ty = 3
  · exact .inr (.inl ⟨h3, by rw [if_neg h2, if_pos (.inl h3)]; exact e1 4⟩)
  by_cases h8 : ty = 8
  · exact .inr (.inr (.inl ⟨h8, by rw [if_neg h2, if_pos (.inr h8)]; exact e1 4⟩))
  have h38 : ¬ (ty = 3 ∨ ty = 8) := by simp [h3, h8]
  by_cases h6 : ty = 6
  · exact .inr (.inr (.inr (.inl ⟨h6, by rw [if_neg h2, if_neg h38, if_pos h6]; exact e1 8⟩)))
  by_cases h7 : ty = 7
  · refine .inr (.inr (.inr (.inr (.inl ⟨h7, ?_⟩))))
    rw [if_neg h2, if_neg h38, if_neg h6, if_pos h7]
    congr 1
    exact propext ⟨fun h => by omega, fun h => by omega⟩
  by_cases h4 : ty = 4
  · by_cases hh : hasF 4 fl 1 = true
    · exact .inr (.inr (.inr (.inr (.inr (.inl ⟨h4, hh, by rw [if_neg h2, if_neg h38, if_neg h6, if_neg h7, if_pos h4, if_pos hh]; exact e1 0⟩)))))
    · refine .inr (.inr (.inr (.inr (.inr (.inr (.inl ⟨h4, by simpa using hh, ?_⟩))))))
      rw [if_neg h2, if_neg h38, if_neg h6, if_neg h7, if_pos h4, if_neg hh]
      congr 1
      exact propext ⟨fun h => by omega, fun h => by omega⟩
  exact .inr (.inr (.inr (.inr (.inr (.inr (.inr ⟨h2, h3, h8, h6, h7, h4, by rw [if_neg h2, if_neg h38, if_neg h6, if_neg h7, if_neg h4]⟩))))))
set_option maxHeartbeats 2000000 in
set_option maxRecDepth 100000 in
theorem frame_sized (fr ty fl st : Int) (rs : Bool) (a : Option Addr) (n c : Nat) (h0 : 0 ≤ fl) (h1 : fl ≤ 255) (w : World) : Calls Tryz.prog 78 #[rawV fr ty fl st rs a n c] w fun e w' => e = .returned (.bool (lenOk ty fl n)) ∧ ∃ j, w' = w.more j := by
  have HK : Hid (∀ W, Calls Tryz.prog 146 #[.int .i64 4, .int .i64 fl, .int .i64 1] W fun e w' => e = .returned (.bool (hasF 4 fl 1)) ∧ W = w') := kinds_Has 4 fl 1 (by simp) h0 h1
  have hc := len_cases ty fl n
  generalize lenOk ty fl n = R at hc ⊢
  generalize hasF 4 fl 1 = b at HK hc
  rcases hc with ⟨rfl, h⟩ | ⟨rfl, h⟩ | ⟨rfl, h⟩ | ⟨rfl, h⟩ | ⟨rfl, h⟩ | ⟨rfl, rfl, h⟩ | ⟨rfl, rfl, h⟩ | ⟨g2, g3, g8, g6, g7, g4, h⟩
  all_goals
    have HR := Lib.hid h
    clear h
    go_enter Tryz.func78, Tryz.ntmps78
    go_wp2_with (go_at_call 146; (with_reducible refine (HK.out _).mono ?_); rintro e w' ⟨rfl, rfl⟩)
    go_ret
    exact ⟨by rw [HR.out]; rfl, Below.junk bel⟩
set_option maxHeartbeats 2000000 in
set_option maxRecDepth 100000 in
theorem ref14_length (fr ty fl st : Int) (rs : Bool) (a : Option Addr) (n c : Nat) (h0 : 0 ≤ fl) (h1 : fl ≤ 255) (w : World) : Calls Tryz.prog 191 #[rawV fr ty fl st rs a n c] w fun e w' => e = .returned (.bool (lenOk ty fl n)) ∧ ∃ j, w' = w.more j := by
  have HK : Hid (∀ W, Calls Tryz.prog 64 #[.int .i64 4, .int .i64 fl, .int .i64 1] W fun e w' => e = .returned (.bool (hasF 4 fl 1)) ∧ W = w') := ref08_Has 4 fl 1 (by simp) h0 h1
  have hc := len_cases ty fl n
  generalize lenOk ty fl n = R at hc ⊢
  generalize hasF 4 fl 1 = b at HK hc
  rcases hc with ⟨rfl, h⟩ | ⟨rfl, h⟩ | ⟨rfl, h⟩ | ⟨rfl, h⟩ | ⟨rfl, h⟩ | ⟨rfl, rfl, h⟩ | ⟨rfl, rfl, h⟩ | ⟨g2, g3, g8, g6, g7, g4, h⟩
  all_goals
    have HR := Lib.hid h
    clear h
    go_enter Tryz.func191, Tryz.ntmps191
    go_wp2_with (go_at_call 64; (with_reducible refine (HK.out _).mono ?_); rintro e w' ⟨rfl, rfl⟩)
    go_ret
    exact ⟨by rw [HR.out]; rfl, Below.junk bel⟩
def aheadF (ty fl : Int) : Nat := (if hasF ty fl 8 = true then 1 else 0) + (if hasF ty fl 32 = true then 5 else 0) + (if ty = 5 then 4 else 0)
set_option maxHeartbeats 2000000 in
set_option maxRecDepth 100000 in
theorem ref14_ahead (fr ty fl st : Int) (rs : Bool) (a : Option Addr) (n c : Nat) (h0 : 0 ≤ fl) (h1 : fl ≤ 255) (w : World) : Calls Tryz.prog 192 #[rawV fr ty fl st rs a n c] w fun e w' => e = .returned (.int .i64 (aheadF ty fl : Int)) ∧ ∃ j, w' = w.more j := by
  have H8 : Hid (∀ W, Calls Tryz.prog 64 #[.int .i64 ty, .int .i64 fl, .int .i64 8] W fun e w' => e = .returned (.bool (hasF ty fl 8)) ∧ W = w') := ref08_Has ty fl 8 (by simp) h0 h1
  have H32 : Hid (∀ W, Calls Tryz.prog 64 #[.int .i64 ty, .int .i64 fl, .int .i64 32] W fun e w' => e = .returned (.bool (hasF ty fl 32)) ∧ W = w') := ref08_Has ty fl 32 (by simp) h0 h1
  unfold aheadF
  generalize hasF ty fl 8 = b at H8 ⊢
  generalize hasF ty fl 32 = d at H32 ⊢
  rcases Decidable.em (ty = 5) with rfl | h5 <;> cases b <;> cases d
  all_goals
    go_enter Tryz.func192, Tryz.ntmps192
    go_wp2_with (first | (go_at_call 64; (with_reducible refine (H8.out _).mono ?_); rintro e w' ⟨rfl, rfl⟩) | (go_at_call 64; (with_reducible refine (H32.out _).mono ?_); rintro e w' ⟨rfl, rfl⟩))
    go_ret
    exact ⟨by first | rfl | (rw [if_neg h5]; rfl), Below.junk bel⟩
end Go.Proofs.YtfloijkagfabpaaGreatDoor
