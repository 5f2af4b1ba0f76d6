/-
  Parts of the proof, one behind the other: contracts of the program and plain laws; no condition of their own.
-/
import Derived.Test.YtjhhdgmhocpceaaGreatDoorMi
import Derived.Test.YtjhhdgmhocpceaaGreatDoorMf
import Derived.Test.YtjhhdgmhocpceaaGreatDoorMa
import Derived.Shelf.SlSortCmp.WholeK
import Derived.Lib.SlicesCompact
import Derived.Laws.StructEq
import Derived.Laws.IdiomCopy
import Derived.Deep.LoopGhost
import Derived.Deep.Draws
import Derived.Test.YtjhhdgmhocpceaaGreatDoorSort
import Derived.Laws.OwnMore
import Derived.Shelf.SlSortCmp.NoneTotal
/-
  Faults: how they lie in memory; compared; small functions.
-/
namespace Go.Proofs.YtjhhdgmhocpceaaGreatDoor
set_option linter.unusedSimpArgs false
set_option linter.unusedVariables false
set_option linter.unusedSectionVars false
open Go.ChangeShapes Go.WideShapes Go.ChangeAt Go.RowKit Go.Deep Go.Shelf

instance : Inhabited Fl := ⟨⟨0, 0⟩⟩
abbrev FlT : TypeId := 38
theorem fl_fields : Tryz.prog.underlying FlT = some (.struct (Tryz.prog.fieldsOf FlT)) := by kernel_rfl
theorem fl_plain : Tryz.prog.stoodInHeld FlT = false := by kernel_rfl
def flEq (a b : Fl) : Bool := decide (a = b)
set_option maxRecDepth 100000 in
theorem fl_eql (x y : Fl) (w : World) : (binOp .eql FlT (.agg #[.int .i64 x.scope, .int .i64 x.code]) (.agg #[.int .i64 y.scope, .int .i64 y.code])).run Tryz.prog w = .ok (.bool (flEq x y)) w := by
  obtain ⟨a, b⟩ := x
  obtain ⟨c, d⟩ := y
  have u3 := Tryz.underlying3
  have ag := Tryz.isAgg3
  have z3 := Tryz.sizeOf3
  rw [run_eql_struct, show (10000 : Nat) = 9999 + 1 from rfl, run_equalIn_agg w 9999 FlT _ _ fl_fields fl_plain]
  simp only [Program.fieldsOf, Tryz.underlying38]
  go_simp
  unfold flEq
  repeat' split
  all_goals simp_all
set_option maxRecDepth 100000 in
theorem fl_neq (x y : Fl) (w : World) : (binOp .neq FlT (.agg #[.int .i64 x.scope, .int .i64 x.code]) (.agg #[.int .i64 y.scope, .int .i64 y.code])).run Tryz.prog w = .ok (.bool (!flEq x y)) w := by
  obtain ⟨a, b⟩ := x
  obtain ⟨c, d⟩ := y
  have u3 := Tryz.underlying3
  have ag := Tryz.isAgg3
  have z3 := Tryz.sizeOf3
  rw [run_neq_struct, show (10000 : Nat) = 9999 + 1 from rfl, run_equalIn_agg w 9999 FlT _ _ fl_fields fl_plain]
  simp only [Program.fieldsOf, Tryz.underlying38]
  go_simp
  unfold flEq
  repeat' split
  all_goals simp_all

/-! A row of faults in a block. -/
def RowFl (w : World) (g : Nat) (d : Array Fl) : Prop := ∀ i, i < d.size → w.cell? ⟨g, i * 2, none⟩ = some (.int .i64 d[i]!.scope) ∧ w.cell? ⟨g, i * 2 + 1, none⟩ = some (.int .i64 d[i]!.code) ∧ w.frozen? ⟨g, i * 2, none⟩ = false ∧ w.frozen? ⟨g, i * 2 + 1, none⟩ = false
theorem rowFl_holds {w : World} {g : Nat} {d : Array Fl} (h : RowFl w g d) : Go.Sort.HoldsK Fl.cells 2 w g 0 d := by
  intro t ht
  rw [Go.Sort.size_flatK] at ht
  rw [Go.Sort.get_flatK _ _ _ _ ht]
  obtain ⟨h1, h2, h3, h4⟩ := h (t / 2) (by omega)
  rcases Nat.mod_two_eq_zero_or_one t with e | e
  · have e2 : 0 + t = t / 2 * 2 := by omega
    rw [e, e2]
    exact ⟨h1, h3⟩
  · have e2 : 0 + t = t / 2 * 2 + 1 := by omega
    rw [e, e2]
    exact ⟨h2, h4⟩
theorem holds_rowFl {w : World} {g : Nat} {d : Array Fl} (h : Go.Sort.HoldsK Fl.cells 2 w g 0 d) : RowFl w g d := by
  intro i hi
  have h0 := h.cell hi (show 0 < 2 by omega)
  have h1 := h.cell hi (show 1 < 2 by omega)
  rw [Nat.zero_add, Nat.add_zero] at h0
  rw [Nat.zero_add] at h1
  exact ⟨h0.1, h1.1, h0.2, h1.2⟩
theorem RowFl.drew {w : World} {g : Nat} {d : Array Fl} (h : RowFl w g d) : RowFl w.drew g d := h
theorem RowFl.drewN {w : World} {g : Nat} {d : Array Fl} (h : RowFl w g d) (n : Nat) : RowFl (w.drewN n) g d := h
theorem RowFl.below {w w' : World} {g : Nat} {d : Array Fl} (h : RowFl w g d) (hb : Below w.heap.size w w') (hg : g < w.heap.size) : RowFl w' g d := fun i hi => by
  obtain ⟨h1, h2, h3, h4⟩ := h i hi
  exact ⟨(hb.cell (p := ⟨g, _, none⟩) hg).trans h1, (hb.cell (p := ⟨g, _, none⟩) hg).trans h2, (hb.frozen (p := ⟨g, _, none⟩) hg).trans h3, (hb.frozen (p := ⟨g, _, none⟩) hg).trans h4⟩
theorem RowFl.set {w : World} {g : Nat} {d : Array Fl} (h : RowFl w g d) {k : Nat} (hk : k < d.size) (u : Fl) : RowFl ((w.setCell ⟨g, k * 2, none⟩ (.int .i64 u.scope)).setCell ⟨g, k * 2 + 1, none⟩ (.int .i64 u.code)) g (d.setIfInBounds k u) := by
  intro i hi
  have hi' : i < d.size := by simpa using hi
  obtain ⟨h1, h2, h3, h4⟩ := h i hi'
  by_cases e : i = k
  · subst e
    rw [Go.Sort.getElem!_set_same d i u hi']
    refine ⟨?_, ?_, by simpa using h3, by simpa using h4⟩
    · rw [World.cell?_setCell_other _ _ _ _ (by simp)]
      exact World.cell?_setCell_same _ _ _ h1
    · refine World.cell?_setCell_same _ _ _ (u := .int .i64 d[i]!.code) ?_
      rw [World.cell?_setCell_other _ _ _ _ (by simp)]
      exact h2
  · rw [Go.Sort.getElem!_set_other d k i u e]
    refine ⟨?_, ?_, by simpa using h3, by simpa using h4⟩
    · rw [World.cell?_setCell_other _ _ _ _ (by simp <;> omega), World.cell?_setCell_other _ _ _ _ (by simp <;> omega)]
      exact h1
    · rw [World.cell?_setCell_other _ _ _ _ (by simp <;> omega), World.cell?_setCell_other _ _ _ _ (by simp <;> omega)]
      exact h2
theorem RowFl.clear {w : World} {g : Nat} {d : Array Fl} (h : RowFl w g d) {k : Nat} (vs : List Value) : RowFl (w.setCells g (k * 2) vs) g (d.extract 0 k) := by
  intro i hi
  have hi' : i < d.size ∧ i < k := by simp at hi; omega
  obtain ⟨h1, h2, h3, h4⟩ := h i hi'.1
  have e : (d.extract 0 k)[i]! = d[i]! := by
    rw [getElem!_pos _ i hi, getElem!_pos d i hi'.1]; simp
  rw [e]
  refine ⟨?_, ?_, ?_, ?_⟩
  · rw [World.cell?_setCells_out _ _ _ _ _ (fun _ _ => .inl (by show i * 2 < k * 2; omega))]; exact h1
  · rw [World.cell?_setCells_out _ _ _ _ _ (fun _ _ => .inl (by show i * 2 + 1 < k * 2; omega))]; exact h2
  · rw [World.frozen?_setCells]; exact h3
  · rw [World.frozen?_setCells]; exact h4
theorem below_setCells (B g : Nat) : ∀ (vs : List Value) (o : Nat) (w0 w : World), Below B w0 w → B ≤ g → Below B w0 (w.setCells g o vs)
  | [], _, _, _, h, _ => h
  | v :: r, o, w0, w, h, hg => below_setCells B g r (o + 1) w0 _ (h.setCell (p := ⟨g, o, none⟩) hg v) hg
def flC (f : Fl) : List Value := f.cells
theorem run_clear_fl (w : World) (ty : TypeId) (g k n c : Nat) (hn : 0 < n) (hc : ∀ j, j < n * 2 → (w.cell? ⟨g, k * 2 + j, none⟩).isSome = true) (hf : ∀ j, j < n * 2 → w.frozen? ⟨g, k * 2 + j, none⟩ = false) :
    (Builtin.clear_ #[26] ty #[.slice (some ⟨g, k * 2, none⟩) n c]).run Tryz.prog w = .ok (.tuple #[]) (w.setCells g (k * 2) (List.replicate (n * 2) (.int .i64 0))) := by
  have hz : ∀ w, (zeroValue FlT).run Tryz.prog w = .ok (.agg #[.int .i64 0, .int .i64 0]) w := fun w => by kernel_rfl
  have hzc : (Builtin.zeroCells (Value.agg #[.int .i64 0, .int .i64 0]).cells n).toList = List.replicate (n * 2) (.int .i64 0) := by
    apply List.ext_getElem
    · simp [Builtin.zeroCells, Value.cells]
    · intro i h1 h2
      simp [Builtin.zeroCells, Value.cells]
      rcases Nat.mod_two_eq_zero_or_one i with e | e <;> rw [e] <;> rfl
  have hst := run_storeCells_cells (P := Tryz.prog) g (k * 2) (List.replicate (n * 2) (.int .i64 0)) 0 w (by simpa using hc) (by simpa using hf) (by intro v hv'; rw [List.eq_of_mem_replicate hv']; rfl)
  simp only [Nat.add_zero] at hst
  obtain ⟨m, rfl⟩ : ∃ m, n = m + 1 := ⟨n - 1, by omega⟩
  simp [Builtin.clear_, run_underlying Tryz.underlying26, hz, hzc, hst]
end Go.Proofs.YtjhhdgmhocpceaaGreatDoor
/-
  Faults: right ones, their order; neighbours that are the same are struck.
-/
namespace Go.Proofs.YtjhhdgmhocpceaaGreatDoor
set_option linter.unusedSimpArgs false
set_option linter.unusedVariables false
set_option linter.unusedSectionVars false
open Go.ChangeShapes Go.WideShapes Go.ChangeAt Go.RowKit Go.Deep Go.Shelf

set_option maxHeartbeats 2000000 in
set_option maxRecDepth 100000 in
theorem faults_Right (s c : Int) (w : World) : Calls Tryz.prog 26 #[.agg #[.int .i64 s, .int .i64 c]] w fun e w' => e = .returned (.bool (flR ⟨s, c⟩)) ∧ ∃ j, w' = w.more j := by
  have HR : Hid (flR ⟨s, c⟩ = ((s == 1 || s == 2) && (decide (0 ≤ c) && decide (c ≤ 4294967295)))) := by
    show _ = _
    unfold flR
    have h1 : decide (c < 4294967296) = decide (c ≤ 4294967295) := by rw [decide_eq_decide]; omega
    rw [h1]
    congr 1
  generalize flR ⟨s, c⟩ = R at HR ⊢
  cases h1 : (s == 1)
  · cases h2 : (s == 2)
    · have hR : R = false := by rw [HR.out, h1, h2]; rfl
      subst hR
      clear HR
      go_enter Tryz.func26, Tryz.ntmps26
      go_wp2_with fail
      go_ret
      exact ⟨rfl, Below.junk bel⟩
    · have hc : (0 ≤ c ∧ c ≤ 4294967295) ∨ (0 ≤ c ∧ ¬ c ≤ 4294967295) ∨ ¬ 0 ≤ c := by omega
      rcases hc with ⟨h3, h4⟩ | ⟨h3, h4⟩ | h3
      all_goals
        have hR : R = (decide (0 ≤ c) && decide (c ≤ 4294967295)) := by rw [HR.out, h1, h2]; rfl
        first | simp only [h3, h4, decide_true, decide_false, Bool.and_true, Bool.and_false, Bool.false_and] at hR | simp only [h3, decide_false, Bool.false_and] at hR
        subst hR
        clear HR
        obtain rfl : s = 2 := by simpa using h2
        clear h1 h2
        go_enter Tryz.func26, Tryz.ntmps26
        go_wp2_with fail
        go_ret
        exact ⟨rfl, Below.junk bel⟩
  · have hc : (0 ≤ c ∧ c ≤ 4294967295) ∨ (0 ≤ c ∧ ¬ c ≤ 4294967295) ∨ ¬ 0 ≤ c := by omega
    rcases hc with ⟨h3, h4⟩ | ⟨h3, h4⟩ | h3
    all_goals
      have hR : R = (decide (0 ≤ c) && decide (c ≤ 4294967295)) := by rw [HR.out, h1]; rfl
      first | simp only [h3, h4, decide_true, decide_false, Bool.and_true, Bool.and_false, Bool.false_and] at hR | simp only [h3, decide_false, Bool.false_and] at hR
      subst hR
      clear HR
      obtain rfl : s = 1 := by simpa using h1
      clear h1
      go_enter Tryz.func26, Tryz.ntmps26
      go_wp2_with fail
      go_ret
      exact ⟨rfl, Below.junk bel⟩

set_option maxHeartbeats 2000000 in
set_option maxRecDepth 100000 in
theorem faults_Less (a b c d : Int) (w : World) : Calls Tryz.prog 45 #[.agg #[.int .i64 a, .int .i64 b], .agg #[.int .i64 c, .int .i64 d]] w fun e w' => e = .returned (.bool (ltFl ⟨a, b⟩ ⟨c, d⟩)) ∧ ∃ j, w' = w.more j := by
  have HR : Hid (ltFl ⟨a, b⟩ ⟨c, d⟩ = if a = c then decide (b < d) else decide (a < c)) := rfl
  generalize ltFl ⟨a, b⟩ ⟨c, d⟩ = R at HR ⊢
  cases h1 : (a == c)
  · have h2 : (a != c) = true := by unfold bne; rw [h1]; rfl
    have hR : R = decide (a < c) := by rw [HR.out, if_neg (by simpa using h1)]
    subst hR
    clear HR
    go_enter Tryz.func45, Tryz.ntmps45
    go_wp2_with fail
    go_ret
    exact ⟨rfl, Below.junk bel⟩
  · obtain rfl : a = c := by simpa using h1
    have h2 : (a != a) = false := by simp
    have hR : R = decide (b < d) := by rw [HR.out, if_pos rfl]
    subst hR
    clear HR
    go_enter Tryz.func45, Tryz.ntmps45
    go_wp2_with fail
    go_ret
    exact ⟨rfl, Below.junk bel⟩
def cmpFl (x y : Fl) : Int := if x = y then 0 else if ltFl x y = true then -1 else 1
set_option maxHeartbeats 2000000 in
set_option maxRecDepth 100000 in
theorem faults_compare (x y : Fl) (w : World) : Calls Tryz.prog 28 #[.agg #[.int .i64 x.scope, .int .i64 x.code], .agg #[.int .i64 y.scope, .int .i64 y.code]] w fun e w' => e = .returned (.int .i64 (cmpFl x y)) ∧ ∃ j, w' = w.more j := by
  have HL : Hid (∀ W, Calls Tryz.prog 45 #[.agg #[.int .i64 x.scope, .int .i64 x.code], .agg #[.int .i64 y.scope, .int .i64 y.code]] W fun e w' => e = .returned (.bool (ltFl x y)) ∧ ∃ j, w' = W.more j) := faults_Less x.scope x.code y.scope y.code
  have HQ := fun W => fl_eql x y W
  have HR : Hid (cmpFl x y = if flEq x y = true then 0 else if ltFl x y = true then -1 else 1) := by show _ = _; unfold cmpFl flEq; simp
  generalize cmpFl x y = R at HR ⊢
  generalize flEq x y = q at HQ HR
  generalize ltFl x y = t at HL HR
  cases q <;> cases t
  all_goals
    have hR := HR.out
    simp only [Bool.false_eq_true, if_false, if_true] at hR
    subst hR
    clear HR
    go_enter Tryz.func28, Tryz.ntmps28
    go_wp2_with (go_at_call 45; (with_reducible refine (HL.out _).mono ?_); rintro e w' ⟨rfl, j, rfl⟩)
    go_ret
    exact ⟨rfl, Below.junk bel⟩

def CompPost (d : Array Fl) (g cap B : Nat) (w : World) (e : Ending) (w' : World) : Prop :=
  e = .returned (.slice (some ⟨g, 0, none⟩) (Lib.compactUpTo d d.size).length cap) ∧ (∃ d' : Array Fl, RowFl w' g d' ∧ d'.toList = Lib.compactUpTo d d.size) ∧ Below B w w'
theorem comp_done {d dk : Array Fl} {m k : Nat} (h : Lib.CompInv d m k dk) (hm : m ≤ d.size) : (dk.extract 0 k).toList = Lib.compactUpTo d m := by
  have hk : k ≤ dk.size := by have := h.lt; have := h.size; omega
  apply List.ext_getElem?
  intro i
  by_cases hi : i < k
  · rw [h.low i hi]
    have : i < dk.size := by omega
    simp [hi, this, getElem!_pos dk i this]
  · rw [List.getElem?_eq_none (by simp; omega), List.getElem?_eq_none (by rw [h.len]; omega)]

set_option maxHeartbeats 8000000 in
set_option maxRecDepth 100000 in
theorem compact_fl (g cap B : Nat) (d : Array Fl) (w : World) (hB : B ≤ g) (hg : g < w.heap.size) (hH : RowFl w g d) (hsz : d.size ≤ 1048576) (hcap : d.size ≤ cap) (hcap2 : cap ≤ 9223372036854775807) :
    Calls Tryz.prog 29 #[.slice (some ⟨g, 0, none⟩) d.size cap] w (CompPost d g cap B w) := by
  have same : ∀ W, RowFl W g d → Below B w W → (∀ j, j < d.size → Lib.keeps d j = true) → CompPost d g cap B w (.returned (.slice (some ⟨g, 0, none⟩) d.size cap)) W := fun W h1 h2 hall => by
    have e : Lib.compactUpTo d d.size = d.toList := by rw [Lib.compactUpTo_all d _ hall, Lib.range_map_get]
    exact ⟨by rw [e]; simp, ⟨d, h1, e.symm⟩, h2⟩
  have HS := Lib.hid same
  clear same
  have HG := Lib.hid hg
  have HBG := Lib.hid hB
  clear hB
  by_cases h2 : d.size < 2
  · have HH := Lib.hid hH
    clear hH
    go_enter Tryz.func29, Tryz.ntmps29
    go_wp2_with fail
    go_ret
    exact HS.out w HH.out (Below.refl _ _) (fun j hj => Lib.keeps_lt_one d j (by omega))
  · go_enter Tryz.func29, Tryz.ntmps29
    go_wp2_with fail
    have HH := Lib.hid hH
    have HCP := Lib.hid hcap
    clear hH
    go_loopg [3] d.size (fun gh s3 wr => ∃ k q : Nat, 1 ≤ k ∧ k ≤ d.size ∧ d.size - k ≤ gh ∧ s3 = .int .i64 k ∧ wr = w.drewN q ∧ Hid (∀ j, j < k → Lib.keeps d j = true))
    case atStart => exact ⟨1, 0, Nat.le_refl _, by omega, by omega, rfl, rfl, Lib.keeps_lt_one d⟩
    case round =>
      obtain ⟨k, q, hk1, hk, hgh, rfl, rfl, HA⟩ := hrel
      have HGH := Lib.hid hgh
      clear hgh
      by_cases hlt : k < d.size
      · obtain ⟨c0, c1, _, _⟩ := HH.out k hlt
        obtain ⟨p0, p1, _, _⟩ := HH.out (k - 1) (by omega)
        have HD : Hid (d[k]! = d[k - 1]! → Lib.keeps d k = false) := fun h => Lib.keeps_neg (by omega) h
        have HN : Hid (d[k]! ≠ d[k - 1]! → ∀ j, j < k + 1 → Lib.keeps d j = true) := fun h j hj => by
          by_cases e : j = k
          · subst e; exact Lib.keeps_pos h
          · exact HA.out j (by omega)
        generalize d[k]! = x at c0 c1 HD HN
        generalize d[k - 1]! = y at p0 p1 HD HN
        have HQ := fun W => fl_eql x y W
        have HE : Hid (flEq x y = true → x = y) := fun h => by simpa [flEq] using h
        have HF : Hid (flEq x y = false → x ≠ y) := fun h => by simpa [flEq] using h
        generalize flEq x y = b at HQ HE HF
        have s1 : IntKind.i64.wrap ((k : Int) - 1) = (k : Int) - 1 := IntWalk.i64_in _ (by omega)
        have s2 : (0 : Int) ≤ (k : Int) - 1 := by omega
        have s3 : ((k : Int) - 1).toNat = k - 1 := by omega
        have s4 : (k : Int) - 1 < d.size := by omega
        have s5 : (k : Int) < d.size := by omega
        cases b
        · have HAL := Lib.hid (HN.out (HF.out rfl))
          go_wp2_with fail
          go_quiet (fail)
          go_wp2_with fail
          go_roundg (d.size - (k + 1))
          case measure => have := HGH.out; omega
          case rel => exact ⟨k + 1, _, by omega, hlt, Nat.le_refl _, by go_num, rfl, HAL.out⟩
        · have HI0 : Hid (Lib.CompInv d (k + 1) k d) := Lib.CompInv.start HA.out (HD.out (HE.out rfl))
          have hkc : ¬ cap = k := by have := HCP.out; omega
          have hkc2 : (k : Int) ≤ cap := by have := HCP.out; omega
          have hkc3 : (k : Int) ≤ d.size := by omega
          clear HD HN HA HE HF
          go_wp2_with fail
          go_quiet (fail)
          go_wp2_with fail
          clear c0 c1 p0 p1 HQ
          go_loopg [3, 5] d.size (fun gh s3 s5 wr => ∃ (kk k2 : Nat) (dk : Array Fl), s3 = .int .i64 kk ∧ s5 = .int .i64 k2 ∧ 1 ≤ k2 ∧ k + k2 ≤ d.size ∧ d.size - (k + k2) ≤ gh ∧ kk < k + k2 ∧ dk.size = d.size ∧ Hid (RowFl wr g dk) ∧ Hid (Below B w wr) ∧ Hid (Lib.CompInv d (k + k2) kk dk))
          case atStart => exact ⟨k, 1, d, rfl, rfl, Nat.le_refl _, by omega, by omega, by omega, rfl, RowFl.drewN HH.out _, below_drewN (Below.refl _ _) _, HI0.out⟩
          case round =>
            obtain ⟨kk, k2, dk, rfl, rfl, h1, hle, hg2, hkk, hds, HR, HB, HI⟩ := hrel
            have HG2 := Lib.hid hg2
            have HDS := Lib.hid hds
            clear hg2 hds
            by_cases hlt2 : k + k2 < d.size
            · obtain ⟨m0, m1, _, _⟩ := HR.out (k + k2) (by rw [HDS.out]; omega)
              obtain ⟨o0, o1, _, _⟩ := HR.out (k + k2 - 1) (by rw [HDS.out]; omega)
              obtain ⟨t0, t1, t2, t3⟩ := HR.out kk (by rw [HDS.out]; omega)
              rw [HI.out.high (k + k2) (by omega), show (k + k2) * 2 = k * 2 + k2 * 2 by omega] at m0 m1
              rw [HI.out.high (k + k2 - 1) (by omega), show (k + k2 - 1) * 2 = k * 2 + (k2 - 1) * 2 by omega] at o0 o1
              have HSK : Hid (d[k + k2]! = d[k + k2 - 1]! → Lib.CompInv d (k + (k2 + 1)) kk dk) := fun h => HI.out.skip (Lib.keeps_neg (by omega) h)
              have HKP : Hid (d[k + k2]! ≠ d[k + k2 - 1]! → Lib.CompInv d (k + (k2 + 1)) (kk + 1) (dk.setIfInBounds kk d[k + k2]!)) := fun h => HI.out.keep hlt2 (Lib.keeps_pos h)
              generalize d[k + k2]! = u at m0 m1 HSK HKP
              generalize d[k + k2 - 1]! = v at o0 o1 HSK HKP
              generalize dk[kk]! = old at t0 t1
              have HQ := fun W => fl_neq u v W
              have HE : Hid (flEq u v = true → u = v) := fun h => by simpa [flEq] using h
              have HF : Hid (flEq u v = false → u ≠ v) := fun h => by simpa [flEq] using h
              generalize flEq u v = b at HQ HE HF
              have r1 : IntKind.i64.wrap ((k2 : Int) - 1) = (k2 : Int) - 1 := IntWalk.i64_in _ (by omega)
              have r2 : (0 : Int) ≤ (k2 : Int) - 1 := by omega
              have r3 : ((k2 : Int) - 1).toNat = k2 - 1 := by omega
              have r4 : (k2 : Int) - 1 < ((d.size - k : Nat) : Int) := by omega
              have r5 : (k2 : Int) < ((d.size - k : Nat) : Int) := by omega
              have r6 : (kk : Int) < d.size := by omega
              have r7 : (k2 : Int) < (d.size : Int) - k := by omega
              cases b
              · have HI2 := Lib.hid (HKP.out (HF.out rfl))
                clear HSK HKP HE HF
                go_wp2_with fail
                go_quiet (fail)
                go_wp2_with fail
                go_roundg (d.size - (k + (k2 + 1)))
                case measure => have := HG2.out; omega
                case rel => exact ⟨kk + 1, k2 + 1, _, by go_num, by go_num, by omega, by omega, Nat.le_refl _, by omega, by simpa using HDS.out, RowFl.set (RowFl.drewN HR.out _) (by rw [HDS.out]; omega) u, ((below_drewN HB.out _).setCell (p := ⟨g, kk * 2, none⟩) HBG.out _).setCell (p := ⟨g, kk * 2 + 1, none⟩) HBG.out _, HI2.out⟩
              · have HI2 := Lib.hid (HSK.out (HE.out rfl))
                clear HSK HKP HE HF
                go_wp2_with fail
                go_quiet (fail)
                go_wp2_with fail
                go_roundg (d.size - (k + (k2 + 1)))
                case measure => have := HG2.out; omega
                case rel => exact ⟨kk, k2 + 1, dk, rfl, by go_num, by omega, by omega, Nat.le_refl _, by omega, HDS.out, RowFl.drewN HR.out _, below_drewN HB.out _, HI2.out⟩
            · have hend : k + k2 = d.size := by omega
              have hcl := fun ty => run_clear_fl wr ty g kk (d.size - kk) (cap - kk) (by omega) (fun j hj => by
                obtain ⟨t0, t1, _, _⟩ := HR.out (kk + j / 2) (by rw [HDS.out]; omega)
                rcases Nat.mod_two_eq_zero_or_one j with e | e
                · rw [show kk * 2 + j = (kk + j / 2) * 2 by omega, t0]; rfl
                · rw [show kk * 2 + j = (kk + j / 2) * 2 + 1 by omega, t1]; rfl) (fun j hj => by
                obtain ⟨_, _, t2, t3⟩ := HR.out (kk + j / 2) (by rw [HDS.out]; omega)
                rcases Nat.mod_two_eq_zero_or_one j with e | e
                · rw [show kk * 2 + j = (kk + j / 2) * 2 by omega, t2]
                · rw [show kk * 2 + j = (kk + j / 2) * 2 + 1 by omega, t3])
              have hkk2 : ¬ cap = kk := by have := HCP.out; omega
              have hkk3 : (kk : Int) ≤ cap := by have := HCP.out; omega
              have hkk4 : (kk : Int) ≤ d.size := by omega
              have hk5 : ¬ (k2 : Int) < ((d.size - k : Nat) : Int) := by omega
              have hk6 : ¬ (k2 : Int) < (d.size : Int) - k := by omega
              have HEN := Lib.hid hend
              clear hend
              go_wp2_with fail
              go_ret
              have hI := HI.out
              rw [HEN.out] at hI
              refine ⟨by rw [hI.len]; rfl, ⟨dk.extract 0 kk, RowFl.clear HR.out _, comp_done hI (Nat.le_refl _)⟩, below_setCells B g _ _ w wr HB.out HBG.out⟩
      · have hke : k = d.size := by omega
        subst hke
        go_wp2_with fail
        go_ret
        exact HS.out _ (RowFl.drewN HH.out q) (below_drewN (Below.refl _ _) q) HA.out
end Go.Proofs.YtjhhdgmhocpceaaGreatDoor
/-
  Faults: sorted.
-/
namespace Go.Proofs.YtjhhdgmhocpceaaGreatDoor
set_option linter.unusedSimpArgs false
set_option linter.unusedVariables false
set_option linter.unusedSectionVars false
open Go.ChangeShapes Go.WideShapes Go.ChangeAt Go.RowKit Go.Deep Go.Shelf
open Go.Sort (SWO)

set_option maxHeartbeats 2000000 in
set_option maxRecDepth 100000 in
theorem faults_Less0 (x y : Fl) (w : World) : Calls Tryz.prog 45 #[.agg #[.int .i64 x.scope, .int .i64 x.code], .agg #[.int .i64 y.scope, .int .i64 y.code]] w fun e w' => e = .returned (.bool (ltFl x y)) ∧ w' = (w.alloc (.cells #[.int .i64 x.scope, .int .i64 x.code] FlT)).alloc (.cells #[.int .i64 y.scope, .int .i64 y.code] FlT) := by
  obtain ⟨a, b⟩ := x
  obtain ⟨c, d⟩ := y
  have HR : Hid (ltFl ⟨a, b⟩ ⟨c, d⟩ = if a = c then decide (b < d) else decide (a < c)) := rfl
  generalize ltFl ⟨a, b⟩ ⟨c, d⟩ = R at HR ⊢
  simp only
  cases h1 : (a == c)
  · have h2 : (a != c) = true := by unfold bne; rw [h1]; rfl
    have hR : R = decide (a < c) := by rw [HR.out, if_neg (by simpa using h1)]
    subst hR
    clear HR
    go_enter Tryz.func45, Tryz.ntmps45
    go_wp2_with fail
    go_ret
    exact ⟨rfl, rfl⟩
  · obtain rfl : a = c := by simpa using h1
    have h2 : (a != a) = false := by simp
    have hR : R = decide (b < d) := by rw [HR.out, if_pos rfl]
    subst hR
    clear HR
    go_enter Tryz.func45, Tryz.ntmps45
    go_wp2_with fail
    go_ret
    exact ⟨rfl, rfl⟩
set_option maxHeartbeats 2000000 in
set_option maxRecDepth 100000 in
theorem faults_compare0 (x y : Fl) (w : World) : Calls Tryz.prog 28 #[.agg #[.int .i64 x.scope, .int .i64 x.code], .agg #[.int .i64 y.scope, .int .i64 y.code]] w fun e w' => e = .returned (.int .i64 (cmpFl x y)) ∧ ∃ os, w' = Go.Sort.grow w os := by
  have HL : Hid (∀ W, Calls Tryz.prog 45 #[.agg #[.int .i64 x.scope, .int .i64 x.code], .agg #[.int .i64 y.scope, .int .i64 y.code]] W fun e w' => e = .returned (.bool (ltFl x y)) ∧ w' = (W.alloc (.cells #[.int .i64 x.scope, .int .i64 x.code] FlT)).alloc (.cells #[.int .i64 y.scope, .int .i64 y.code] FlT)) := faults_Less0 x y
  have HQ := fun W => fl_eql x y W
  have HR : Hid (cmpFl x y = if flEq x y = true then 0 else if ltFl x y = true then -1 else 1) := by show _ = _; unfold cmpFl flEq; simp
  generalize cmpFl x y = R at HR ⊢
  generalize flEq x y = q at HQ HR
  generalize ltFl x y = t at HL HR
  cases q <;> cases t
  all_goals
    have hR := HR.out
    simp only [Bool.false_eq_true, if_false, if_true] at hR
    subst hR
    clear HR
    go_enter Tryz.func28, Tryz.ntmps28
    go_wp2_with (go_at_call 45; (with_reducible refine (HL.out _).mono ?_); rintro e w' ⟨rfl, rfl⟩)
    go_ret
    exact ⟨rfl, _, by simp only [Go.Sort.alloc_eq_grow, Go.Sort.grow_grow]; rfl⟩

theorem ltOf_cmp (x y : Fl) : ltOf cmpFl x y = ltFl x y := by
  unfold ltOf cmpFl
  by_cases h : x = y
  · subst h; simp [ordFl.irr]
  · rw [if_neg h]
    cases h2 : ltFl x y <;> simp
theorem ltOf_eq : ltOf cmpFl = ltFl := funext fun x => funext fun y => ltOf_cmp x y
theorem swoFl : SWO (ltOf cmpFl) := by
  rw [ltOf_eq]
  refine ⟨ordFl.irr, ordFl.tr, fun x y z h1 h2 => ?_⟩
  cases h : ltFl x z with
  | false => rfl
  | true =>
    by_cases e : x = y
    · subst e; rw [h2] at h; cases h
    · by_cases e2 : y = z
      · subst e2; rw [h1] at h; cases h
      · have a1 : ltFl y x = true := by rcases ordFl.tot x y e with h' | h'
                                        · rw [h1] at h'; cases h'
                                        · exact h'
        have a2 : ltFl z y = true := by rcases ordFl.tot y z e2 with h' | h'
                                        · rw [h2] at h'; cases h'
                                        · exact h'
        have := ordFl.tr _ _ _ (ordFl.tr _ _ _ a2 a1) h
        rw [ordFl.irr] at this; cases this
theorem flCells_one (x : Fl) : ∀ v ∈ Fl.cells x, v.oneCell' = true := by intro v hv; simp [Fl.cells] at hv; rcases hv with rfl | rfl <;> rfl
def SortPost (d : Array Fl) (g B : Nat) (w : World) (e : Ending) (w' : World) : Prop :=
  e = .returned (.tuple #[]) ∧ (∃ d' : Array Fl, d'.size = d.size ∧ d'.toList.Perm d.toList ∧ d'.toList.Pairwise (fun a b => ltFl b a = false) ∧ RowFl w' g d') ∧ Below B w w' ∧ w.heap.size ≤ w'.heap.size
theorem sort_fl (g cap B : Nat) (d : Array Fl) (w : World) (hB : B ≤ g) (hg : g < w.heap.size) (hH : RowFl w g d) (hsz : d.size ≤ 1048576) :
    Calls Tryz.prog 27 #[.slice (some ⟨g, 0, none⟩) d.size cap, .func (.func 28) #[] #[]] w (SortPost d g B w) := by
  have eg : ∀ args w, (callFunc 28 args).run Tryz.prog w = .ok (.enter 28 args) w := enters_of Tryz.func28 (by kernel_rfl) rfl
  have hc : CmpLays Tryz.prog 28 #[] Fl.cells 2 cmpFl g 0 d.size w := fun m os dk _ x y =>
    (faults_compare0 x y _).mono fun e w' ⟨he, os', hw⟩ => ⟨he, 0, os', hw⟩
  have h := AnyQ.slices_SortFunc Tryz.sortFl 2 Tryz.isAgg38 Tryz.sizeOf38 Fl.cells (fun _ => rfl) flCells_one cmpFl swoFl 28 #[] g 0 cap d w eg hc (rowFl_holds hH) hg (by omega)
  refine Calls.mono h fun e w' ⟨he, d', n, os, hp, hs, hw⟩ => ?_
  rw [ltOf_eq] at hs
  have hsize := hp.1
  refine ⟨he, ⟨d', hsize, ?_, ?_, ?_⟩, ?_, ?_⟩
  · have := hp.2.2
    rwa [← hsize, Array.extract_size, hsize, Array.extract_size] at this
  · rw [List.pairwise_iff_getElem]
    intro i j hi hj hij
    have hj' : j < d'.size := by simpa using hj
    have hi' : i < d'.size := by omega
    have := hs i j (Nat.zero_le _) hij (by omega)
    rw [getElem!_pos d' i hi', getElem!_pos d' j hj'] at this
    simpa using this
  · rw [hw]
    exact holds_rowFl (Go.Sort.holdsK_grow (enc := Fl.cells) (k := 2) _ os g 0 d' (by simpa [Go.Sort.putRowK, Go.Sort.ahead] using hg) (Go.Sort.holdsK_putRowK (enc := Fl.cells) (k := 2) _ g 0 d d' (rowFl_holds hH) hsize))
  · rw [hw]
    refine ⟨rfl, rfl, rfl, ?_, fun k hk => ?_⟩
    · show w.heap.size ≤ ((w.heap.modify g _) ++ os).size
      simp
    · show ((w.heap.modify g _) ++ os)[k]? = w.heap[k]?
      have hkg : k < w.heap.size := by omega
      rw [Array.getElem?_append_left (by simpa using hkg), Array.getElem?_modify, if_neg (by omega)]
  · rw [hw]
    show w.heap.size ≤ ((w.heap.modify g _) ++ os).size
    simp
theorem comp_mem (d : Array Fl) : ∀ (m : Nat) (x : Fl), x ∈ Lib.compactUpTo d m ↔ ∃ j, j < m ∧ d[j]! = x
  | 0, x => by simp [Lib.compactUpTo]
  | m + 1, x => by
    rw [Lib.compactUpTo_succ, List.mem_append, comp_mem d m x]
    constructor
    · rintro (⟨j, hj, h⟩ | h)
      · exact ⟨j, by omega, h⟩
      · split at h
        · simp at h; exact ⟨m, by omega, h.symm⟩
        · simp at h
    · rintro ⟨j, hj, h⟩
      by_cases hjm : j = m
      · subst hjm
        cases hk : Lib.keeps d j with
        | true => right; simp [h]
        | false =>
          left
          have hn : ¬ (j = 0 ∨ d[j]! ≠ d[j - 1]!) := by simpa [Lib.keeps] using hk
          have h0 : j ≠ 0 := fun e => hn (.inl e)
          have h1 : d[j]! = d[j - 1]! := Decidable.byContradiction fun e => hn (.inr e)
          exact ⟨j - 1, by omega, by rw [← h1, h]⟩
      · exact .inl ⟨j, by omega, h⟩
theorem comp_strict (d : Array Fl) (hs : ∀ i j, i < j → j < d.size → ltFl d[j]! d[i]! = false) : ∀ m, m ≤ d.size → Strict ltFl (Lib.compactUpTo d m)
  | 0, _ => by simp [Lib.compactUpTo, Strict]
  | m + 1, hm => by
    have ih := comp_strict d hs m (by omega)
    rw [Lib.compactUpTo_succ]
    split
    · rename_i hk
      refine List.pairwise_append.2 ⟨ih, by simp, fun y hy z hz => ?_⟩
      simp at hz
      subst hz
      obtain ⟨j, hj, rfl⟩ := (comp_mem d m y).1 hy
      have hk' : m = 0 ∨ d[m]! ≠ d[m - 1]! := by simpa [Lib.keeps] using hk
      have h0 : d[m]! ≠ d[m - 1]! := by rcases hk' with h | h
                                        · omega
                                        · exact h
      have h1 := hs j m hj (by omega)
      have hlt : ltFl d[m - 1]! d[m]! = true := by
        rcases ordFl.tot _ _ (Ne.symm h0) with h | h
        · exact h
        · rw [hs (m - 1) m (by omega) (by omega)] at h; cases h
      by_cases e : j = m - 1
      · rw [e]; exact hlt
      · have h2 := hs j (m - 1) (by omega) (by omega)
        by_cases e2 : d[j]! = d[m]!
        · rw [e2, hlt] at h2 <;> cases h2
        · rcases ordFl.tot _ _ e2 with h | h
          · exact h
          · rw [h1] at h; cases h
    · simpa using ih
theorem comp_set {d d' : Array Fl} {l : List Fl} (hp : d'.toList.Perm d.toList) (hs : d'.toList.Pairwise (fun a b => ltFl b a = false)) (hl : d.toList = l) : Lib.compactUpTo d' d'.size = setS ltFl l := by
  refine strict_ext ordFl _ _ (comp_strict d' (fun i j hij hj => ?_) _ (Nat.le_refl _)) (strict_setS ordFl l) (fun x => ?_)
  · rw [List.pairwise_iff_getElem] at hs
    have := hs i j (by simp; omega) (by simpa using hj) hij
    rw [getElem!_pos d' i (by omega), getElem!_pos d' j hj]
    simpa using this
  · rw [comp_mem, mem_setS, ← hl, ← hp.mem_iff]
    constructor
    · rintro ⟨j, hj, rfl⟩
      rw [getElem!_pos d' j hj]; simp
    · intro h
      obtain ⟨j, hj, rfl⟩ := List.getElem_of_mem h
      exact ⟨j, by simpa using hj, by rw [getElem!_pos d' j (by simpa using hj)]; simp⟩
end Go.Proofs.YtjhhdgmhocpceaaGreatDoor
/-
  Faults: the set of the right ones.
-/
namespace Go.Proofs.YtjhhdgmhocpceaaGreatDoor
set_option linter.unusedSimpArgs false
set_option linter.unusedVariables false
set_option linter.unusedSectionVars false
open Go.ChangeShapes Go.WideShapes Go.ChangeAt Go.RowKit Go.Deep Go.Shelf

theorem comp_len (d : Array Fl) : ∀ m, (Lib.compactUpTo d m).length ≤ m
  | 0 => by simp [Lib.compactUpTo]
  | m + 1 => by
    have ih := comp_len d m
    rw [Lib.compactUpTo_succ]
    split <;> simp <;> omega
abbrev SlFl (w : World) (B : Nat) (a : Option Addr) (l : List Fl) : Prop := SlR w B 2 (fun x cs => cs = Fl.cells x) a l
theorem SlR.atFl {w : World} {B : Nat} {a : Option Addr} {l : List Fl} (h : SlFl w B a l) {k : Nat} (hk : k < l.length) : ∃ b off, a = some ⟨b, off, none⟩ ∧ b < B ∧ w.cell? ⟨b, off + k * 2, none⟩ = some (.int .i64 l[k].scope) ∧ w.cell? ⟨b, off + k * 2 + 1, none⟩ = some (.int .i64 l[k].code) := by
  obtain ⟨b, off, cs, ha, hb, rfl, hc⟩ := h k hk
  exact ⟨b, off, ha, hb, hc 0 _ rfl, hc 1 _ rfl⟩
abbrev OwnFl (B : Nat) (w : World) (v : Value) (l : List Fl) : Prop := OwnC FlT 2 Fl.cells B w v l
theorem st_fl : SliceTy Tryz.prog 26 FlT (.agg #[.int .i64 0, .int .i64 0]) 2 16 := .mk' Tryz.underlying26 (by kernel_rfl) rfl (by omega)
theorem flC_len (x : Fl) : (Fl.cells x).length = 2 := rfl
theorem flC_one (x : Fl) : ∀ u ∈ Fl.cells x, u.oneCell' = true := by intro u hu; simp [Fl.cells] at hu; rcases hu with rfl | rfl <;> rfl
theorem arr_get (l : List Fl) {i : Nat} (hi : i < l.length) : l.toArray[i]! = l[i] := by rw [getElem!_pos l.toArray i (by simpa using hi)]; simp
theorem OwnFl.parts {B : Nat} {w : World} {v : Value} {l : List Fl} (h : OwnFl B w v l) : (v = .slice none 0 0 ∧ l = []) ∨ ∃ g cap, v = .slice (some ⟨g, 0, none⟩) l.length cap ∧ B ≤ g ∧ g < w.heap.size ∧ l.length ≤ cap ∧ cap ≤ 9223372036854775807 ∧ RowFl w g l.toArray := by
  have h0 : w.ownsRow B FlT 2 v l.length (l.flatMap Fl.cells) := h
  rcases h0.2 with ⟨rfl, hn⟩ | ⟨g, cap, cur, rfl, hg, hh, h3, h4, h5, h6⟩
  · exact .inl ⟨rfl, List.eq_nil_of_length_eq_zero hn⟩
  · refine .inr ⟨g, cap, rfl, hg, (h0.lt g rfl).2, h3, h4, ?_⟩
    intro i hi
    have hi' : i < l.length := by simpa using hi
    have c (j : Nat) (u : Value) (hu : (Fl.cells l[i])[j]? = some u) : w.cell? ⟨g, i * 2 + j, none⟩ = some u := by
      have := h0.cells (g := g) rfl (i * 2 + j) u (flat_get (c := Fl.cells) (size := 2) l (fun _ _ => rfl) i hi' j u hu)
      rwa [show (⟨g, 0, none⟩ : Addr).add (i * 2 + j) = ⟨g, i * 2 + j, none⟩ by unfold Addr.add; split <;> simp_all] at this
    rw [arr_get l hi']
    exact ⟨c 0 _ rfl, c 1 _ rfl, frozen_of_row _ _ _ _ _ hh, frozen_of_row _ _ _ _ _ hh⟩
theorem rowFl_sl {w : World} {g : Nat} {d : Array Fl} (h : RowFl w g d) (hg : g < w.heap.size) : SlFl w w.heap.size (some ⟨g, 0, none⟩) d.toList := by
  intro k hk
  have hk' : k < d.size := by simpa using hk
  obtain ⟨h1, h2, _, _⟩ := h k hk'
  rw [getElem!_pos d k hk'] at h1 h2
  refine ⟨g, 0, _, rfl, hg, rfl, fun j u hu => ?_⟩
  rw [Nat.zero_add]
  match j, hu with
  | 0, hu => simp [Fl.cells] at hu; subst hu; exact h1
  | 1, hu => simp [Fl.cells] at hu; subst hu; exact h2
  | j + 2, hu => simp [Fl.cells] at hu

set_option maxHeartbeats 2000000 in
set_option maxRecDepth 100000 in
theorem compact_nil (w : World) : Calls Tryz.prog 29 #[.slice none 0 0] w fun e w' => e = .returned (.slice none 0 0) ∧ w' = w := by
  go_enter Tryz.func29, Tryz.ntmps29
  go_wp2_with fail
  go_ret
  exact ⟨rfl, rfl⟩
theorem sort_nil (fv : Value) (w : World) : Calls Tryz.prog 27 #[.slice none 0 0, fv] w fun e w' => e = .returned (.tuple #[]) ∧ w' = w :=
  AnyF.slices_SortFunc_none Tryz.sortFl none 0 fv w

set_option maxHeartbeats 8000000 in
set_option maxRecDepth 100000 in
theorem faults_Of (a : Option Addr) (l : List Fl) (cap : Nat) (hl : l.length ≤ 100000) (w : World) (hS : SlFl w w.heap.size a l) :
    Calls Tryz.prog 13 #[.slice a l.length cap] w fun e w' => ∃ a' cap', e = .returned (.slice a' (ofF l).length cap') ∧ (ofF l).length ≤ cap' ∧ SlFl w' w'.heap.size a' (ofF l) ∧ Below w.heap.size w w' := by
  have HR : Hid (ofF l = setS ltFl (l.filter flR)) := rfl
  generalize ofF l = R at HR ⊢
  have HS := Lib.hid hS
  clear hS
  go_enter Tryz.func13, Tryz.ntmps13
  go_wp2_with fail
  go_loopg [3, 8] l.length (fun g v i wr => ∃ (k : Nat) (out : List Fl), k + g = l.length ∧ i = .int .i64 k ∧ out.length ≤ k ∧ OwnFl w.heap.size wr v out ∧ Below w.heap.size w wr ∧ Hid (l.filter flR = out ++ (l.drop k).filter flR))
  case atStart => exact ⟨0, [], by omega, rfl, by simp, OwnC.nil _ _, Below.refl _ _, rfl⟩
  case round =>
    obtain ⟨k, out, hkg, rfl, hok, HO, hb, HU⟩ := hrel
    have HO := Lib.hid HO
    have HB := Lib.hid hb
    have HK := Lib.hid hkg
    by_cases hlt : k < l.length
    · obtain ⟨b, off, ha, hbb, c00, c01⟩ := SlR.atFl HS.out hlt
      subst ha
      have c0 : wr.cell? ⟨b, off + k * 2, none⟩ = some (.int .i64 l[k].scope) := (hb.cell (p := ⟨b, off + k * 2, none⟩) hbb).trans c00
      have c1 : wr.cell? ⟨b, off + k * 2 + 1, none⟩ = some (.int .i64 l[k].code) := (hb.cell (p := ⟨b, off + k * 2 + 1, none⟩) hbb).trans c01
      have hbx : b < wr.heap.size := Nat.lt_of_lt_of_le hbb hb.size
      have hd : l.drop k = l[k] :: l.drop (k + 1) := List.drop_eq_getElem_cons hlt
      have HT : Hid (flR l[k] = true → l.filter flR = (out ++ [l[k]]) ++ (l.drop (k + 1)).filter flR) := fun h => by rw [HU.out, hd, List.filter_cons_of_pos h]; simp
      have HF : Hid (flR l[k] = false → l.filter flR = out ++ (l.drop (k + 1)).filter flR) := fun h => by rw [HU.out, hd, List.filter_cons_of_neg (by simp [h])]
      clear hd c00 c01 hb hkg HU
      generalize l[k] = x at c0 c1 HT HF
      obtain ⟨s, c⟩ := x
      have HQ : Hid (∀ W, Calls Tryz.prog 26 #[.agg #[.int .i64 s, .int .i64 c]] W fun e w' => e = .returned (.bool (flR ⟨s, c⟩)) ∧ ∃ j, w' = W.more j) := faults_Right s c
      generalize flR ⟨s, c⟩ = r at HQ HT HF
      cases r
      · have HU2 := Lib.hid (HF.out rfl)
        clear HT HF
        go_wp2_with fail
        refine (HQ.out _).mono ?_
        rintro e w' ⟨rfl, j, rfl⟩
        go_wp2_with fail
        go_roundg (l.length - (k + 1))
        case measure => have := HK.out; omega
        case rel => exact ⟨k + 1, out, by have := HK.out; omega, by go_num, by omega, HO.out.below (C := wr.heap.size) bel (Nat.le_refl _), HB.out.trans (Below.mono (B := wr.heap.size) bel HB.out.size), HU2.out⟩
      · have HU2 := Lib.hid (HT.out rfl)
        clear HT HF
        go_wp2_with fail
        refine (HQ.out _).mono ?_
        rintro e w' ⟨rfl, j, rfl⟩
        go_wp2_with (at_builtin; refine app_c (y := ⟨s, c⟩) st_fl flC_len flC_one (by omega) (.tmp 14) (.tmp 16) rfl rfl rfl (HO.out.below (C := wr.heap.size) bel (Nat.le_refl _)) rfl (Blk.at_ _ _ _ (by simp)) rfl (by omega) (by have := HB.out.size; simp only [World.size_alloc, World.size_more]; omega) ?_; intro v' w2 hown hbw)
        have hb2 := HB.out.trans ((Below.mono (B := wr.heap.size) bel HB.out.size).trans hbw)
        have HB2 := Lib.hid hb2
        have HO2 := Lib.hid hown
        clear hbw hb2 hown
        go_wp2_with fail
        go_roundg (l.length - (k + 1))
        case measure => have := HK.out; omega
        case rel => exact ⟨k + 1, out ++ [⟨s, c⟩], by have := HK.out; omega, by go_num, by simp; omega, HO2.out, HB2.out, HU2⟩
    · have hU : l.filter flR = out := by rw [HU.out, List.drop_of_length_le (by omega)]; simp
      have hR : R = setS ltFl out := by rw [HR.out, hU]
      clear hU HU HR
      rcases OwnFl.parts HO.out with ⟨rfl, rfl⟩ | ⟨g, cp, rfl, hg1, hg2, hc1, hc2, hrow⟩
      · have hR : R = [] := by rw [hR]; rfl
        subst hR
        clear hb hkg
        go_wp2_with (first | (go_at_call 27; (with_reducible refine (sort_nil _ _).mono ?_); rintro e w' ⟨rfl, rfl⟩) | (go_at_call 29; (with_reducible refine (compact_nil _).mono ?_); rintro e w' ⟨rfl, rfl⟩))
        go_ret
        exact ⟨none, 0, rfl, Nat.le_refl _, .nil, HB.out⟩
      · have HSO := Lib.hid (sort_fl g cp w.heap.size out.toArray wr hg1 hg2 hrow (by simp; omega))
        have HCP : Hid (out.length ≤ cp ∧ cp ≤ 9223372036854775807) := ⟨hc1, hc2⟩
        have HG : Hid (w.heap.size ≤ g ∧ g < wr.heap.size) := ⟨hg1, hg2⟩
        have HM : Hid (out.length ≤ 100000) := Nat.le_trans hok (by omega)
        have HOO : Hid (∀ d' : Array Fl, d'.toList.Perm out.toArray.toList → d'.toList.Pairwise (fun a b => ltFl b a = false) → Lib.compactUpTo d' d'.size = R) := fun d' h1 h2 => by rw [hR]; exact comp_set h1 h2 (by simp)
        have hz : out.toArray.size = out.length := by simp
        generalize out.toArray = d at HSO HOO hz
        rw [← hz] at HCP HM ⊢
        clear hb hkg hrow hR hc1 hc2 HO hok hg1 hg2
        generalize hn : d.size = n at HSO HCP HM hz ⊢
        have HN := Lib.hid hn
        clear hz hn
        go_wp2_with fail
        refine HSO.out.mono ?_
        rintro e w1 ⟨rfl, ⟨d', hd1, hd2, hd3, hrow⟩, hb1, hs1⟩
        rw [HN.out] at hd1
        have HC := Lib.hid (compact_fl g cp w.heap.size d' w1 HG.out.1 (Nat.lt_of_lt_of_le HG.out.2 hs1) hrow (by rw [hd1]; have := HM.out; omega) (by rw [hd1]; exact HCP.out.1) HCP.out.2)
        have HX := Lib.hid (HOO.out d' hd2 hd3)
        have HB1 := Lib.hid (HB.out.trans hb1)
        rw [hd1] at HC HX
        clear hrow hd2 hd3 hb1
        go_wp2_with fail
        refine HC.out.mono ?_
        rintro e w2 ⟨rfl, ⟨d2, hrow, hd2⟩, hb2⟩
        rw [hd1, HX.out] at hd2
        have HD := Lib.hid hd2
        have HR := Lib.hid hrow
        have HB2 := Lib.hid (HB1.out.trans hb2)
        rw [hd1, HX.out]
        clear hd2 hrow
        go_wp2_with fail
        go_ret
        refine ⟨_, _, rfl, ?_, ?_, HB2.out⟩
        · rw [← HX.out]
          have := comp_len d' n
          have := HCP.out.1
          omega
        · rw [← HD.out]
          exact rowFl_sl HR.out (by have := HG.out.2; have := hb2.size; omega)
end Go.Proofs.YtjhhdgmhocpceaaGreatDoor
