/-
  Faults: sorted.
-/
import Derived.Test.YthbflllflnnipaaGreatDoorFlt2
import Derived.Test.YthbflllflnnipaaGreatDoorSort
namespace Go.Proofs.YthbflllflnnipaaGreatDoor
set_option linter.unusedSimpArgs false
set_option linter.unusedVariables false
set_option linter.unusedSectionVars false
open Go.ChangeShapes Go.WideShapes Go.ChangeAt Go.RowKit Go.Deep Go.Shelf
open Go.Sort (SWO)

set_option maxHeartbeats 2000000 in
set_option maxRecDepth 100000 in
theorem faults_Less0 (x y : Fl) (w : World) : Calls Tryz.prog 83 #[.agg #[.int .i64 x.scope, .int .i64 x.code], .agg #[.int .i64 y.scope, .int .i64 y.code]] w fun e w' => e = .returned (.bool (ltFl x y)) ∧ w' = (w.alloc (.cells #[.int .i64 x.scope, .int .i64 x.code] FlT)).alloc (.cells #[.int .i64 y.scope, .int .i64 y.code] FlT) := by
  obtain ⟨a, b⟩ := x
  obtain ⟨c, d⟩ := y
  have HR : Hid (ltFl ⟨a, b⟩ ⟨c, d⟩ = if a = c then decide (b < d) else decide (a < c)) := rfl
  generalize ltFl ⟨a, b⟩ ⟨c, d⟩ = R at HR ⊢
  simp only
  cases h1 : (a == c)
  · have h2 : (a != c) = true := by unfold bne; rw [h1]; rfl
    have hR : R = decide (a < c) := by rw [HR.out, if_neg (by simpa using h1)]
    subst hR
    clear HR
    go_enter Tryz.func83, Tryz.ntmps83
    go_wp2_with fail
    go_ret
    exact ⟨rfl, rfl⟩
  · obtain rfl : a = c := by simpa using h1
    have h2 : (a != a) = false := by simp
    have hR : R = decide (b < d) := by rw [HR.out, if_pos rfl]
    subst hR
    clear HR
    go_enter Tryz.func83, Tryz.ntmps83
    go_wp2_with fail
    go_ret
    exact ⟨rfl, rfl⟩
set_option maxHeartbeats 2000000 in
set_option maxRecDepth 100000 in
theorem faults_compare0 (x y : Fl) (w : World) : Calls Tryz.prog 104 #[.agg #[.int .i64 x.scope, .int .i64 x.code], .agg #[.int .i64 y.scope, .int .i64 y.code]] w fun e w' => e = .returned (.int .i64 (cmpFl x y)) ∧ ∃ os, w' = Go.Sort.grow w os := by
  have HL : Hid (∀ W, Calls Tryz.prog 83 #[.agg #[.int .i64 x.scope, .int .i64 x.code], .agg #[.int .i64 y.scope, .int .i64 y.code]] W fun e w' => e = .returned (.bool (ltFl x y)) ∧ w' = (W.alloc (.cells #[.int .i64 x.scope, .int .i64 x.code] FlT)).alloc (.cells #[.int .i64 y.scope, .int .i64 y.code] FlT)) := faults_Less0 x y
  have HQ := fun W => fl_eql x y W
  have HR : Hid (cmpFl x y = if flEq x y = true then 0 else if ltFl x y = true then -1 else 1) := by show _ = _; unfold cmpFl flEq; simp
  generalize cmpFl x y = R at HR ⊢
  generalize flEq x y = q at HQ HR
  generalize ltFl x y = t at HL HR
  cases q <;> cases t
  all_goals
    have hR := HR.out
    simp only [Bool.false_eq_true, if_false, if_true] at hR
    subst hR
    clear HR
    go_enter Tryz.func104, Tryz.ntmps104
    go_wp2_with (go_at_call 83; (with_reducible refine (HL.out _).mono ?_); rintro e w' ⟨rfl, rfl⟩)
    go_ret
    exact ⟨rfl, _, by simp only [Go.Sort.alloc_eq_grow, Go.Sort.grow_grow]; rfl⟩

theorem ltOf_cmp (x y : Fl) : ltOf cmpFl x y = ltFl x y := by
  unfold ltOf cmpFl
  by_cases h : x = y
  · subst h; simp [ordFl.irr]
  · rw [if_neg h]
    cases h2 : ltFl x y <;> simp
theorem ltOf_eq : ltOf cmpFl = ltFl := funext fun x => funext fun y => ltOf_cmp x y
theorem swoFl : SWO (ltOf cmpFl) := by
  rw [ltOf_eq]
  refine ⟨ordFl.irr, ordFl.tr, fun x y z h1 h2 => ?_⟩
  cases h : ltFl x z with
  | false => rfl
  | true =>
    by_cases e : x = y
    · subst e; rw [h2] at h; cases h
    · by_cases e2 : y = z
      · subst e2; rw [h1] at h; cases h
      · have a1 : ltFl y x = true := by rcases ordFl.tot x y e with h' | h'
                                        · rw [h1] at h'; cases h'
                                        · exact h'
        have a2 : ltFl z y = true := by rcases ordFl.tot y z e2 with h' | h'
                                        · rw [h2] at h'; cases h'
                                        · exact h'
        have := ordFl.tr _ _ _ (ordFl.tr _ _ _ a2 a1) h
        rw [ordFl.irr] at this; cases this
theorem flCells_one (x : Fl) : ∀ v ∈ Fl.cells x, v.oneCell' = true := by intro v hv; simp [Fl.cells] at hv; rcases hv with rfl | rfl <;> rfl
def SortPost (d : Array Fl) (g B : Nat) (w : World) (e : Ending) (w' : World) : Prop :=
  e = .returned (.tuple #[]) ∧ (∃ d' : Array Fl, d'.size = d.size ∧ d'.toList.Perm d.toList ∧ d'.toList.Pairwise (fun a b => ltFl b a = false) ∧ RowFl w' g d') ∧ Below B w w' ∧ w.heap.size ≤ w'.heap.size
theorem sort_fl (g cap B : Nat) (d : Array Fl) (w : World) (hB : B ≤ g) (hg : g < w.heap.size) (hH : RowFl w g d) (hsz : d.size ≤ 1048576) :
    Calls Tryz.prog 103 #[.slice (some ⟨g, 0, none⟩) d.size cap, .func (.func 104) #[] #[]] w (SortPost d g B w) := by
  have eg : ∀ args w, (callFunc 104 args).run Tryz.prog w = .ok (.enter 104 args) w := enters_of Tryz.func104 (by kernel_rfl) rfl
  have hc : CmpLays Tryz.prog 104 #[] Fl.cells 2 cmpFl g 0 d.size w := fun m os dk _ x y =>
    (faults_compare0 x y _).mono fun e w' ⟨he, os', hw⟩ => ⟨he, 0, os', hw⟩
  have h := AnyQ.slices_SortFunc Tryz.sortFl 2 Tryz.isAgg88 Tryz.sizeOf88 Fl.cells (fun _ => rfl) flCells_one cmpFl swoFl 104 #[] g 0 cap d w eg hc (rowFl_holds hH) hg (by omega)
  refine Calls.mono h fun e w' ⟨he, d', n, os, hp, hs, hw⟩ => ?_
  rw [ltOf_eq] at hs
  have hsize := hp.1
  refine ⟨he, ⟨d', hsize, ?_, ?_, ?_⟩, ?_, ?_⟩
  · have := hp.2.2
    rwa [← hsize, Array.extract_size, hsize, Array.extract_size] at this
  · rw [List.pairwise_iff_getElem]
    intro i j hi hj hij
    have hj' : j < d'.size := by simpa using hj
    have hi' : i < d'.size := by omega
    have := hs i j (Nat.zero_le _) hij (by omega)
    rw [getElem!_pos d' i hi', getElem!_pos d' j hj'] at this
    simpa using this
  · rw [hw]
    exact holds_rowFl (Go.Sort.holdsK_grow (enc := Fl.cells) (k := 2) _ os g 0 d' (by simpa [Go.Sort.putRowK, Go.Sort.ahead] using hg) (Go.Sort.holdsK_putRowK (enc := Fl.cells) (k := 2) _ g 0 d d' (rowFl_holds hH) hsize))
  · rw [hw]
    refine ⟨rfl, rfl, rfl, ?_, fun k hk => ?_⟩
    · show w.heap.size ≤ ((w.heap.modify g _) ++ os).size
      simp
    · show ((w.heap.modify g _) ++ os)[k]? = w.heap[k]?
      have hkg : k < w.heap.size := by omega
      rw [Array.getElem?_append_left (by simpa using hkg), Array.getElem?_modify, if_neg (by omega)]
  · rw [hw]
    show w.heap.size ≤ ((w.heap.modify g _) ++ os).size
    simp
theorem comp_mem (d : Array Fl) : ∀ (m : Nat) (x : Fl), x ∈ Lib.compactUpTo d m ↔ ∃ j, j < m ∧ d[j]! = x
  | 0, x => by simp [Lib.compactUpTo]
  | m + 1, x => by
    rw [Lib.compactUpTo_succ, List.mem_append, comp_mem d m x]
    constructor
    · rintro (⟨j, hj, h⟩ | h)
      · exact ⟨j, by omega, h⟩
      · split at h
        · simp at h; exact ⟨m, by omega, h.symm⟩
        · simp at h
    · rintro ⟨j, hj, h⟩
      by_cases hjm : j = m
      · subst hjm
        cases hk : Lib.keeps d j with
        | true => right; simp [h]
        | false =>
          left
          have hn : ¬ (j = 0 ∨ d[j]! ≠ d[j - 1]!) := by simpa [Lib.keeps] using hk
          have h0 : j ≠ 0 := fun e => hn (.inl e)
          have h1 : d[j]! = d[j - 1]! := Decidable.byContradiction fun e => hn (.inr e)
          exact ⟨j - 1, by omega, by rw [← h1, h]⟩
      · exact .inl ⟨j, by omega, h⟩
theorem comp_strict (d : Array Fl) (hs : ∀ i j, i < j → j < d.size → ltFl d[j]! d[i]! = false) : ∀ m, m ≤ d.size → Strict ltFl (Lib.compactUpTo d m)
  | 0, _ => by simp [Lib.compactUpTo, Strict]
  | m + 1, hm => by
    have ih := comp_strict d hs m (by omega)
    rw [Lib.compactUpTo_succ]
    split
    · rename_i hk
      refine List.pairwise_append.2 ⟨ih, by simp, fun y hy z hz => ?_⟩
      simp at hz
      subst hz
      obtain ⟨j, hj, rfl⟩ := (comp_mem d m y).1 hy
      have hk' : m = 0 ∨ d[m]! ≠ d[m - 1]! := by simpa [Lib.keeps] using hk
      have h0 : d[m]! ≠ d[m - 1]! := by rcases hk' with h | h
                                        · omega
                                        · exact h
      have h1 := hs j m hj (by omega)
      have hlt : ltFl d[m - 1]! d[m]! = true := by
        rcases ordFl.tot _ _ (Ne.symm h0) with h | h
        · exact h
        · rw [hs (m - 1) m (by omega) (by omega)] at h; cases h
      by_cases e : j = m - 1
      · rw [e]; exact hlt
      · have h2 := hs j (m - 1) (by omega) (by omega)
        by_cases e2 : d[j]! = d[m]!
        · rw [e2, hlt] at h2 <;> cases h2
        · rcases ordFl.tot _ _ e2 with h | h
          · exact h
          · rw [h1] at h; cases h
    · simpa using ih
theorem comp_set {d d' : Array Fl} {l : List Fl} (hp : d'.toList.Perm d.toList) (hs : d'.toList.Pairwise (fun a b => ltFl b a = false)) (hl : d.toList = l) : Lib.compactUpTo d' d'.size = setS ltFl l := by
  refine strict_ext ordFl _ _ (comp_strict d' (fun i j hij hj => ?_) _ (Nat.le_refl _)) (strict_setS ordFl l) (fun x => ?_)
  · rw [List.pairwise_iff_getElem] at hs
    have := hs i j (by simp; omega) (by simpa using hj) hij
    rw [getElem!_pos d' i (by omega), getElem!_pos d' j hj]
    simpa using this
  · rw [comp_mem, mem_setS, ← hl, ← hp.mem_iff]
    constructor
    · rintro ⟨j, hj, rfl⟩
      rw [getElem!_pos d' j hj]; simp
    · intro h
      obtain ⟨j, hj, rfl⟩ := List.getElem_of_mem h
      exact ⟨j, by simpa using hj, by rw [getElem!_pos d' j (by simpa using hj)]; simp⟩
end Go.Proofs.YthbflllflnnipaaGreatDoor
