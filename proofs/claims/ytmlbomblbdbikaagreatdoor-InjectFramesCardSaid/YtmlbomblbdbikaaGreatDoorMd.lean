/-
  Parts of the proof, one behind the other: contracts of the program and plain laws; no condition of their own.
-/
import Derived.Test.YtmlbomblbdbikaaGreatDoorMb
import Derived.BigGuardPart
import Derived.Laws.Tables
import Derived.Deep.LoopGhost
import Derived.Deep.Draws
/-
  Field blocks, in plain words: the fields that every table begins with; a whole block.
-/
namespace Go.Proofs.YtmlbomblbdbikaaGreatDoor
set_option linter.unusedSimpArgs false
set_option linter.unusedVariables false
set_option linter.unusedSectionVars false

def staL : List (List UInt8 × List UInt8) :=
  [([58, 97, 117, 116, 104, 111, 114, 105, 116, 121], []),
   ([58, 109, 101, 116, 104, 111, 100], [71, 69, 84]),
   ([58, 109, 101, 116, 104, 111, 100], [80, 79, 83, 84]),
   ([58, 112, 97, 116, 104], [47]),
   ([58, 112, 97, 116, 104], [47, 105, 110, 100, 101, 120, 46, 104, 116, 109, 108]),
   ([58, 115, 99, 104, 101, 109, 101], [104, 116, 116, 112]),
   ([58, 115, 99, 104, 101, 109, 101], [104, 116, 116, 112, 115]),
   ([58, 115, 116, 97, 116, 117, 115], [50, 48, 48]),
   ([58, 115, 116, 97, 116, 117, 115], [50, 48, 52]),
   ([58, 115, 116, 97, 116, 117, 115], [50, 48, 54]),
   ([58, 115, 116, 97, 116, 117, 115], [51, 48, 52]),
   ([58, 115, 116, 97, 116, 117, 115], [52, 48, 48]),
   ([58, 115, 116, 97, 116, 117, 115], [52, 48, 52]),
   ([58, 115, 116, 97, 116, 117, 115], [53, 48, 48]),
   ([97, 99, 99, 101, 112, 116, 45, 99, 104, 97, 114, 115, 101, 116], []),
   ([97, 99, 99, 101, 112, 116, 45, 101, 110, 99, 111, 100, 105, 110, 103], [103, 122, 105, 112, 44, 32, 100, 101, 102, 108, 97, 116, 101]),
   ([97, 99, 99, 101, 112, 116, 45, 108, 97, 110, 103, 117, 97, 103, 101], []),
   ([97, 99, 99, 101, 112, 116, 45, 114, 97, 110, 103, 101, 115], []),
   ([97, 99, 99, 101, 112, 116], []),
   ([97, 99, 99, 101, 115, 115, 45, 99, 111, 110, 116, 114, 111, 108, 45, 97, 108, 108, 111, 119, 45, 111, 114, 105, 103, 105, 110], []),
   ([97, 103, 101], []),
   ([97, 108, 108, 111, 119], []),
   ([97, 117, 116, 104, 111, 114, 105, 122, 97, 116, 105, 111, 110], []),
   ([99, 97, 99, 104, 101, 45, 99, 111, 110, 116, 114, 111, 108], []),
   ([99, 111, 110, 116, 101, 110, 116, 45, 100, 105, 115, 112, 111, 115, 105, 116, 105, 111, 110], []),
   ([99, 111, 110, 116, 101, 110, 116, 45, 101, 110, 99, 111, 100, 105, 110, 103], []),
   ([99, 111, 110, 116, 101, 110, 116, 45, 108, 97, 110, 103, 117, 97, 103, 101], []),
   ([99, 111, 110, 116, 101, 110, 116, 45, 108, 101, 110, 103, 116, 104], []),
   ([99, 111, 110, 116, 101, 110, 116, 45, 108, 111, 99, 97, 116, 105, 111, 110], []),
   ([99, 111, 110, 116, 101, 110, 116, 45, 114, 97, 110, 103, 101], []),
   ([99, 111, 110, 116, 101, 110, 116, 45, 116, 121, 112, 101], []),
   ([99, 111, 111, 107, 105, 101], []),
   ([100, 97, 116, 101], []),
   ([101, 116, 97, 103], []),
   ([101, 120, 112, 101, 99, 116], []),
   ([101, 120, 112, 105, 114, 101, 115], []),
   ([102, 114, 111, 109], []),
   ([104, 111, 115, 116], []),
   ([105, 102, 45, 109, 97, 116, 99, 104], []),
   ([105, 102, 45, 109, 111, 100, 105, 102, 105, 101, 100, 45, 115, 105, 110, 99, 101], []),
   ([105, 102, 45, 110, 111, 110, 101, 45, 109, 97, 116, 99, 104], []),
   ([105, 102, 45, 114, 97, 110, 103, 101], []),
   ([105, 102, 45, 117, 110, 109, 111, 100, 105, 102, 105, 101, 100, 45, 115, 105, 110, 99, 101], []),
   ([108, 97, 115, 116, 45, 109, 111, 100, 105, 102, 105, 101, 100], []),
   ([108, 105, 110, 107], []),
   ([108, 111, 99, 97, 116, 105, 111, 110], []),
   ([109, 97, 120, 45, 102, 111, 114, 119, 97, 114, 100, 115], []),
   ([112, 114, 111, 120, 121, 45, 97, 117, 116, 104, 101, 110, 116, 105, 99, 97, 116, 101], []),
   ([112, 114, 111, 120, 121, 45, 97, 117, 116, 104, 111, 114, 105, 122, 97, 116, 105, 111, 110], []),
   ([114, 97, 110, 103, 101], []),
   ([114, 101, 102, 101, 114, 101, 114], []),
   ([114, 101, 102, 114, 101, 115, 104], []),
   ([114, 101, 116, 114, 121, 45, 97, 102, 116, 101, 114], []),
   ([115, 101, 114, 118, 101, 114], []),
   ([115, 101, 116, 45, 99, 111, 111, 107, 105, 101], []),
   ([115, 116, 114, 105, 99, 116, 45, 116, 114, 97, 110, 115, 112, 111, 114, 116, 45, 115, 101, 99, 117, 114, 105, 116, 121], []),
   ([116, 114, 97, 110, 115, 102, 101, 114, 45, 101, 110, 99, 111, 100, 105, 110, 103], []),
   ([117, 115, 101, 114, 45, 97, 103, 101, 110, 116], []),
   ([118, 97, 114, 121], []),
   ([118, 105, 97], []),
   ([119, 119, 119, 45, 97, 117, 116, 104, 101, 110, 116, 105, 99, 97, 116, 101], [])]
/-- The field at a place of the static table. -/
def staF (i : Int) : Option (List UInt8 × List UInt8) := if i < 1 then none else staL[(i - 1).toNat]?
/-- The field at a place. -/
def atF (L : List Fd) (i : Int) : Option Fd := if i ≤ 61 then (staF i).map (fun p => ⟨p.1, p.2, false⟩) else L[(i - 62).toNat]?
/-- What is read of a block: its fields, its sizes, the table, and what its weights come to at most. -/
structure Dc where
  fields : List Fd
  sizes : List Int
  tab : List Fd
  max : Int
def baseFd (L : List Fd) (r : Rp) : Option Fd := if 0 < r.index then atF L r.index else some ⟨r.name, [], false⟩
def fullFd (r : Rp) (g : Fd) : Fd := if r.kind = 1 then g else ⟨g.name, r.value, decide (r.kind = 4)⟩
def stepDc (s : Dc) (r : Rp) : Dc × Int :=
  if r.kind = 5 then (if s.fields = [] then ({ s with sizes := s.sizes ++ [r.size], tab := fitF s.tab r.size, max := r.size }, 0) else (s, 13))
  else match baseFd s.tab r with
    | none => (s, 12)
    | some g => ({ s with fields := s.fields ++ [fullFd r g], tab := if r.kind = 2 then addF s.tab s.max (fullFd r g) else s.tab }, 0)
def decGo : Nat → List UInt8 → Dc → Dc × Int
  | 0, _, s => (s, 0)
  | f + 1, l, s =>
    if l = [] then (s, 0)
    else if (repF l).2.2 ≠ 0 then (s, (repF l).2.2)
    else if (stepDc s (repF l).1).2 ≠ 0 then (s, (stepDc s (repF l).1).2)
    else decGo f (l.drop (repF l).2.1.toNat) (stepDc s (repF l).1).1
/-- A block read with a table: the outcome, or the error. -/
def decF (T : List Fd) (max : Int) (l : List UInt8) : Dc × Int := decGo (l.length + 1) l ⟨[], [], T, max⟩
theorem decGo_nil (f : Nat) (s : Dc) : decGo f [] s = (s, 0) := by cases f <;> simp [decGo]
theorem staL_len : staL.length = 61 := by decide
theorem sta_some {i : Int} (h : 1 ≤ i ∧ i ≤ 61) : ∃ p, staF i = some p := by
  unfold staF
  rw [if_neg (by omega)]
  exact ⟨_, List.getElem?_eq_getElem (by rw [staL_len]; omega)⟩
theorem sta_small : ∀ p ∈ staL, p.1.length ≤ 64 ∧ p.2.length ≤ 64 := by decide
theorem sta_len {i : Int} {p : List UInt8 × List UInt8} (h : staF i = some p) : p.1.length ≤ 64 ∧ p.2.length ≤ 64 ∧ 1 ≤ i ∧ i ≤ 61 := by
  unfold staF at h
  split at h
  · cases h
  · obtain ⟨hl, rfl⟩ := List.getElem?_eq_some_iff.1 h
    rw [staL_len] at hl
    have := sta_small _ (List.getElem_mem hl)
    omega
/-! Bounds of what is read. -/
def FdB (N : Nat) (f : Fd) : Prop := f.name.length ≤ N ∧ f.value.length ≤ N
theorem add_sub {L : List Fd} {max : Int} {f g : Fd} (h : g ∈ addF L max f) : g = ⟨f.name, f.value, false⟩ ∨ g ∈ L := by
  unfold addF at h
  split at h
  · simp at h
  · rcases List.mem_cons.1 h with rfl | h
    · exact .inl rfl
    · exact .inr (fit_sub _ _ _ h)
theorem base_bound {N : Nat} {L : List Fd} {r : Rp} {g : Fd} (h64 : 64 ≤ N) (hL : ∀ f ∈ L, FdB N f) (hr : r.name.length ≤ N) (h : baseFd L r = some g) : FdB N g := by
  unfold baseFd at h
  split at h
  · unfold atF at h
    split at h
    · cases hs : staF r.index with
      | none => rw [hs] at h; cases h
      | some p =>
        rw [hs] at h
        injection h with h
        subst h
        have := sta_len hs
        exact ⟨by simp only; omega, by simp only; omega⟩
    · obtain ⟨hl, rfl⟩ := List.getElem?_eq_some_iff.1 h
      exact hL _ (List.getElem_mem hl)
  · injection h with h
    subst h
    exact ⟨hr, Nat.zero_le _⟩
theorem full_bound {N : Nat} {r : Rp} {g : Fd} (hg : FdB N g) (hr : r.value.length ≤ N) : FdB N (fullFd r g) := by
  unfold fullFd
  split
  · exact hg
  · exact ⟨hg.1, hr⟩
/-- All texts within N; the table's weights come to at most max. -/
structure DcOk (N : Nat) (s : Dc) : Prop where
  fields : ∀ f ∈ s.fields, FdB N f
  tab : ∀ f ∈ s.tab, FdB N f
  fit : sizF s.tab ≤ s.max
  lo : 0 ≤ s.max
  hi : s.max ≤ 2147483647
theorem step_ok {N : Nat} {s : Dc} {r : Rp} {l : List UInt8} {p : Int × Int} (h64 : 64 ≤ N) (hs : DcOk N s) (hr : RpOk l (r, p)) (hl : 8 * l.length ≤ N) (h : (stepDc s r).2 = 0) : DcOk N (stepDc s r).1 := by
  obtain ⟨_, _, hi1, hi2, hz1, hz2, hn, hv⟩ := hr
  simp only at hi1 hi2 hz1 hz2 hn hv
  unfold stepDc at h ⊢
  split at h
  · rename_i h5
    rw [if_pos h5]
    split at h
    · rename_i h6
      rw [if_pos h6]
      exact ⟨hs.fields, fun f hf => hs.tab f (fit_sub _ _ f hf), fit_siz _ _ hz1, hz1, hz2⟩
    · simp at h
  · rename_i h5
    rw [if_neg h5]
    cases hb : baseFd s.tab r with
    | none => rw [hb] at h; simp at h
    | some g =>
      have hg := base_bound h64 hs.tab (by omega) hb
      have hf := full_bound (r := r) hg (by omega)
      refine ⟨fun f hm => ?_, fun f hm => ?_, ?_, hs.lo, hs.hi⟩
      · rcases List.mem_append.1 hm with hm | hm
        · exact hs.fields f hm
        · rw [List.mem_singleton.1 hm]; exact hf
      · simp only at hm
        split at hm
        · rcases add_sub hm with rfl | hm
          · exact hf
          · exact hs.tab f hm
        · exact hs.tab f hm
      · simp only
        split
        · have hlo := hs.lo
          have hw := wgt_pos (fullFd r g)
          unfold addF
          split
          · simpa [sizF] using hlo
          · rename_i hc
            have := fit_siz s.tab (s.max - wgtF (fullFd r g)) (by omega)
            have e : wgtF ⟨(fullFd r g).name, (fullFd r g).value, false⟩ = wgtF (fullFd r g) := rfl
            simp only [sizF, e]
            omega
        · exact hs.fit
/-! What Huffman's code is. -/
theorem find_at : (List.range 31).all (fun n => (List.range (hrow n).length).all (fun k => horder.getD (hbase n + k) 0 == (hrow n).getD k 0 && hcode ((hrow n).getD k 0) == hfirst n + k && hlens.getD ((hrow n).getD k 0) 0 == n && decide ((hrow n).getD k 0 < 257))) = true := by decide +kernel
theorem find_code : (List.range 257).all (fun s => findH (hcode s) (hlens.getD s 0) == some s) = true := by decide +kernel
theorem horder_len : horder.length = 257 := by decide +kernel
theorem find_row {code n : Int} {s : Nat} (h : findH code n = some s) : 1 ≤ n ∧ n ≤ 30 ∧ (hfirst n.toNat : Int) ≤ code ∧ (code - hfirst n.toNat).toNat < (hrow n.toNat).length ∧ (hrow n.toNat).getD (code - hfirst n.toNat).toNat 0 = s := by
  unfold findH at h
  split at h
  · cases h
  · rename_i hc
    obtain ⟨hl, he⟩ := List.getElem?_eq_some_iff.1 h
    refine ⟨by omega, by omega, by omega, hl, ?_⟩
    rw [List.getD_eq_getElem?_getD, List.getElem?_eq_getElem hl]
    exact he
theorem find_sym {code n : Int} {s : Nat} (h : findH code n = some s) : s < 257 ∧ (hcode s : Int) = code ∧ (hlens.getD s 0 : Int) = n := by
  obtain ⟨h1, h2, h3, h4, h5⟩ := find_row h
  have a := List.all_eq_true.1 (List.all_eq_true.1 find_at n.toNat (List.mem_range.2 (by omega))) _ (List.mem_range.2 h4)
  rw [h5] at a
  simp only [Bool.and_eq_true, beq_iff_eq, decide_eq_true_eq] at a
  omega
theorem find_of {code n : Int} {s : Nat} (hs : s < 257) (hc : (hcode s : Int) = code) (hn : (hlens.getD s 0 : Int) = n) : findH code n = some s := by
  have a := List.all_eq_true.1 find_code s (List.mem_range.2 hs)
  rw [← hc, ← hn]
  simpa using a
theorem find_order {code n : Int} {s : Nat} (h : findH code n = some s) : horder.getD (hbase n.toNat + (code - hfirst n.toNat).toNat) 0 = s := by
  obtain ⟨h1, h2, h3, h4, h5⟩ := find_row h
  have a := List.all_eq_true.1 (List.all_eq_true.1 find_at n.toNat (List.mem_range.2 (by omega))) _ (List.mem_range.2 h4)
  simp only [Bool.and_eq_true, beq_iff_eq] at a
  rw [a.1.1.1, h5]
end Go.Proofs.YtmlbomblbdbikaaGreatDoor
/-
  The fields that every table begins with: both roads.
-/
namespace Go.Proofs.YtmlbomblbdbikaaGreatDoor
set_option linter.unusedSimpArgs false
set_option linter.unusedVariables false
set_option linter.unusedSectionVars false
open Go.ChangeShapes Go.WideShapes Go.ChangeAt Go.RowKit Go.Deep

def nmF (i : Int) : List UInt8 := ((staF i).map (·.1)).getD []
def svlF (i : Int) : List UInt8 := ((staF i).map (·.2)).getD []
theorem sta_out {i : Int} (h : i < 1 ∨ 61 < i) : staF i = none := by
  unfold staF
  split
  · rfl
  · exact List.getElem?_eq_none (by rw [staL_len]; omega)
theorem nm_out {i : Int} (h : i < 1 ∨ 61 < i) : nmF i = [] := by unfold nmF; rw [sta_out h]; rfl
theorem vl_out {i : Int} (h : i < 1 ∨ 61 < i) : svlF i = [] := by unfold svlF; rw [sta_out h]; rfl
theorem nm_in {i : Int} (h : 1 ≤ i ∧ i ≤ 61) : nmF i ≠ [] := by
  have k : ∀ n : Fin 61, nmF ((n.val : Int) + 1) ≠ [] := by decide +kernel
  have := k ⟨(i - 1).toNat, by omega⟩
  rwa [show (((i - 1).toNat : Int) + 1) = i by omega] at this
theorem sta_eq {i : Int} (h : 1 ≤ i ∧ i ≤ 61) : staF i = some (nmF i, svlF i) := by
  obtain ⟨p, hp⟩ := sta_some h
  unfold nmF svlF
  rw [hp]
  rfl
set_option maxHeartbeats 8000000 in
set_option maxRecDepth 100000 in
theorem ref20_later (i : Int) (h : 36 ≤ i ∧ i ≤ 61) (w : World) : Calls Tryz.prog 136 #[.int .i64 i] w fun e w' => e = .returned (bstr (nmF i)) ∧ ∃ j, w' = w.more j := by
  have HP : Hid (∀ l, i = 0 ∨ l = nmF i → l = nmF i) := by intro l hl; rcases hl with h0 | h0; exact absurd h0 (by omega); exact h0
  obtain ⟨L, hL⟩ : ∃ L, L = nmF i := ⟨_, rfl⟩
  rw [← hL]
  have HL := Lib.hid hL
  have HB := Lib.hid h
  clear hL HP h
  go_enter Tryz.func136, Tryz.ntmps136
  go_wp2_with fail
  all_goals
    go_ret
    refine ⟨?_, Below.junk bel⟩
    first
      | (rw [HL.out]; simp only [beq_iff_eq] at *; subst_vars; rfl)
      | (exfalso; have := HB.out; simp only [beq_eq_false_iff_ne, ne_eq] at *; omega)
set_option maxHeartbeats 8000000 in
set_option maxRecDepth 100000 in
theorem ref20_name (i : Int) (h : 1 ≤ i ∧ i ≤ 61) (w : World) : Calls Tryz.prog 123 #[.int .i64 i] w fun e w' => e = .returned (bstr (nmF i)) ∧ ∃ j, w' = w.more j := by
  have HT : Hid (36 ≤ i → ∀ W, Calls Tryz.prog 136 #[.int .i64 i] W fun e w' => e = .returned (bstr (nmF i)) ∧ ∃ j, w' = W.more j) := fun hi => ref20_later i ⟨hi, h.2⟩
  obtain ⟨L, hL⟩ : ∃ L, L = nmF i := ⟨_, rfl⟩
  rw [← hL] at HT ⊢
  have HL := Lib.hid hL
  clear hL
  by_cases h36 : 36 ≤ i
  · have HT1 := Lib.hid (HT.out h36)
    have n1 : ¬ i = 1 := by omega
    have n2 : ¬ i = 2 := by omega
    have n3 : ¬ i = 3 := by omega
    have n4 : ¬ i = 4 := by omega
    have n5 : ¬ i = 5 := by omega
    have n6 : ¬ i = 6 := by omega
    have n7 : ¬ i = 7 := by omega
    have n8 : ¬ i = 8 := by omega
    have n9 : ¬ i = 9 := by omega
    have n10 : ¬ i = 10 := by omega
    have n11 : ¬ i = 11 := by omega
    have n12 : ¬ i = 12 := by omega
    have n13 : ¬ i = 13 := by omega
    have n14 : ¬ i = 14 := by omega
    have n15 : ¬ i = 15 := by omega
    have n16 : ¬ i = 16 := by omega
    have n17 : ¬ i = 17 := by omega
    have n18 : ¬ i = 18 := by omega
    have n19 : ¬ i = 19 := by omega
    have n20 : ¬ i = 20 := by omega
    have n21 : ¬ i = 21 := by omega
    have n22 : ¬ i = 22 := by omega
    have n23 : ¬ i = 23 := by omega
    have n24 : ¬ i = 24 := by omega
    have n25 : ¬ i = 25 := by omega
    have n26 : ¬ i = 26 := by omega
    have n27 : ¬ i = 27 := by omega
    have n28 : ¬ i = 28 := by omega
    have n29 : ¬ i = 29 := by omega
    have n30 : ¬ i = 30 := by omega
    have n31 : ¬ i = 31 := by omega
    have n32 : ¬ i = 32 := by omega
    have n33 : ¬ i = 33 := by omega
    have n34 : ¬ i = 34 := by omega
    have n35 : ¬ i = 35 := by omega
    clear h h36 HT
    go_enter Tryz.func123, Tryz.ntmps123
    go_wp2_with (go_at_call 136; (with_reducible refine (HT1.out _).mono ?_); rintro e w' ⟨rfl, j, rfl⟩)
    go_ret
    exact ⟨rfl, Below.junk bel⟩
  · have HB : Hid (1 ≤ i ∧ i ≤ 35) := ⟨h.1, by omega⟩
    clear h h36 HT
    go_enter Tryz.func123, Tryz.ntmps123
    go_wp2_with fail
    all_goals
      first
        | (go_ret
           refine ⟨?_, Below.junk bel⟩
           rw [HL.out]; simp only [beq_iff_eq] at *; subst_vars; rfl)
        | (exfalso; have := HB.out; simp only [beq_eq_false_iff_ne, ne_eq] at *; omega)
set_option maxHeartbeats 8000000 in
set_option maxRecDepth 100000 in
theorem ref20_value (i : Int) (h : 1 ≤ i ∧ i ≤ 61) (w : World) : Calls Tryz.prog 124 #[.int .i64 i] w fun e w' => e = .returned (bstr (svlF i)) ∧ ∃ j, w' = w.more j := by
  have HD : Hid (∀ n : Fin 62, ¬ (2 ≤ n.val ∧ n.val ≤ 14) → ¬ n.val = 16 → svlF n.val = []) := by show ∀ _, _; decide +kernel
  obtain ⟨L, hL⟩ : ∃ L, L = svlF i := ⟨_, rfl⟩
  rw [← hL]
  have HL := Lib.hid hL
  have HB := Lib.hid h
  clear hL h
  go_enter Tryz.func124, Tryz.ntmps124
  go_wp2_with fail
  all_goals
    go_ret
    refine ⟨?_, Below.junk bel⟩
    first
      | (rw [HL.out]; simp only [beq_iff_eq] at *; subst_vars; rfl)
      | (rw [HL.out]
         have hb := HB.out
         simp only [beq_eq_false_iff_ne, ne_eq] at *
         have := HD.out ⟨i.toNat, by omega⟩ (by simp only; omega) (by simp only; omega)
         simp only at this
         rw [show ((i.toNat : Nat) : Int) = i by omega] at this
         rw [this]; rfl)
end Go.Proofs.YtmlbomblbdbikaaGreatDoor
/-
  The program's static table: its two lists.
-/
namespace Go.Proofs.YtmlbomblbdbikaaGreatDoor
set_option linter.unusedSimpArgs false
set_option linter.unusedVariables false
set_option linter.unusedSectionVars false
open Go.ChangeShapes Go.WideShapes Go.ChangeAt Go.RowKit Go.Deep

theorem wpList_buildC {P : Program} {ops : Array Oper} {rest : List Oper} {o : Oper} {a : Act} {w : World} {Q : Exit → Act → World → Prop} (hg : o.guard = none) (t : TypeId) (parts : Array (Nat × Operand)) (ho : o.op = .build t parts) (cells : Array Value)
    (hf : P.built t (parts.map fun (i, x) => (i, a.eval x)).toList = some cells) (h : wpList P ops Q rest (a.put o.dst (.agg cells)) w) : wpList P ops Q (o :: rest) a w :=
  wpList_build hg t parts ho (by rw [hf]; rfl) (by rw [hf]; exact h)
theorem row_newC (w : World) (t : TypeId) (a b : Array Value) : (w.alloc (.cells a t)).setRow w.heap.size b = w.alloc (.cells b t) := by
  unfold World.setRow World.alloc
  congr 1
  apply Array.ext_getElem?
  intro i
  rw [Array.getElem?_modify, Array.getElem?_push, Array.getElem?_push]
  by_cases h : w.heap.size = i
  · subst h; simp
  · rw [if_neg h, if_neg (fun e => h e.symm), if_neg (fun e => h e.symm)]
def comC : Array Value := ((staL.take 14).flatMap fun p => [bstr p.1, bstr p.2]).toArray
def plaC : Array Value := ((staL.drop 14).map fun p => bstr p.1).toArray
abbrev CoT : TypeId := 184
abbrev PrT : TypeId := 183
abbrev PlT : TypeId := 186
set_option maxHeartbeats 4000000 in
set_option maxRecDepth 100000 in
theorem sta_common (w : World) : Calls Tryz.prog 138 #[] w fun e w' => e = .returned (.agg comC) ∧ ∃ j, w' = w.more j := by
  obtain ⟨CA, hCA⟩ : ∃ CA, CA = comC := ⟨_, rfl⟩
  have HCA := Lib.hid hCA
  have HSZ : Hid (CA.size = 28) := by show _ = _; rw [hCA]; decide +kernel
  have HAL : Hid (CA.all (·.oneCell') = true) := by show _ = _; rw [hCA]; decide +kernel
  rw [← hCA]
  clear hCA
  go_enter Tryz.func138, Tryz.ntmps138
  go_wp2_with (
    (refine wpList_buildC rfl PrT _ rfl #[bstr [58, 97, 117, 116, 104, 111, 114, 105, 116, 121], bstr []] (by kernel_rfl) ?_);
    (refine wpList_buildC rfl PrT _ rfl #[bstr [58, 109, 101, 116, 104, 111, 100], bstr [71, 69, 84]] (by kernel_rfl) ?_);
    (refine wpList_buildC rfl PrT _ rfl #[bstr [58, 109, 101, 116, 104, 111, 100], bstr [80, 79, 83, 84]] (by kernel_rfl) ?_);
    (refine wpList_buildC rfl PrT _ rfl #[bstr [58, 112, 97, 116, 104], bstr [47]] (by kernel_rfl) ?_);
    (refine wpList_buildC rfl PrT _ rfl #[bstr [58, 112, 97, 116, 104], bstr [47, 105, 110, 100, 101, 120, 46, 104, 116, 109, 108]] (by kernel_rfl) ?_);
    (refine wpList_buildC rfl PrT _ rfl #[bstr [58, 115, 99, 104, 101, 109, 101], bstr [104, 116, 116, 112]] (by kernel_rfl) ?_);
    (refine wpList_buildC rfl PrT _ rfl #[bstr [58, 115, 99, 104, 101, 109, 101], bstr [104, 116, 116, 112, 115]] (by kernel_rfl) ?_);
    (refine wpList_buildC rfl PrT _ rfl #[bstr [58, 115, 116, 97, 116, 117, 115], bstr [50, 48, 48]] (by kernel_rfl) ?_);
    (refine wpList_buildC rfl PrT _ rfl #[bstr [58, 115, 116, 97, 116, 117, 115], bstr [50, 48, 52]] (by kernel_rfl) ?_);
    (refine wpList_buildC rfl PrT _ rfl #[bstr [58, 115, 116, 97, 116, 117, 115], bstr [50, 48, 54]] (by kernel_rfl) ?_);
    (refine wpList_buildC rfl PrT _ rfl #[bstr [58, 115, 116, 97, 116, 117, 115], bstr [51, 48, 52]] (by kernel_rfl) ?_);
    (refine wpList_buildC rfl PrT _ rfl #[bstr [58, 115, 116, 97, 116, 117, 115], bstr [52, 48, 48]] (by kernel_rfl) ?_);
    (refine wpList_buildC rfl PrT _ rfl #[bstr [58, 115, 116, 97, 116, 117, 115], bstr [52, 48, 52]] (by kernel_rfl) ?_);
    (refine wpList_buildC rfl PrT _ rfl #[bstr [58, 115, 116, 97, 116, 117, 115], bstr [53, 48, 48]] (by kernel_rfl) ?_);
    (refine wpList_buildC rfl CoT _ rfl CA (by rw [HCA.out]; kernel_rfl) ?_);
    (refine wpList_store_row rfl CoT _ _ rfl w.heap.size CA (by kernel_rfl) (by kernel_rfl) CoT _ (heap_alloc_new w _) (by rw [HSZ.out]; kernel_rfl) (by rw [HSZ.out]; rfl) HAL.out ?_))
  rw [row_newC]
  refine bodyPost_ret (results_cell_row rfl _ _ w.heap.size CoT CA (0, 0) (.array 14 PrT) (by kernel_rfl) (heap_alloc_new w _) (by kernel_rfl) rfl (by rw [HSZ.out]; kernel_rfl)) rfl ⟨rfl, Below.junk bel⟩
set_option maxHeartbeats 4000000 in
set_option maxRecDepth 100000 in
theorem sta_plain (w : World) : Calls Tryz.prog 139 #[] w fun e w' => e = .returned (.agg plaC) ∧ ∃ j, w' = w.more j := by
  obtain ⟨CA, hCA⟩ : ∃ CA, CA = plaC := ⟨_, rfl⟩
  have HCA := Lib.hid hCA
  have HSZ : Hid (CA.size = 47) := by show _ = _; rw [hCA]; decide +kernel
  have HAL : Hid (CA.all (·.oneCell') = true) := by show _ = _; rw [hCA]; decide +kernel
  rw [← hCA]
  clear hCA
  go_enter Tryz.func139, Tryz.ntmps139
  go_wp2_with (
    (refine wpList_buildC rfl PlT _ rfl CA (by rw [HCA.out]; kernel_rfl) ?_);
    (refine wpList_store_row rfl PlT _ _ rfl w.heap.size CA (by kernel_rfl) (by kernel_rfl) PlT _ (heap_alloc_new w _) (by rw [HSZ.out]; kernel_rfl) (by rw [HSZ.out]; rfl) HAL.out ?_))
  rw [row_newC]
  refine bodyPost_ret (results_cell_row rfl _ _ w.heap.size PlT CA (0, 0) (.array 47 9) (by kernel_rfl) (heap_alloc_new w _) (by kernel_rfl) rfl (by rw [HSZ.out]; kernel_rfl)) rfl ⟨rfl, Below.junk bel⟩
end Go.Proofs.YtmlbomblbdbikaaGreatDoor
/-
  The program's static table: the field at a place.
-/
namespace Go.Proofs.YtmlbomblbdbikaaGreatDoor
set_option linter.unusedSimpArgs false
set_option linter.unusedVariables false
set_option linter.unusedSectionVars false
open Go.ChangeShapes Go.WideShapes Go.ChangeAt Go.RowKit Go.Deep

theorem com_at (k : Nat) (hk : k < 14) (w : World) : (Instr.index CoT (.agg comC) (.int .i64 (k : Int))).run Tryz.prog w = .ok (.agg #[bstr (nmF ((k : Int) + 1)), bstr (svlF ((k : Int) + 1))]) w := by
  match k, hk with
  | 0, _ => (show _ = _; kernel_rfl)
  | 1, _ => (show _ = _; kernel_rfl)
  | 2, _ => (show _ = _; kernel_rfl)
  | 3, _ => (show _ = _; kernel_rfl)
  | 4, _ => (show _ = _; kernel_rfl)
  | 5, _ => (show _ = _; kernel_rfl)
  | 6, _ => (show _ = _; kernel_rfl)
  | 7, _ => (show _ = _; kernel_rfl)
  | 8, _ => (show _ = _; kernel_rfl)
  | 9, _ => (show _ = _; kernel_rfl)
  | 10, _ => (show _ = _; kernel_rfl)
  | 11, _ => (show _ = _; kernel_rfl)
  | 12, _ => (show _ = _; kernel_rfl)
  | 13, _ => (show _ = _; kernel_rfl)
theorem pla_at0 (k : Nat) (hk : k < 12) (w : World) : (Instr.index PlT (.agg plaC) (.int .i64 ((k + 0 : Nat) : Int))).run Tryz.prog w = .ok (bstr (nmF (((k + 0 : Nat) : Int) + 15))) w := by
  match k, hk with
  | 0, _ => (show _ = _; kernel_rfl)
  | 1, _ => (show _ = _; kernel_rfl)
  | 2, _ => (show _ = _; kernel_rfl)
  | 3, _ => (show _ = _; kernel_rfl)
  | 4, _ => (show _ = _; kernel_rfl)
  | 5, _ => (show _ = _; kernel_rfl)
  | 6, _ => (show _ = _; kernel_rfl)
  | 7, _ => (show _ = _; kernel_rfl)
  | 8, _ => (show _ = _; kernel_rfl)
  | 9, _ => (show _ = _; kernel_rfl)
  | 10, _ => (show _ = _; kernel_rfl)
  | 11, _ => (show _ = _; kernel_rfl)
theorem pla_at12 (k : Nat) (hk : k < 12) (w : World) : (Instr.index PlT (.agg plaC) (.int .i64 ((k + 12 : Nat) : Int))).run Tryz.prog w = .ok (bstr (nmF (((k + 12 : Nat) : Int) + 15))) w := by
  match k, hk with
  | 0, _ => (show _ = _; kernel_rfl)
  | 1, _ => (show _ = _; kernel_rfl)
  | 2, _ => (show _ = _; kernel_rfl)
  | 3, _ => (show _ = _; kernel_rfl)
  | 4, _ => (show _ = _; kernel_rfl)
  | 5, _ => (show _ = _; kernel_rfl)
  | 6, _ => (show _ = _; kernel_rfl)
  | 7, _ => (show _ = _; kernel_rfl)
  | 8, _ => (show _ = _; kernel_rfl)
  | 9, _ => (show _ = _; kernel_rfl)
  | 10, _ => (show _ = _; kernel_rfl)
  | 11, _ => (show _ = _; kernel_rfl)
theorem pla_at24 (k : Nat) (hk : k < 12) (w : World) : (Instr.index PlT (.agg plaC) (.int .i64 ((k + 24 : Nat) : Int))).run Tryz.prog w = .ok (bstr (nmF (((k + 24 : Nat) : Int) + 15))) w := by
  match k, hk with
  | 0, _ => (show _ = _; kernel_rfl)
  | 1, _ => (show _ = _; kernel_rfl)
  | 2, _ => (show _ = _; kernel_rfl)
  | 3, _ => (show _ = _; kernel_rfl)
  | 4, _ => (show _ = _; kernel_rfl)
  | 5, _ => (show _ = _; kernel_rfl)
  | 6, _ => (show _ = _; kernel_rfl)
  | 7, _ => (show _ = _; kernel_rfl)
  | 8, _ => (show _ = _; kernel_rfl)
  | 9, _ => (show _ = _; kernel_rfl)
  | 10, _ => (show _ = _; kernel_rfl)
  | 11, _ => (show _ = _; kernel_rfl)
theorem pla_at36 (k : Nat) (hk : k < 11) (w : World) : (Instr.index PlT (.agg plaC) (.int .i64 ((k + 36 : Nat) : Int))).run Tryz.prog w = .ok (bstr (nmF (((k + 36 : Nat) : Int) + 15))) w := by
  match k, hk with
  | 0, _ => (show _ = _; kernel_rfl)
  | 1, _ => (show _ = _; kernel_rfl)
  | 2, _ => (show _ = _; kernel_rfl)
  | 3, _ => (show _ = _; kernel_rfl)
  | 4, _ => (show _ = _; kernel_rfl)
  | 5, _ => (show _ = _; kernel_rfl)
  | 6, _ => (show _ = _; kernel_rfl)
  | 7, _ => (show _ = _; kernel_rfl)
  | 8, _ => (show _ = _; kernel_rfl)
  | 9, _ => (show _ = _; kernel_rfl)
  | 10, _ => (show _ = _; kernel_rfl)
theorem pla_at (k : Nat) (hk : k < 47) (w : World) : (Instr.index PlT (.agg plaC) (.int .i64 (k : Int))).run Tryz.prog w = .ok (bstr (nmF ((k : Int) + 15))) w := by
  by_cases h1 : k < 12
  · exact pla_at0 k h1 w
  by_cases h2 : k < 24
  · have := pla_at12 (k - 12) (by omega) w
    rwa [show k - 12 + 12 = k by omega] at this
  by_cases h3 : k < 36
  · have := pla_at24 (k - 24) (by omega) w
    rwa [show k - 24 + 24 = k by omega] at this
  · have := pla_at36 (k - 36) (by omega) w
    rwa [show k - 36 + 36 = k by omega] at this
theorem nm_sixteen : ∀ k : Fin 47, nmF ((k.val : Int) + 15) = [97, 99, 99, 101, 112, 116, 45, 101, 110, 99, 111, 100, 105, 110, 103] → k.val = 1 := by decide +kernel
theorem svl_plain : ∀ k : Fin 47, k.val ≠ 1 → svlF ((k.val : Int) + 15) = [] := by decide +kernel
theorem st_Fq : StructTy Tryz.prog 65 3 := ⟨_, Tryz.underlying65, rfl, by kernel_rfl⟩
set_option maxHeartbeats 4000000 in
set_option maxRecDepth 100000 in
theorem static_At (i : Int) (h : 1 ≤ i ∧ i ≤ 61) (w : World) : Calls Tryz.prog 137 #[.int .i64 i] w fun e w' => e = .returned (.tuple #[.agg #[bstr (nmF i), bstr (svlF i), .bool false], .bool true]) ∧ ∃ j, w' = w.more j := by
  have HC : Hid (∀ W, Calls Tryz.prog 138 #[] W fun e w' => e = .returned (.agg comC) ∧ ∃ j, w' = W.more j) := sta_common
  have HP : Hid (∀ W, Calls Tryz.prog 139 #[] W fun e w' => e = .returned (.agg plaC) ∧ ∃ j, w' = W.more j) := sta_plain
  have HI : 1 ≤ i ∧ i ≤ 14 → ∀ W, (Instr.index CoT (.agg comC) (.int .i64 (i - 1))).run Tryz.prog W = .ok (.agg #[bstr (nmF i), bstr (svlF i)]) W := fun hi W => by
    have := com_at (i - 1).toNat (by omega) W
    rwa [show (((i - 1).toNat : Nat) : Int) = i - 1 by omega, show i - 1 + 1 = i by omega] at this
  have HJ : 15 ≤ i → ∀ W, (Instr.index PlT (.agg plaC) (.int .i64 (i - 1 - 14))).run Tryz.prog W = .ok (bstr (nmF i)) W := fun hi W => by
    have := pla_at (i - 15).toNat (by omega) W
    rwa [show (((i - 15).toNat : Nat) : Int) = i - 1 - 14 by omega, show i - 1 - 14 + 15 = i by omega] at this
  have HN : Hid (15 ≤ i → nmF i = [97, 99, 99, 101, 112, 116, 45, 101, 110, 99, 111, 100, 105, 110, 103] → i = 16) := fun hi he => by
    have := nm_sixteen ⟨(i - 15).toNat, by omega⟩
    rw [show (((i - 15).toNat : Nat) : Int) + 15 = i by omega] at this
    have := this he
    simp only at this
    omega
  have HV : Hid (15 ≤ i → i ≠ 16 → svlF i = []) := fun hi he => by
    have := svl_plain ⟨(i - 15).toNat, by omega⟩ (by simp only; omega)
    rwa [show (((i - 15).toNat : Nat) : Int) + 15 = i by omega] at this
  have h16 : Hid (i = 16 → svlF i = [103, 122, 105, 112, 44, 32, 100, 101, 102, 108, 97, 116, 101]) := by rintro rfl; rfl
  have HN16 : Hid (i = 16 → nmF i = [97, 99, 99, 101, 112, 116, 45, 101, 110, 99, 111, 100, 105, 110, 103]) := by rintro rfl; rfl
  generalize nmF i = n at HI HJ HN HN16 ⊢
  generalize svlF i = v at HI HV h16 ⊢
  generalize comC = CC at HC HI
  generalize plaC = CP at HP HJ
  have w1 : IntKind.i64.wrap (i - 1) = i - 1 := IntWalk.i64_in _ (by omega)
  have w2 : IntKind.i64.wrap (i - 1 - 14) = i - 1 - 14 := IntWalk.i64_in _ (by omega)
  have d1 : decide (i < 1) = false := decide_eq_false (by omega)
  have d2 : decide (61 < i) = false := decide_eq_false (by omega)
  by_cases hi : i ≤ 14
  · have d3 : decide (i ≤ 14) = true := decide_eq_true hi
    have HI2 := HI ⟨h.1, hi⟩
    clear HJ HN HV h16 HI h HN16
    go_enter Tryz.func137, Tryz.ntmps137
    go_wp2_with (go_at_call 138; (with_reducible refine (HC.out _).mono ?_); rintro e w' ⟨rfl, j, rfl⟩)
    refine bodyPost_ret (res_cell_tmp rfl st_Fq rfl blk rfl rfl) rfl ⟨rfl, Below.junk bel⟩
  · have d3 : decide (i ≤ 14) = false := decide_eq_false hi
    have HJ2 := HJ (by omega)
    have hi2 : 15 ≤ i := by omega
    cases hs : (n == [97, 99, 99, 101, 112, 116, 45, 101, 110, 99, 111, 100, 105, 110, 103])
    · have HV2 : Hid (v = []) := HV.out hi2 (fun e => by subst e; exact absurd hs (by rw [HN16.out rfl]; decide))
      clear HI HJ HN HV h16 h HN16
      go_enter Tryz.func137, Tryz.ntmps137
      go_wp2_with (first | (go_at_call 138; (with_reducible refine (HC.out _).mono ?_); rintro e w' ⟨rfl, j, rfl⟩) | (go_at_call 139; (with_reducible refine (HP.out _).mono ?_); rintro e w' ⟨rfl, j, rfl⟩))
      refine bodyPost_ret (res_cell_tmp rfl st_Fq rfl blk rfl rfl) rfl ⟨by rw [HV2.out]; rfl, Below.junk bel⟩
    · have HV2 : Hid (v = [103, 122, 105, 112, 44, 32, 100, 101, 102, 108, 97, 116, 101]) := h16.out (HN.out hi2 (by simpa using hs))
      clear HI HJ HN HV h16 h HN16
      go_enter Tryz.func137, Tryz.ntmps137
      go_wp2_with (first | (go_at_call 138; (with_reducible refine (HC.out _).mono ?_); rintro e w' ⟨rfl, j, rfl⟩) | (go_at_call 139; (with_reducible refine (HP.out _).mono ?_); rintro e w' ⟨rfl, j, rfl⟩))
      refine bodyPost_ret (res_cell_tmp rfl st_Fq rfl blk rfl rfl) rfl ⟨by rw [HV2.out]; rfl, Below.junk bel⟩
end Go.Proofs.YtmlbomblbdbikaaGreatDoor
/-
  The place of a field in the program's static table.
-/
namespace Go.Proofs.YtmlbomblbdbikaaGreatDoor
set_option linter.unusedSimpArgs false
set_option linter.unusedVariables false
set_option linter.unusedSectionVars false
open Go.ChangeShapes Go.WideShapes Go.ChangeAt Go.RowKit Go.Deep

/-- The place of a field among those from a place on, or the first one of its name. -/
def fndGo (n v : List UInt8) : Nat → Int → Int → Int × Bool
  | 0, _, f => (f, false)
  | g + 1, i, f => if nmF i ≠ n then fndGo n v g (i + 1) f else if svlF i = v then (i, true) else fndGo n v g (i + 1) (if f = 0 then i else f)
def fndS (n v : List UInt8) : Int × Bool := fndGo n v 61 1 0
theorem fndGo_skip {n v : List UInt8} {g : Nat} {i f : Int} (h : nmF i ≠ n) : fndGo n v (g + 1) i f = fndGo n v g (i + 1) f := by rw [fndGo, if_pos h]
theorem fndGo_yes {n v : List UInt8} {g : Nat} {i f : Int} (h : nmF i = n) (h2 : svlF i = v) : fndGo n v (g + 1) i f = (i, true) := by rw [fndGo, if_neg (by simp [h]), if_pos h2]
theorem fndGo_zero {n v : List UInt8} {g : Nat} {i f : Int} (h : nmF i = n) (h2 : svlF i ≠ v) (hf : f = 0) : fndGo n v (g + 1) i f = fndGo n v g (i + 1) i := by rw [fndGo, if_neg (by simp [h]), if_neg h2, if_pos hf]
theorem fndGo_more {n v : List UInt8} {g : Nat} {i f : Int} (h : nmF i = n) (h2 : svlF i ≠ v) (hf : f ≠ 0) : fndGo n v (g + 1) i f = fndGo n v g (i + 1) f := by rw [fndGo, if_neg (by simp [h]), if_neg h2, if_neg hf]
set_option maxHeartbeats 4000000 in
set_option maxRecDepth 100000 in
theorem static_Find (n v : List UInt8) (w : World) : Calls Tryz.prog 131 #[bstr n, bstr v] w fun e w' => e = .returned (.tuple #[.int .i64 (fndS n v).1, .bool (fndS n v).2]) ∧ ∃ j, w' = w.more j := by
  have HA : Hid (∀ (i : Int), 1 ≤ i ∧ i ≤ 61 → ∀ W, Calls Tryz.prog 137 #[.int .i64 i] W fun e w' => e = .returned (.tuple #[.agg #[bstr (nmF i), bstr (svlF i), .bool false], .bool true]) ∧ ∃ j, w' = W.more j) := static_At
  obtain ⟨R, hR⟩ : ∃ R, R = fndS n v := ⟨_, rfl⟩
  rw [← hR]
  have HR : Hid (R = fndGo n v 61 1 0) := hR
  clear hR
  go_enter Tryz.func131, Tryz.ntmps131
  go_wp2_with fail
  go_loopg [6, 7] 61 (fun g f i wr => ∃ (k : Nat) (x : Int), k + g = 61 ∧ i = .int .i64 ((k : Int) + 1) ∧ f = .int .i64 x ∧ Hid (R = fndGo n v g ((k : Int) + 1) x) ∧ Below w.heap.size w wr)
  case atStart => exact ⟨0, 0, rfl, rfl, rfl, HR.out, Below.refl _ _⟩
  case round =>
    obtain ⟨k, x, hkg, rfl, rfl, HX, hb⟩ := hrel
    have HB := Lib.hid hb
    clear HR hb
    by_cases hlt : k < 61
    · have d1 : decide ((k : Int) + 1 ≤ 61) = true := decide_eq_true (by omega)
      obtain ⟨g, rfl⟩ : ∃ g, gk = g + 1 := ⟨gk - 1, by omega⟩
      have HA1 := Lib.hid (HA.out ((k : Int) + 1) ⟨by omega, by omega⟩)
      obtain ⟨N, hN⟩ : ∃ N, N = nmF ((k : Int) + 1) := ⟨_, rfl⟩
      obtain ⟨V, hV⟩ : ∃ V, V = svlF ((k : Int) + 1) := ⟨_, rfl⟩
      rw [← hN, ← hV] at HA1
      have HN := Lib.hid hN.symm
      have HV := Lib.hid hV.symm
      have w1 : IntKind.i64.wrap ((k : Int) + 1 + 1) = (k : Int) + 1 + 1 := IntWalk.i64_in _ (by omega)
      have HKG : Hid (k + (g + 1) = 61) := hkg
      have hbz := HB.out.size
      clear hN hV HA hkg
      cases e1 : (N == n)
      · have ne1 : N ≠ n := by simpa using e1
        have HY : Hid (R = fndGo n v g ((k : Int) + 1 + 1) x) := HX.out.trans (fndGo_skip (by rw [HN.out]; exact ne1))
        clear HX
        go_wp2_with (go_at_call 137; (with_reducible refine (HA1.out _).mono ?_); rintro e w' ⟨rfl, j, rfl⟩)
        trace_state
        go_roundg g
        case measure => omega
        case rel => exact ⟨k + 1, x, by have := HKG.out; omega, by go_num, rfl, HY.out, HB.out.trans (Below.mono (B := wr.heap.size) bel HB.out.size)⟩
      · have te1 : N = n := by simpa using e1
        cases e2 : (V == v)
        · have ne2 : V ≠ v := by simpa using e2
          cases e3 : (x == 0)
          · have ne3 : x ≠ 0 := by simpa using e3
            have HY : Hid (R = fndGo n v g ((k : Int) + 1 + 1) x) := HX.out.trans (fndGo_more (by rw [HN.out]; exact te1) (by rw [HV.out]; exact ne2) ne3)
            clear HX
            go_wp2_with (go_at_call 137; (with_reducible refine (HA1.out _).mono ?_); rintro e w' ⟨rfl, j, rfl⟩)
            go_roundg g
            case measure => omega
            case rel => exact ⟨k + 1, x, by have := HKG.out; omega, by go_num, rfl, HY.out, HB.out.trans (Below.mono (B := wr.heap.size) bel HB.out.size)⟩
          · have te3 : x = 0 := by simpa using e3
            subst te3
            have HY : Hid (R = fndGo n v g ((k : Int) + 1 + 1) ((k : Int) + 1)) := HX.out.trans (fndGo_zero (by rw [HN.out]; exact te1) (by rw [HV.out]; exact ne2) rfl)
            clear HX
            go_wp2_with (go_at_call 137; (with_reducible refine (HA1.out _).mono ?_); rintro e w' ⟨rfl, j, rfl⟩)
            go_roundg g
            case measure => omega
            case rel => exact ⟨k + 1, (k : Int) + 1, by have := HKG.out; omega, by go_num, by first | rfl | go_num, HY.out, HB.out.trans (Below.mono (B := wr.heap.size) bel HB.out.size)⟩
        · have te2 : V = v := by simpa using e2
          have HY : Hid (R = ((k : Int) + 1, true)) := HX.out.trans (fndGo_yes (by rw [HN.out]; exact te1) (by rw [HV.out]; exact te2))
          clear HX
          go_wp2_with (go_at_call 137; (with_reducible refine (HA1.out _).mono ?_); rintro e w' ⟨rfl, j, rfl⟩)
          go_ret2
          exact ⟨by rw [HY.out]; rfl, Below.junk (HB.out.trans (Below.mono (B := wr.heap.size) bel HB.out.size))⟩
    · obtain rfl : k = 61 := by omega
      obtain rfl : gk = 0 := by omega
      have HY : Hid (R = (x, false)) := HX.out
      clear HX HA hkg hlt
      go_wp2_with fail
      go_ret2
      exact ⟨by rw [HY.out]; rfl, Below.junk HB.out⟩
end Go.Proofs.YtmlbomblbdbikaaGreatDoor
/-
  The document's static table: the place of a field.
-/
namespace Go.Proofs.YtmlbomblbdbikaaGreatDoor
set_option linter.unusedSimpArgs false
set_option linter.unusedVariables false
set_option linter.unusedSectionVars false
open Go.ChangeShapes Go.WideShapes Go.ChangeAt Go.RowKit Go.Deep

/-- The least place of a name, from a place downward. -/
def dnGo (n : List UInt8) : Nat → Int → Int
  | 0, f => f
  | g + 1, f => dnGo n g (if nmF ((g : Int) + 1) = n then (g : Int) + 1 else f)
def upGo (n v : List UInt8) (f : Int) : Nat → Int → Int × Bool
  | 0, _ => (f, false)
  | g + 1, i => if nmF i = n ∧ svlF i = v then (i, true) else upGo n v f g (i + 1)
def fndD (n v : List UInt8) : Int × Bool := upGo n v (dnGo n 61 0) 61 1
theorem dnGo_yes {n : List UInt8} {g : Nat} {f : Int} (h : nmF ((g : Int) + 1) = n) : dnGo n (g + 1) f = dnGo n g ((g : Int) + 1) := by rw [dnGo, if_pos h]
theorem dnGo_no {n : List UInt8} {g : Nat} {f : Int} (h : nmF ((g : Int) + 1) ≠ n) : dnGo n (g + 1) f = dnGo n g f := by rw [dnGo, if_neg h]
theorem upGo_yes {n v : List UInt8} {f : Int} {g : Nat} {i : Int} (h : nmF i = n) (h2 : svlF i = v) : upGo n v f (g + 1) i = (i, true) := by rw [upGo, if_pos ⟨h, h2⟩]
theorem upGo_no {n v : List UInt8} {f : Int} {g : Nat} {i : Int} (h : ¬ (nmF i = n ∧ svlF i = v)) : upGo n v f (g + 1) i = upGo n v f g (i + 1) := by rw [upGo, if_neg h]
set_option maxHeartbeats 4000000 in
set_option maxRecDepth 100000 in
theorem ref20_Find (n v : List UInt8) (hn : n ≠ []) (w : World) : Calls Tryz.prog 107 #[bstr n, bstr v] w fun e w' => e = .returned (.tuple #[.int .i64 (fndD n v).1, .bool (fndD n v).2]) ∧ ∃ j, w' = w.more j := by
  have HA : Hid (∀ (i : Int), 1 ≤ i ∧ i ≤ 61 → ∀ W, Calls Tryz.prog 123 #[.int .i64 i] W fun e w' => e = .returned (bstr (nmF i)) ∧ ∃ j, w' = W.more j) := ref20_name
  have HV : Hid (∀ (i : Int), 1 ≤ i ∧ i ≤ 61 → ∀ W, Calls Tryz.prog 124 #[.int .i64 i] W fun e w' => e = .returned (bstr (svlF i)) ∧ ∃ j, w' = W.more j) := ref20_value
  obtain ⟨R, hR⟩ : ∃ R, R = fndD n v := ⟨_, rfl⟩
  rw [← hR]
  obtain ⟨D, hD⟩ : ∃ D, D = dnGo n 61 0 := ⟨_, rfl⟩
  have HR : Hid (R = upGo n v D 61 1) := by show _ = _; rw [hR, hD]; rfl
  have HD : Hid (D = dnGo n 61 0) := hD
  have hn2 : (n == []) = false := by simpa using hn
  clear hR hD hn
  go_enter Tryz.func107, Tryz.ntmps107
  go_wp2_with fail
  go_loopg [6, 7] 61 (fun g f i wr => ∃ (x : Int), g ≤ 61 ∧ i = .int .i64 (g : Int) ∧ f = .int .i64 x ∧ Hid (D = dnGo n g x) ∧ Below w.heap.size w wr)
  case atStart => exact ⟨0, by omega, rfl, rfl, HD.out, Below.refl _ _⟩
  case round =>
    obtain ⟨x, hg, rfl, rfl, HX, hb⟩ := hrel
    have HB := Lib.hid hb
    have HG := Lib.hid hg
    clear HD hb hg
    obtain rfl | ⟨g, rfl⟩ : gk = 0 ∨ ∃ g, gk = g + 1 := by cases gk with | zero => exact .inl rfl | succ g => exact .inr ⟨g, rfl⟩
    · obtain rfl : D = x := HX.out
      clear HX
      go_wp2_with fail
      go_loopg [8] 61 (fun g i wr => ∃ (k : Nat), k + g = 61 ∧ i = .int .i64 ((k : Int) + 1) ∧ Hid (R = upGo n v D g ((k : Int) + 1)) ∧ Below w.heap.size w wr)
      case atStart => exact ⟨0, rfl, rfl, HR.out, HB.out⟩
      case round =>
        clear HR HB HG
        obtain ⟨k, hkg, rfl, HX, hb⟩ := hrel
        have HB := Lib.hid hb
        clear hb
        by_cases hlt : k < 61
        · have d1 : decide ((k : Int) + 1 ≤ 61) = true := decide_eq_true (by omega)
          obtain ⟨g, rfl⟩ : ∃ g, gk = g + 1 := ⟨gk - 1, by omega⟩
          have HA1 := Lib.hid (HA.out ((k : Int) + 1) ⟨by omega, by omega⟩)
          have HV1 := Lib.hid (HV.out ((k : Int) + 1) ⟨by omega, by omega⟩)
          obtain ⟨N, hN⟩ : ∃ N, N = nmF ((k : Int) + 1) := ⟨_, rfl⟩
          obtain ⟨V, hV⟩ : ∃ V, V = svlF ((k : Int) + 1) := ⟨_, rfl⟩
          rw [← hN] at HA1
          rw [← hV] at HV1
          have HN := Lib.hid hN.symm
          have HVV := Lib.hid hV.symm
          have w1 : IntKind.i64.wrap ((k : Int) + 1 + 1) = (k : Int) + 1 + 1 := IntWalk.i64_in _ (by omega)
          have HKG : Hid (k + (g + 1) = 61) := hkg
          have hbz := HB.out.size
          clear hN hV HA HV hkg
          cases e1 : (N == n)
          · have ne1 : N ≠ n := by simpa using e1
            have HY : Hid (R = upGo n v D g ((k : Int) + 1 + 1)) := HX.out.trans (upGo_no (by rw [HN.out]; exact fun h => ne1 h.1))
            clear HX
            go_wp2_with (first | (go_at_call 123; (with_reducible refine (HA1.out _).mono ?_); rintro e w' ⟨rfl, j, rfl⟩) | (go_at_call 124; (with_reducible refine (HV1.out _).mono ?_); rintro e w' ⟨rfl, j, rfl⟩))
            go_roundg g
            case measure => omega
            case rel => exact ⟨k + 1, by have := HKG.out; omega, by go_num, HY.out, HB.out.trans (Below.mono (B := wr.heap.size) bel HB.out.size)⟩
          · have te1 : N = n := by simpa using e1
            cases e2 : (V == v)
            · have ne2 : V ≠ v := by simpa using e2
              have HY : Hid (R = upGo n v D g ((k : Int) + 1 + 1)) := HX.out.trans (upGo_no (by rw [HVV.out]; exact fun h => ne2 h.2))
              clear HX
              go_wp2_with (first | (go_at_call 123; (with_reducible refine (HA1.out _).mono ?_); rintro e w' ⟨rfl, j, rfl⟩) | (go_at_call 124; (with_reducible refine (HV1.out _).mono ?_); rintro e w' ⟨rfl, j, rfl⟩))
              go_roundg g
              case measure => omega
              case rel => exact ⟨k + 1, by have := HKG.out; omega, by go_num, HY.out, HB.out.trans (Below.mono (B := wr.heap.size) bel HB.out.size)⟩
            · have te2 : V = v := by simpa using e2
              have HY : Hid (R = ((k : Int) + 1, true)) := HX.out.trans (upGo_yes (by rw [HN.out]; exact te1) (by rw [HVV.out]; exact te2))
              clear HX
              go_wp2_with (first | (go_at_call 123; (with_reducible refine (HA1.out _).mono ?_); rintro e w' ⟨rfl, j, rfl⟩) | (go_at_call 124; (with_reducible refine (HV1.out _).mono ?_); rintro e w' ⟨rfl, j, rfl⟩))
              go_ret2
              exact ⟨by rw [HY.out]; rfl, Below.junk (HB.out.trans (Below.mono (B := wr.heap.size) bel HB.out.size))⟩
        · obtain rfl : k = 61 := by omega
          obtain rfl : gk = 0 := by omega
          have HY : Hid (R = (D, false)) := HX.out
          clear HX HA HV hkg hlt
          go_wp2_with fail
          go_ret2
          exact ⟨by rw [HY.out]; rfl, Below.junk HB.out⟩
    · have d1 : decide (1 ≤ ((g + 1 : Nat) : Int)) = true := decide_eq_true (by omega)
      have hg61 := HG.out
      have HA1 := Lib.hid (HA.out ((g : Int) + 1) ⟨by omega, by omega⟩)
      obtain ⟨N, hN⟩ : ∃ N, N = nmF ((g : Int) + 1) := ⟨_, rfl⟩
      rw [← hN] at HA1
      have HN := Lib.hid hN.symm
      rw [show ((g + 1 : Nat) : Int) = (g : Int) + 1 by omega] at d1 ⊢
      have w1 : IntKind.i64.wrap ((g : Int) + 1 - 1) = (g : Int) := by rw [show (g : Int) + 1 - 1 = g by omega]; exact IntWalk.i64_in _ (by omega)
      have w2 : IntKind.i64.wrap (g : Int) = (g : Int) := IntWalk.i64_in _ (by omega)
      have hbz := HB.out.size
      clear hN HA HV hg61
      cases e1 : (N == n)
      · have ne1 : N ≠ n := by simpa using e1
        have HY : Hid (D = dnGo n g x) := HX.out.trans (dnGo_no (by rw [HN.out]; exact ne1))
        clear HX
        go_wp2_with (go_at_call 123; (with_reducible refine (HA1.out _).mono ?_); rintro e w' ⟨rfl, j, rfl⟩)
        go_roundg g
        case measure => omega
        case rel => exact ⟨x, by have := HG.out; omega, by first | rfl | (have := HG.out; go_num), rfl, HY.out, HB.out.trans (Below.mono (B := wr.heap.size) bel HB.out.size)⟩
      · have te1 : N = n := by simpa using e1
        have HY : Hid (D = dnGo n g ((g : Int) + 1)) := HX.out.trans (dnGo_yes (by rw [HN.out]; exact te1))
        clear HX
        go_wp2_with (go_at_call 123; (with_reducible refine (HA1.out _).mono ?_); rintro e w' ⟨rfl, j, rfl⟩)
        go_roundg g
        case measure => omega
        case rel => exact ⟨(g : Int) + 1, by have := HG.out; omega, by first | rfl | (have := HG.out; go_num), by first | rfl | go_num, HY.out, HB.out.trans (Below.mono (B := wr.heap.size) bel HB.out.size)⟩
end Go.Proofs.YtmlbomblbdbikaaGreatDoor
/-
  How a field is written outside of tables: the document's road.
-/
namespace Go.Proofs.YtmlbomblbdbikaaGreatDoor
set_option linter.unusedSimpArgs false
set_option linter.unusedVariables false
set_option linter.unusedSectionVars false
open Go.ChangeShapes Go.WideShapes Go.ChangeAt Go.RowKit Go.Deep

/-- An empty table. -/
abbrev tb0 : Value := .agg #[.slice none 0 0, .int .i64 0]
set_option maxHeartbeats 4000000 in
set_option maxRecDepth 100000 in
theorem ref21_Find0 (n v : List UInt8) (w : World) : Calls Tryz.prog 108 #[tb0, bstr n, bstr v] w fun e w' => e = .returned (.tuple #[.int .i64 0, .bool false]) ∧ ∃ j, w' = w.more j := by
  go_enter Tryz.func108, Tryz.ntmps108
  go_wp2_with fail
  refine wp_loop_rounds 1 ?_
  rw [rounds_succ]
  go_wp2_with fail
  refine wp_loop_rounds 1 ?_
  rw [rounds_succ]
  go_wp2_with fail
  go_ret2
  exact ⟨rfl, Below.junk bel⟩
set_option maxHeartbeats 4000000 in
set_option maxRecDepth 100000 in
theorem ref20_AtS (i : Int) (h : 1 ≤ i ∧ i ≤ 61) (w : World) : Calls Tryz.prog 109 #[.int .i64 i] w fun e w' => e = .returned (.tuple #[.agg #[bstr (nmF i), bstr (svlF i), .bool false], .bool true]) ∧ ∃ j, w' = w.more j := by
  have HN : Hid (∀ W, Calls Tryz.prog 123 #[.int .i64 i] W fun e w' => e = .returned (bstr (nmF i)) ∧ ∃ j, w' = W.more j) := fun W => ref20_name i h W
  have HV : Hid (∀ W, Calls Tryz.prog 124 #[.int .i64 i] W fun e w' => e = .returned (bstr (svlF i)) ∧ ∃ j, w' = W.more j) := fun W => ref20_value i h W
  have hne := nm_in h
  generalize nmF i = L at HN hne ⊢
  generalize svlF i = V at HV ⊢
  obtain ⟨x, r, rfl⟩ : ∃ x r, L = x :: r := by cases L with | nil => exact absurd rfl hne | cons x r => exact ⟨x, r, rfl⟩
  clear h hne
  go_enter Tryz.func109, Tryz.ntmps109
  go_wp2_with (first | (go_at_call 123; (with_reducible refine (HN.out _).mono ?_); rintro e w' ⟨rfl, j, rfl⟩) | (go_at_call 124; (with_reducible refine (HV.out _).mono ?_); rintro e w' ⟨rfl, j, rfl⟩))
  refine bodyPost_ret (res_cell_tmp rfl st_Fq rfl blk rfl rfl) rfl ⟨rfl, Below.junk bel⟩
set_option maxHeartbeats 4000000 in
set_option maxRecDepth 100000 in
theorem ref24_place0 (n v : List UInt8) (hn : n ≠ []) (w : World) : Calls Tryz.prog 83 #[tb0, .agg #[bstr n, bstr v, .bool false]] w fun e w' => (∃ x : Int, e = .returned (.int .i64 x)) ∧ ∃ j, w' = w.more j := by
  have HF : Hid (∀ W, Calls Tryz.prog 107 #[bstr n, bstr v] W fun e w' => e = .returned (.tuple #[.int .i64 (fndD n v).1, .bool (fndD n v).2]) ∧ ∃ j, w' = W.more j) := ref20_Find n v hn
  have HG : Hid (∀ W, Calls Tryz.prog 108 #[tb0, bstr n, bstr v] W fun e w' => e = .returned (.tuple #[.int .i64 0, .bool false]) ∧ ∃ j, w' = W.more j) := ref21_Find0 n v
  generalize (fndD n v).1 = i at HF
  generalize (fndD n v).2 = b at HF
  clear hn
  go_enter Tryz.func83, Tryz.ntmps83
  go_wp2_with (first | (go_at_call 107; (with_reducible refine (HF.out _).mono ?_); rintro e w' ⟨rfl, j, rfl⟩) | (go_at_call 108; (with_reducible refine (HG.out _).mono ?_); rintro e w' ⟨rfl, j, rfl⟩))
  all_goals
    go_ret
    exact ⟨⟨_, rfl⟩, Below.junk bel⟩
/-- The place of a name. -/
def nmdGo (n : List UInt8) : Nat → Int → Int
  | 0, _ => 0
  | g + 1, i => if nmF i = n then i else nmdGo n g (i + 1)
def nmdF (n : List UInt8) : Int := nmdGo n 61 1
theorem nmd_yes {n : List UInt8} {g : Nat} {i : Int} (h : nmF i = n) : nmdGo n (g + 1) i = i := by rw [nmdGo, if_pos h]
theorem nmd_no {n : List UInt8} {g : Nat} {i : Int} (h : nmF i ≠ n) : nmdGo n (g + 1) i = nmdGo n g (i + 1) := by rw [nmdGo, if_neg h]
abbrev TbDT : TypeId := 84
set_option maxHeartbeats 4000000 in
set_option maxRecDepth 100000 in
theorem ref24_named0 (n : List UInt8) (w : World) : Calls Tryz.prog 84 #[tb0, bstr n] w fun e w' => e = .returned (.int .i64 (nmdF n)) ∧ ∃ j, w' = w.more j := by
  have HA : Hid (∀ (i : Int), 1 ≤ i ∧ i ≤ 61 → ∀ W, Calls Tryz.prog 109 #[.int .i64 i] W fun e w' => e = .returned (.tuple #[.agg #[bstr (nmF i), bstr (svlF i), .bool false], .bool true]) ∧ ∃ j, w' = W.more j) := ref20_AtS
  obtain ⟨R, hR⟩ : ∃ R, R = nmdF n := ⟨_, rfl⟩
  rw [← hR]
  have HR : Hid (R = nmdGo n 61 1) := hR
  clear hR
  go_enter Tryz.func84, Tryz.ntmps84
  go_wp2_with fail
  go_loopg [5] 61 (fun g i wr => ∃ (k : Nat), k + g = 61 ∧ i = .int .i64 ((k : Int) + 1) ∧ Hid (R = nmdGo n g ((k : Int) + 1)) ∧ Blk wr w.heap.size TbDT #[.slice none 0 0, .int .i64 0] ∧ Below w.heap.size w wr)
  case atStart => exact ⟨0, rfl, rfl, HR.out, blk, bel⟩
  case round =>
    obtain ⟨k, hkg, rfl, HX, hk, hb⟩ := hrel
    have HB := Lib.hid hb
    have HK := Lib.hid hk
    clear HR hb hk
    by_cases hlt : k < 61
    · have d1 : decide ((k : Int) + 1 ≤ 61) = true := decide_eq_true (by omega)
      obtain ⟨g, rfl⟩ : ∃ g, gk = g + 1 := ⟨gk - 1, by omega⟩
      have HA1 := Lib.hid (HA.out ((k : Int) + 1) ⟨by omega, by omega⟩)
      obtain ⟨N, hN⟩ : ∃ N, N = nmF ((k : Int) + 1) := ⟨_, rfl⟩
      generalize svlF ((k : Int) + 1) = V at HA1
      rw [← hN] at HA1
      have HN := Lib.hid hN.symm
      have w1 : IntKind.i64.wrap ((k : Int) + 1 + 1) = (k : Int) + 1 + 1 := IntWalk.i64_in _ (by omega)
      have HKG : Hid (k + (g + 1) = 61) := hkg
      have hbz := HB.out.size
      clear hN HA hkg
      cases e1 : (N == n)
      · have ne1 : N ≠ n := by simpa using e1
        have HY : Hid (R = nmdGo n g ((k : Int) + 1 + 1)) := HX.out.trans (nmd_no (by rw [HN.out]; exact ne1))
        clear HX
        go_wp2_with (go_at_call 109; (with_reducible refine (HA1.out _).mono ?_); rintro e w' ⟨rfl, j, rfl⟩)
        go_roundg g
        case measure => omega
        case rel => exact ⟨k + 1, by have := HKG.out; omega, by go_num, HY.out, HK.out.below bel HK.out.lt, HB.out.trans (Below.mono (B := wr.heap.size) bel HB.out.size)⟩
      · have te1 : N = n := by simpa using e1
        have HY : Hid (R = (k : Int) + 1) := HX.out.trans (nmd_yes (by rw [HN.out]; exact te1))
        clear HX
        go_wp2_with (go_at_call 109; (with_reducible refine (HA1.out _).mono ?_); rintro e w' ⟨rfl, j, rfl⟩)
        go_ret
        exact ⟨by rw [HY.out]; rfl, Below.junk (HB.out.trans (Below.mono (B := wr.heap.size) bel HB.out.size))⟩
    · obtain rfl : k = 61 := by omega
      obtain rfl : gk = 0 := by omega
      have HY : Hid (R = 0) := HX.out
      have hc0 : wr.cell? ⟨w.heap.size, 0, none⟩ = some (.slice none 0 0) := (HK.out.cell 0).trans rfl
      have hlt0 := HK.out.lt
      clear HX HA hkg hlt
      go_wp2_with fail
      refine wp_loop_rounds 1 ?_
      rw [rounds_succ]
      go_wp2_with fail
      go_ret
      exact ⟨by rw [HY.out]; rfl, Below.junk HB.out⟩
theorem res_cells {P : Program} {fn : Func} {p q : Tmp} {ty ty' : TypeId} {n n' g g' : Nat} {t t' : TypeId} {cs cs' : Array Value} {tmps : Array Value} {w : World} (h : fn.results = #[.cell p ty, .cell q ty']) (hs : StructTy P ty n) (hp : tmps.getD p undef = .pointer (some ⟨g, 0, none⟩)) (hb : Blk w g t cs) (hn : cs.size = n)
    (hs' : StructTy P ty' n') (hq : tmps.getD q undef = .pointer (some ⟨g', 0, none⟩)) (hb' : Blk w g' t' cs') (hn' : cs'.size = n') :
    (results fn tmps).run P w = .ok (.tuple #[.agg cs, .agg cs']) w := by
  have hp' : tmps[p]?.getD undef = .pointer (some ⟨g, 0, none⟩) := by simpa using hp
  have hq' : tmps[q]?.getD undef = .pointer (some ⟨g', 0, none⟩) := by simpa using hq
  simp [results, h, hp', hq', asAddr, hs.load hb hn, hs'.load hb' hn']
/-- How a field is written. -/
abbrev reC (i : Int) (n v : List UInt8) : Array Value := #[.int .i64 3, .int .i64 i, bstr n, .bool false, bstr v, .bool false, .int .i64 0]
theorem st_Re2 : StructTy Tryz.prog 62 7 := ⟨_, Tryz.underlying62, rfl, by kernel_rfl⟩
theorem st_Tb2 : StructTy Tryz.prog 84 2 := ⟨_, Tryz.underlying84, rfl, by kernel_rfl⟩
set_option maxHeartbeats 4000000 in
set_option maxRecDepth 100000 in
theorem ref24_One0 (n v : List UInt8) (hn : n ≠ []) (w : World) : Calls Tryz.prog 63 #[tb0, .agg #[bstr n, bstr v, .bool false], .agg #[.int .i64 2, .bool false, .bool false, .bool false]] w fun e w' => e = .returned (.tuple #[.agg (reC (nmdF n) (if nmdF n = 0 then n else []) v), tb0]) ∧ ∃ j, w' = w.more j := by
  have HP : Hid (∀ W, Calls Tryz.prog 83 #[tb0, .agg #[bstr n, bstr v, .bool false]] W fun e w' => (∃ x : Int, e = .returned (.int .i64 x)) ∧ ∃ j, w' = W.more j) := ref24_place0 n v hn
  have HN : Hid (∀ W, Calls Tryz.prog 84 #[tb0, bstr n] W fun e w' => e = .returned (.int .i64 (nmdF n)) ∧ ∃ j, w' = W.more j) := ref24_named0 n
  generalize nmdF n = i at HN ⊢
  cases e1 : (i == 0)
  · have n1 : ¬ i = 0 := by simpa using e1
    rw [if_neg n1]
    clear hn
    go_enter Tryz.func63, Tryz.ntmps63
    go_wp2_with (first | (go_at_call 83; (with_reducible refine (HP.out _).mono ?_); rintro e w' ⟨⟨x, rfl⟩, j, rfl⟩) | (go_at_call 84; (with_reducible refine (HN.out _).mono ?_); rintro e w' ⟨rfl, j, rfl⟩))
    go_region
    all_goals
      go_wp2_with fail
      refine bodyPost_ret (res_cells rfl st_Re2 rfl blk rfl st_Tb2 rfl blk rfl) rfl ⟨rfl, Below.junk bel⟩
  · have n1 : i = 0 := by simpa using e1
    rw [if_pos n1]
    subst n1
    clear hn
    go_enter Tryz.func63, Tryz.ntmps63
    go_wp2_with (first | (go_at_call 83; (with_reducible refine (HP.out _).mono ?_); rintro e w' ⟨⟨x, rfl⟩, j, rfl⟩) | (go_at_call 84; (with_reducible refine (HN.out _).mono ?_); rintro e w' ⟨rfl, j, rfl⟩))
    go_region
    all_goals
      go_wp2_with fail
      refine bodyPost_ret (res_cells rfl st_Re2 rfl blk rfl st_Tb2 rfl blk rfl) rfl ⟨rfl, Below.junk bel⟩
end Go.Proofs.YtmlbomblbdbikaaGreatDoor
