/-
  What the walks ask of the library's variables, in any world that has grown since.
-/
import Derived.Test.YthbflllflnnipaaGreatDoorShelf2
import Derived.Test.YthbflllflnnipaaGreatDoorMa
import Derived.WalkSmall
import Derived.Lib.SmallJoins
namespace Go.Proofs.YthbflllflnnipaaGreatDoor
set_option linter.unusedSimpArgs false
set_option linter.unusedVariables false
set_option linter.unusedSectionVars false
open Go.ChangeShapes Go.WideShapes Go.ChangeAt Go.RowKit Go.Deep Go.Shelf

def ErrCell (w : World) (g : Nat) : Prop := ∃ ev, w.cell? ⟨g, 0, none⟩ = some ev ∧ (ev = .nilIface ∨ ∃ te pe, ev = .iface te pe)
abbrev SynA : Nat := 3
abbrev RngA : Nat := 4
structure Env (w : World) : Prop where
  max : ∃ m, w.cell? MaxA = some (.int .i64 m)
  pow : Lib.TabIs Tryz.prog w "internal/strconv.uint64pow10" .u64 Lib.pow10Tab
  syn : ErrCell w SynA
  rng : ErrCell w RngA
theorem cell_lt {w : World} {g : Nat} {v : Value} (h : w.cell? ⟨g, 0, none⟩ = some v) : g < w.heap.size := by
  rcases Nat.lt_or_ge g w.heap.size with hlt | hge
  · exact hlt
  · unfold World.cell? at h; rw [Array.getElem?_eq_none hge] at h; cases h
theorem cell_keep {w w' : World} {g : Nat} {v : Value} (h : w.cell? ⟨g, 0, none⟩ = some v) (hb : Below w.heap.size w w') : w'.cell? ⟨g, 0, none⟩ = some v :=
  (hb.cell (p := ⟨g, 0, none⟩) (cell_lt h)).trans h
theorem ErrCell.below {w w' : World} {g : Nat} (h : ErrCell w g) (hb : Below w.heap.size w w') : ErrCell w' g := by
  obtain ⟨ev, h1, h2⟩ := h
  exact ⟨ev, cell_keep h1 hb, h2⟩
theorem var_lt {w : World} {P : Program} {n : String} {g : Nat} {cs : Array Value} (hg : P.globalNamed n = some g) (h : w.var? P n = some cs) : g < w.heap.size := by
  unfold World.var? at h
  rw [hg] at h
  rcases Nat.lt_or_ge g w.heap.size with hlt | hge
  · exact hlt
  · simp [Array.getElem?_eq_none hge] at h
theorem pow_named : ∃ g, Tryz.prog.globalNamed "internal/strconv.uint64pow10" = some g := ⟨5, by kernel_rfl⟩
theorem Env.below {w w' : World} (h : Env w) (hb : Below w.heap.size w w') : Env w' := by
  obtain ⟨m, hm⟩ := h.max
  obtain ⟨g, hg⟩ := pow_named
  exact ⟨⟨m, cell_keep hm hb⟩, var?_below hb hg (var_lt hg h.pow) h.pow, h.syn.below hb, h.rng.below hb⟩
theorem Env.more {w : World} (h : Env w) (j : Junk) : Env (w.more j) := h.below (Below.moreS (Below.refl w.heap.size w) j)

theorem grow_junk (w : World) (k : Nat) (os : Array Obj) : ∃ j, Go.Sort.grow (w.drewN k) os = w.more j := ⟨⟨os, (w.drewN k).drawn⟩, rfl⟩
theorem itoa_call (n : Int) (h0 : -9223372036854775808 ≤ n) (h1 : n ≤ 9223372036854775807) (w : World) (hE : Env w) :
    Calls Tryz.prog 99 #[.int .i64 n] w fun e w' => e = .returned (bstr (Lib.itoa n)) ∧ ∃ j, w' = w.more j :=
  (Tryz.strconv_Itoa n h0 h1 w hE.pow).mono fun e w' ⟨he, k, os, hw⟩ => ⟨he, by rw [hw]; exact grow_junk w k os⟩
theorem atoi_good {s : List UInt8} {v : Int} (hm : s.length ≤ 1048576) (h : Lib.atoiAll s = .ok v) (w : World) :
    Calls Tryz.prog 119 #[bstr s] w fun e w' => e = .returned (.tuple #[.int .i64 v, .nilIface]) ∧ ∃ j, w' = w.more j :=
  (Tryz.strconv_Atoi_ok ⟨s.toArray⟩ (by show s.length ≤ _; omega) v h w).mono fun e w' ⟨he, hw⟩ => ⟨he, by
    rcases hw with rfl | ⟨t, rfl⟩
    · exact ⟨_, more_self _⟩
    · exact (Go.Joins.below_bytesWorld _ w _ _ (Nat.le_refl _)).junk⟩
theorem atoi_cases (s : List UInt8) : (∃ v, Lib.atoiAll s = .ok v) ∨ Lib.atoiAll s = Lib.atoiAll [] ∨ Lib.atoiAll s = .range := by
  cases Lib.atoiAll s
  all_goals first | exact .inl ⟨_, rfl⟩ | exact .inr (.inl rfl) | exact .inr (.inr rfl)
def AtoiBad (w : World) (e : Ending) (w' : World) : Prop := ∃ (n : Int) (t : TypeId) (p : Value), e = .returned (.tuple #[.int .i64 n, .iface t p]) ∧ ∃ j, w' = w.more j
theorem atoi_bad {s : List UInt8} (hm : s.length ≤ 1048576) (h : ∀ v, Lib.atoiAll s ≠ .ok v) (w : World) (hE : Env w) :
    Calls Tryz.prog 119 #[bstr s] w (AtoiBad w) := by
  rcases atoi_cases s with ⟨v, ha⟩ | ha | ha
  · exact absurd ha (h v)
  · obtain ⟨ev, h1, h2⟩ := hE.syn
    exact (Tryz.strconv_Atoi_syntax ⟨s.toArray⟩ (by show s.length ≤ _; omega) ha ev w h1 h2).mono fun e w' ⟨N, he, _, _, hb⟩ => ⟨_, _, _, he, hb.junk⟩
  · obtain ⟨ev, h1, h2⟩ := hE.rng
    exact (Tryz.strconv_Atoi_range ⟨s.toArray⟩ (by show s.length ≤ _; omega) ha ev w h1 h2).mono fun e w' ⟨N, he, _, _, hb⟩ => ⟨_, _, _, he, hb.junk⟩
end Go.Proofs.YthbflllflnnipaaGreatDoor
