/-
  Parts of the proof, one behind the other: contracts of the program and plain laws; no condition of their own.
-/
import Derived.Test.YtfcgdfcekpbliaaGreatDoorMa
import Derived.Test.YtfcgdfcekpbliaaGreatDoorMf
import Derived.Laws.StructEq
/-
  Records: names of sides, kinds and types, both roads.
-/
namespace Go.Proofs.YtfcgdfcekpbliaaGreatDoor
set_option linter.unusedSimpArgs false
set_option linter.unusedVariables false
set_option linter.unusedSectionVars false
open Go.ChangeShapes Go.WideShapes Go.ChangeAt Go.RowKit Go.Deep Go.Shelf

def EnvP (w : World) : Prop := Lib.TabIs Tryz.prog w "internal/strconv.uint64pow10" .u64 Lib.pow10Tab
theorem EnvP.below {w w' : World} (h : EnvP w) (hb : Below w.heap.size w w') : EnvP w' := by
  obtain ⟨g, hg⟩ := pow_named
  exact var?_below hb hg (var_lt hg h) h
set_option maxHeartbeats 2000000 in
set_option maxRecDepth 100000 in
theorem digits_Text0 (n : Int) (h0 : -9223372036854775808 ≤ n) (h1 : n ≤ 9223372036854775807) (w : World) (hE : EnvP w) :
    Calls Tryz.prog 20 #[.int .i64 n] w fun e w' => e = .returned (bstr (Lib.itoa n)) ∧ ∃ j, w' = w.more j := by
  have H : Hid (Calls Tryz.prog 48 #[.int .i64 n] w fun e w' => e = .returned (bstr (Lib.itoa n)) ∧ ∃ j, w' = w.more j) :=
    (Tryz.strconv_Itoa n h0 h1 w hE).mono fun e w' ⟨he, k, os, hw⟩ => ⟨he, by rw [hw]; exact grow_junk w k os⟩
  clear hE
  generalize Lib.itoa n = T at H ⊢
  go_enter Tryz.func20, Tryz.ntmps20
  go_wp2_with (go_at_call 48; (with_reducible refine (H.out).mono ?_); rintro e w' ⟨rfl, j, rfl⟩)
  go_ret
  exact ⟨rfl, Below.junk bel⟩

set_option maxRecDepth 100000 in
theorem record_Side (n : Int) (w : World) : Calls Tryz.prog 17 #[.int .i64 n] w fun e w' => e = .returned (bstr (sideF n)) ∧ w = w' := by
  cases h0 : (n == 0)
  · have g0 : ¬ n = 0 := by simpa using h0
    cases h1 : (n == 1)
    · have g1 : ¬ n = 1 := by simpa using h1
      have HR : Hid (sideF n = []) := by show _ = _; unfold sideF; rw [if_neg g0, if_neg g1]
      clear g0 g1
      go_enter Tryz.func17, Tryz.ntmps17
      go_wp2_with fail
      go_ret
      exact ⟨by rw [HR.out]; rfl, rfl⟩
    · obtain rfl : n = 1 := by simpa using h1
      clear h0 h1 g0
      go_enter Tryz.func17, Tryz.ntmps17
      go_wp2_with fail
      go_ret
      exact ⟨rfl, rfl⟩
  · obtain rfl : n = 0 := by simpa using h0
    clear h0
    go_enter Tryz.func17, Tryz.ntmps17
    go_wp2_with fail
    go_ret
    exact ⟨rfl, rfl⟩
def NamesPost (n : Nat) (f : Nat → List UInt8) (w : World) (e : Ending) (w' : World) : Prop := ∃ g, e = .returned (.slice (some ⟨g, 0, none⟩) n n) ∧ (∀ k, k < n → w'.cell? ⟨g, k, none⟩ = some (bstr (f k))) ∧ g < w'.heap.size ∧ Below w.heap.size w w'
theorem names_post {n : Nat} {f : Nat → List UInt8} {w : World} {t : TypeId} {cs : Array Value} (h : ∀ k, k < n → cs[k]? = some (bstr (f k))) : NamesPost n f w (.returned (.slice (some ⟨w.heap.size, 0, none⟩) n n)) (w.alloc (.cells cs t)) :=
  ⟨_, rfl, fun k hk => (Blk.new w t cs).cell k |>.trans (h k hk), by simp, (Below.refl _ _).alloc (Nat.le_refl _) _⟩
def sideN (k : Nat) : List UInt8 := [[99, 108, 105, 101, 110, 116], [115, 101, 114, 118, 101, 114]].getD k []
def kindN (k : Nat) : List UInt8 := [[97, 108, 108, 111, 119, 101, 100], [105, 103, 110, 111, 114, 101, 100], [114, 101, 106, 101, 99, 116, 101, 100], [108, 105, 109, 105, 116, 101, 100]].getD k []
theorem scan_step (f : Int → List UInt8) (s : List UInt8) (g : Nat) (t : Int) : scanF f s (g + 1) t = if f t = s then (t, true) else scanF f s g (t + 1) := rfl
end Go.Proofs.YtfcgdfcekpbliaaGreatDoor
