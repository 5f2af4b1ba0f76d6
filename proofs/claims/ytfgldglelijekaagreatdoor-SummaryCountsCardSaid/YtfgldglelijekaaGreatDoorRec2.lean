/-
  Records: names of sides, kinds and types, both roads.
-/
import Derived.Test.YtfgldglelijekaaGreatDoorRec1
import Derived.Test.YtfgldglelijekaaGreatDoorDig6
import Derived.Test.YtfgldglelijekaaGreatDoorDig4
import Derived.Laws.StructEq
namespace Go.Proofs.YtfgldglelijekaaGreatDoor
set_option linter.unusedSimpArgs false
set_option linter.unusedVariables false
set_option linter.unusedSectionVars false
open Go.ChangeShapes Go.WideShapes Go.ChangeAt Go.RowKit Go.Deep Go.Shelf

def KN (w : World) : Prop := ∀ k, k < 10 → w.cell? ⟨0, k, none⟩ = some (bstr (tyName k))
def EnvP (w : World) : Prop := Lib.TabIs Tryz.prog w "internal/strconv.uint64pow10" .u64 Lib.pow10Tab
theorem EnvP.below {w w' : World} (h : EnvP w) (hb : Below w.heap.size w w') : EnvP w' := by
  obtain ⟨g, hg⟩ := pow_named
  exact var?_below hb hg (var_lt hg h) h
structure EnvK0 (w : World) : Prop where
  p : EnvP w
  kn : KN w
theorem EnvK0.below {w w' : World} (h : EnvK0 w) (hb : Below w.heap.size w w') : EnvK0 w' :=
  ⟨h.p.below hb, fun k hk => (hb.cell (p := ⟨0, k, none⟩) (cell_lt (h.kn 0 (by omega)))).trans (h.kn k hk)⟩
theorem EnvK0.more {w : World} (h : EnvK0 w) (j : Junk) : EnvK0 (w.more j) := h.below (Below.moreS (Below.refl w.heap.size w) j)
set_option maxHeartbeats 2000000 in
set_option maxRecDepth 100000 in
theorem digits_Text0 (n : Int) (h0 : -9223372036854775808 ≤ n) (h1 : n ≤ 9223372036854775807) (w : World) (hE : EnvP w) :
    Calls Tryz.prog 18 #[.int .i64 n] w fun e w' => e = .returned (bstr (Lib.itoa n)) ∧ ∃ j, w' = w.more j := by
  have H : Hid (Calls Tryz.prog 33 #[.int .i64 n] w fun e w' => e = .returned (bstr (Lib.itoa n)) ∧ ∃ j, w' = w.more j) :=
    (Tryz.strconv_Itoa n h0 h1 w hE).mono fun e w' ⟨he, k, os, hw⟩ => ⟨he, by rw [hw]; exact grow_junk w k os⟩
  clear hE
  generalize Lib.itoa n = T at H ⊢
  go_enter Tryz.func18, Tryz.ntmps18
  go_wp2_with (go_at_call 33; (with_reducible refine (H.out).mono ?_); rintro e w' ⟨rfl, j, rfl⟩)
  go_ret
  exact ⟨rfl, Below.junk (by repeat (first | (with_reducible exact Below.refl _ _) | (with_reducible refine Below.allocS ?_ _) | (with_reducible refine Below.moreS ?_ _) | (with_reducible refine Below.drew ?_) | (with_reducible refine below_drewN ?_ _)))⟩

set_option maxRecDepth 100000 in
theorem record_Side (n : Int) (w : World) : Calls Tryz.prog 17 #[.int .i64 n] w fun e w' => e = .returned (bstr (sideF n)) ∧ w = w' := by
  cases h0 : (n == 0)
  · have g0 : ¬ n = 0 := by simpa using h0
    cases h1 : (n == 1)
    · have g1 : ¬ n = 1 := by simpa using h1
      have HR : Hid (sideF n = []) := by show _ = _; unfold sideF; rw [if_neg g0, if_neg g1]
      clear g0 g1
      go_enter Tryz.func17, Tryz.ntmps17
      go_wp2_with fail
      go_ret
      exact ⟨by rw [HR.out]; rfl, rfl⟩
    · obtain rfl : n = 1 := by simpa using h1
      clear h0 h1 g0
      go_enter Tryz.func17, Tryz.ntmps17
      go_wp2_with fail
      go_ret
      exact ⟨rfl, rfl⟩
  · obtain rfl : n = 0 := by simpa using h0
    clear h0
    go_enter Tryz.func17, Tryz.ntmps17
    go_wp2_with fail
    go_ret
    exact ⟨rfl, rfl⟩
set_option maxRecDepth 100000 in
theorem record_Kind (n : Int) (w : World) : Calls Tryz.prog 21 #[.int .i64 n] w fun e w' => e = .returned (bstr (kindF n)) ∧ w = w' := by
  by_cases h : 1 ≤ n ∧ n ≤ 4
  · rcases kindF_cases h with rfl | rfl | rfl | rfl
    all_goals
      clear h
      go_enter Tryz.func21, Tryz.ntmps21
      go_wp2_with fail
      go_ret
      exact ⟨rfl, rfl⟩
  · have HR : Hid (kindF n = []) := by show _ = _; unfold kindF; rw [if_neg (by omega), if_neg (by omega), if_neg (by omega), if_neg (by omega)]
    have h1 : (n == 1) = false := by rw [beq_eq_false_iff_ne]; omega
    have h2 : (n == 2) = false := by rw [beq_eq_false_iff_ne]; omega
    have h3 : (n == 3) = false := by rw [beq_eq_false_iff_ne]; omega
    have h4 : (n == 4) = false := by rw [beq_eq_false_iff_ne]; omega
    clear h
    go_enter Tryz.func21, Tryz.ntmps21
    go_wp2_with fail
    go_ret
    exact ⟨by rw [HR.out]; rfl, rfl⟩
set_option maxRecDepth 100000 in
theorem kinds_Known (n : Int) (w : World) : Calls Tryz.prog 27 #[.int .i64 n] w fun e w' => e = .returned (.bool (inB n 9)) ∧ w = w' := by
  by_cases h0 : 0 ≤ n <;> by_cases h1 : n ≤ 9
  all_goals
    go_enter Tryz.func27, Tryz.ntmps27
    go_wp2_with fail
    go_ret
    exact ⟨by simp [inB, h0, h1], rfl⟩
set_option maxHeartbeats 2000000 in
set_option maxRecDepth 100000 in
theorem kinds_Name (t : Int) (w : World) (hE : EnvK0 w) : Calls Tryz.prog 20 #[.int .i64 t] w fun e w' => e = .returned (bstr (nameF t)) ∧ ∃ j, w' = w.more j := by
  cases hm : (t == -1)
  · have gm : ¬ t = -1 := by simpa using hm
    by_cases hk : 0 ≤ t ∧ t ≤ 9
    · obtain ⟨k, rfl⟩ : ∃ k : Nat, t = (k : Int) := ⟨t.toNat, by omega⟩
      have c0 := hE.kn k (by omega)
      have HK : Hid (∀ W, Calls Tryz.prog 27 #[.int .i64 (k : Int)] W fun e w' => e = .returned (.bool true) ∧ W = w') := fun W => by
        have := kinds_Known (k : Int) W
        rw [show inB (k : Int) 9 = true from inB_iff.2 hk] at this
        exact this
      have HR : Hid (nameF (k : Int) = tyName k) := by show _ = _; unfold nameF; rw [if_neg gm, if_pos hk]; rfl
      have i1 : (k : Int) < 10 := by omega
      generalize tyName k = T at HR c0
      clear gm hE hk
      go_enter Tryz.func20, Tryz.ntmps20
      go_wp2_with (go_at_call 27; (with_reducible refine (HK.out _).mono ?_); rintro e w' ⟨rfl, rfl⟩)
      go_ret
      exact ⟨by rw [HR.out]; rfl, Below.junk (by repeat (first | (with_reducible exact Below.refl _ _) | (with_reducible refine Below.allocS ?_ _) | (with_reducible refine Below.moreS ?_ _) | (with_reducible refine Below.drew ?_) | (with_reducible refine below_drewN ?_ _)))⟩
    · have HK : Hid (∀ W, Calls Tryz.prog 27 #[.int .i64 t] W fun e w' => e = .returned (.bool false) ∧ W = w') := fun W => by
        have := kinds_Known t W
        rw [show inB t 9 = false from by cases h : inB t 9 with | false => rfl | true => exact absurd (inB_iff.1 h) hk] at this
        exact this
      by_cases h9 : 9 < t
      · by_cases h255 : t ≤ 255
        · have HT : Hid (∀ W, EnvP W → Calls Tryz.prog 18 #[.int .i64 t] W fun e w' => e = .returned (bstr (Lib.itoa t)) ∧ ∃ j, w' = W.more j) := fun W hW => digits_Text0 t (by omega) (by omega) W hW
          have HR : Hid (nameF t = [84, 89, 80, 69, 95] ++ Lib.itoa t) := by show _ = _; unfold nameF; rw [if_neg gm, if_neg hk, if_pos ⟨h9, h255⟩]
          have hlen := itoa_len (n := t) (by omega) (by omega)
          have HE := Lib.hid hE.p
          generalize Lib.itoa t = T at HT HR hlen
          clear gm hE hk
          go_enter Tryz.func20, Tryz.ntmps20
          go_wp2_with (first
            | (go_at_call 27; (with_reducible refine (HK.out _).mono ?_); rintro e w' ⟨rfl, rfl⟩)
            | (go_at_call 18; (with_reducible refine (HT.out _ (HE.out.below (by repeat (first | (with_reducible exact Below.refl _ _) | (with_reducible refine Below.allocS ?_ _) | (with_reducible refine Below.moreS ?_ _) | (with_reducible refine Below.drew ?_) | (with_reducible refine below_drewN ?_ _))))).mono ?_); rintro e w' ⟨rfl, j, rfl⟩))
          go_ret
          exact ⟨by rw [HR.out]; rfl, Below.junk (by repeat (first | (with_reducible exact Below.refl _ _) | (with_reducible refine Below.allocS ?_ _) | (with_reducible refine Below.moreS ?_ _) | (with_reducible refine Below.drew ?_) | (with_reducible refine below_drewN ?_ _)))⟩
        · have HR : Hid (nameF t = []) := by show _ = _; exact nameF_out (by omega)
          clear gm hE hk
          go_enter Tryz.func20, Tryz.ntmps20
          go_wp2_with (go_at_call 27; (with_reducible refine (HK.out _).mono ?_); rintro e w' ⟨rfl, rfl⟩)
          go_ret
          exact ⟨by rw [HR.out]; rfl, Below.junk (by repeat (first | (with_reducible exact Below.refl _ _) | (with_reducible refine Below.allocS ?_ _) | (with_reducible refine Below.moreS ?_ _) | (with_reducible refine Below.drew ?_) | (with_reducible refine below_drewN ?_ _)))⟩
      · have HR : Hid (nameF t = []) := by show _ = _; exact nameF_out (by omega)
        clear gm hE hk
        go_enter Tryz.func20, Tryz.ntmps20
        go_wp2_with (go_at_call 27; (with_reducible refine (HK.out _).mono ?_); rintro e w' ⟨rfl, rfl⟩)
        go_ret
        exact ⟨by rw [HR.out]; rfl, Below.junk (by repeat (first | (with_reducible exact Below.refl _ _) | (with_reducible refine Below.allocS ?_ _) | (with_reducible refine Below.moreS ?_ _) | (with_reducible refine Below.drew ?_) | (with_reducible refine below_drewN ?_ _)))⟩
  · obtain rfl : t = -1 := by simpa using hm
    clear hm hE
    go_enter Tryz.func20, Tryz.ntmps20
    go_wp2_with fail
    go_ret
    exact ⟨rfl, Below.junk (by repeat (first | (with_reducible exact Below.refl _ _) | (with_reducible refine Below.allocS ?_ _) | (with_reducible refine Below.moreS ?_ _) | (with_reducible refine Below.drew ?_) | (with_reducible refine below_drewN ?_ _)))⟩

def NamesPost (n : Nat) (f : Nat → List UInt8) (w : World) (e : Ending) (w' : World) : Prop := ∃ g, e = .returned (.slice (some ⟨g, 0, none⟩) n n) ∧ (∀ k, k < n → w'.cell? ⟨g, k, none⟩ = some (bstr (f k))) ∧ g < w'.heap.size ∧ Below w.heap.size w w'
theorem names_post {n : Nat} {f : Nat → List UInt8} {w : World} {t : TypeId} {cs : Array Value} (h : ∀ k, k < n → cs[k]? = some (bstr (f k))) : NamesPost n f w (.returned (.slice (some ⟨w.heap.size, 0, none⟩) n n)) (w.alloc (.cells cs t)) :=
  ⟨_, rfl, fun k hk => (Blk.new w t cs).cell k |>.trans (h k hk), by simp, (Below.refl _ _).alloc (Nat.le_refl _) _⟩
def sideN (k : Nat) : List UInt8 := [[99, 108, 105, 101, 110, 116], [115, 101, 114, 118, 101, 114]].getD k []
def kindN (k : Nat) : List UInt8 := [[97, 108, 108, 111, 119, 101, 100], [105, 103, 110, 111, 114, 101, 100], [114, 101, 106, 101, 99, 116, 101, 100], [108, 105, 109, 105, 116, 101, 100]].getD k []
theorem scan_step (f : Int → List UInt8) (s : List UInt8) (g : Nat) (t : Int) : scanF f s (g + 1) t = if f t = s then (t, true) else scanF f s g (t + 1) := rfl
end Go.Proofs.YtfgldglelijekaaGreatDoor
