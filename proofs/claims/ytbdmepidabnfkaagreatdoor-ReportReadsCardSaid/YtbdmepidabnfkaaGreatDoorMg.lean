/-
  Parts of the proof, one behind the other: contracts of the program and plain laws; no condition of their own.
-/
import Derived.Test.YtbdmepidabnfkaaGreatDoorMa
import Derived.Test.YtbdmepidabnfkaaGreatDoorMf
import Derived.Laws.StructEq
import Derived.Test.YtbdmepidabnfkaaGreatDoorMd
import Derived.Test.YtbdmepidabnfkaaGreatDoorMe
import Derived.Deep.RegionHeld3
/-
  Records: names of sides, kinds and types, both roads.
-/
namespace Go.Proofs.YtbdmepidabnfkaaGreatDoor
set_option linter.unusedSimpArgs false
set_option linter.unusedVariables false
set_option linter.unusedSectionVars false
open Go.ChangeShapes Go.WideShapes Go.ChangeAt Go.RowKit Go.Deep Go.Shelf

def KN (w : World) : Prop := ∀ k, k < 10 → w.cell? ⟨0, k, none⟩ = some (bstr (tyName k))
structure EnvK (w : World) : Prop where
  env : Env w
  kn : KN w
theorem EnvK.below {w w' : World} (h : EnvK w) (hb : Below w.heap.size w w') : EnvK w' :=
  ⟨h.env.below hb, fun k hk => (hb.cell (p := ⟨0, k, none⟩) (cell_lt (h.kn 0 (by omega)))).trans (h.kn k hk)⟩
theorem EnvK.more {w : World} (h : EnvK w) (j : Junk) : EnvK (w.more j) := h.below (Below.moreS (Below.refl w.heap.size w) j)

def EnvP (w : World) : Prop := Lib.TabIs Tryz.prog w "internal/strconv.uint64pow10" .u64 Lib.pow10Tab
theorem EnvP.below {w w' : World} (h : EnvP w) (hb : Below w.heap.size w w') : EnvP w' := by
  obtain ⟨g, hg⟩ := pow_named
  exact var?_below hb hg (var_lt hg h) h
structure EnvK0 (w : World) : Prop where
  p : EnvP w
  kn : KN w
theorem EnvK0.below {w w' : World} (h : EnvK0 w) (hb : Below w.heap.size w w') : EnvK0 w' :=
  ⟨h.p.below hb, fun k hk => (hb.cell (p := ⟨0, k, none⟩) (cell_lt (h.kn 0 (by omega)))).trans (h.kn k hk)⟩
theorem EnvK0.more {w : World} (h : EnvK0 w) (j : Junk) : EnvK0 (w.more j) := h.below (Below.moreS (Below.refl w.heap.size w) j)
theorem EnvK.k0 {w : World} (h : EnvK w) : EnvK0 w := ⟨h.env.pow, h.kn⟩
set_option maxHeartbeats 2000000 in
set_option maxRecDepth 100000 in
theorem digits_Text0 (n : Int) (h0 : -9223372036854775808 ≤ n) (h1 : n ≤ 9223372036854775807) (w : World) (hE : EnvP w) :
    Calls Tryz.prog 61 #[.int .i64 n] w fun e w' => e = .returned (bstr (Lib.itoa n)) ∧ ∃ j, w' = w.more j := by
  have H : Hid (Calls Tryz.prog 99 #[.int .i64 n] w fun e w' => e = .returned (bstr (Lib.itoa n)) ∧ ∃ j, w' = w.more j) :=
    (Tryz.strconv_Itoa n h0 h1 w hE).mono fun e w' ⟨he, k, os, hw⟩ => ⟨he, by rw [hw]; exact grow_junk w k os⟩
  clear hE
  generalize Lib.itoa n = T at H ⊢
  go_enter Tryz.func61, Tryz.ntmps61
  go_wp2_with (go_at_call 99; (with_reducible refine (H.out).mono ?_); rintro e w' ⟨rfl, j, rfl⟩)
  go_ret
  exact ⟨rfl, Below.junk (by repeat (first | (with_reducible exact Below.refl _ _) | (with_reducible refine Below.allocS ?_ _) | (with_reducible refine Below.moreS ?_ _) | (with_reducible refine Below.drew ?_) | (with_reducible refine below_drewN ?_ _)))⟩

set_option maxRecDepth 100000 in
theorem record_Side (n : Int) (w : World) : Calls Tryz.prog 63 #[.int .i64 n] w fun e w' => e = .returned (bstr (sideF n)) ∧ w = w' := by
  cases h0 : (n == 0)
  · have g0 : ¬ n = 0 := by simpa using h0
    cases h1 : (n == 1)
    · have g1 : ¬ n = 1 := by simpa using h1
      have HR : Hid (sideF n = []) := by show _ = _; unfold sideF; rw [if_neg g0, if_neg g1]
      clear g0 g1
      go_enter Tryz.func63, Tryz.ntmps63
      go_wp2_with fail
      go_ret
      exact ⟨by rw [HR.out]; rfl, rfl⟩
    · obtain rfl : n = 1 := by simpa using h1
      clear h0 h1 g0
      go_enter Tryz.func63, Tryz.ntmps63
      go_wp2_with fail
      go_ret
      exact ⟨rfl, rfl⟩
  · obtain rfl : n = 0 := by simpa using h0
    clear h0
    go_enter Tryz.func63, Tryz.ntmps63
    go_wp2_with fail
    go_ret
    exact ⟨rfl, rfl⟩
set_option maxRecDepth 100000 in
theorem record_Kind (n : Int) (w : World) : Calls Tryz.prog 22 #[.int .i64 n] w fun e w' => e = .returned (bstr (kindF n)) ∧ w = w' := by
  by_cases h : 1 ≤ n ∧ n ≤ 4
  · rcases kindF_cases h with rfl | rfl | rfl | rfl
    all_goals
      clear h
      go_enter Tryz.func22, Tryz.ntmps22
      go_wp2_with fail
      go_ret
      exact ⟨rfl, rfl⟩
  · have HR : Hid (kindF n = []) := by show _ = _; unfold kindF; rw [if_neg (by omega), if_neg (by omega), if_neg (by omega), if_neg (by omega)]
    have h1 : (n == 1) = false := by rw [beq_eq_false_iff_ne]; omega
    have h2 : (n == 2) = false := by rw [beq_eq_false_iff_ne]; omega
    have h3 : (n == 3) = false := by rw [beq_eq_false_iff_ne]; omega
    have h4 : (n == 4) = false := by rw [beq_eq_false_iff_ne]; omega
    clear h
    go_enter Tryz.func22, Tryz.ntmps22
    go_wp2_with fail
    go_ret
    exact ⟨by rw [HR.out]; rfl, rfl⟩
set_option maxRecDepth 100000 in
theorem kinds_Known (n : Int) (w : World) : Calls Tryz.prog 101 #[.int .i64 n] w fun e w' => e = .returned (.bool (inB n 9)) ∧ w = w' := by
  by_cases h0 : 0 ≤ n <;> by_cases h1 : n ≤ 9
  all_goals
    go_enter Tryz.func101, Tryz.ntmps101
    go_wp2_with fail
    go_ret
    exact ⟨by simp [inB, h0, h1], rfl⟩
set_option maxRecDepth 100000 in
theorem head_within (n m : Int) (w : World) : Calls Tryz.prog 112 #[.int .i64 n, .int .i64 m] w fun e w' => e = .returned (.bool (inB n m)) ∧ w = w' := by
  by_cases h0 : 0 ≤ n <;> by_cases h1 : n ≤ m
  all_goals
    go_enter Tryz.func112, Tryz.ntmps112
    go_wp2_with fail
    go_ret
    exact ⟨by simp [inB, h0, h1], rfl⟩
set_option maxRecDepth 100000 in
theorem head_Right (ln ty fl st : Int) (rs : Bool) (w : World) : Calls Tryz.prog 72 #[.agg #[.int .i64 ln, .int .i64 ty, .int .i64 fl, .int .i64 st, .bool rs]] w fun e w' => e = .returned (.bool (headR ln ty fl st)) ∧ ∃ j, w' = w.more j := by
  have H1 : Hid (∀ W, Calls Tryz.prog 112 #[.int .i64 ln, .int .i64 16777215] W fun e w' => e = .returned (.bool (inB ln 16777215)) ∧ W = w') := head_within ln 16777215
  have H2 : Hid (∀ W, Calls Tryz.prog 112 #[.int .i64 ty, .int .i64 255] W fun e w' => e = .returned (.bool (inB ty 255)) ∧ W = w') := head_within ty 255
  have H3 : Hid (∀ W, Calls Tryz.prog 112 #[.int .i64 fl, .int .i64 255] W fun e w' => e = .returned (.bool (inB fl 255)) ∧ W = w') := head_within fl 255
  have H4 : Hid (∀ W, Calls Tryz.prog 112 #[.int .i64 st, .int .i64 2147483647] W fun e w' => e = .returned (.bool (inB st 2147483647)) ∧ W = w') := head_within st 2147483647
  unfold headR
  generalize inB ln 16777215 = b1 at H1 ⊢
  generalize inB ty 255 = b2 at H2 ⊢
  generalize inB fl 255 = b3 at H3 ⊢
  generalize inB st 2147483647 = b4 at H4 ⊢
  cases b1 <;> cases b2 <;> cases b3
  all_goals
    go_enter Tryz.func72, Tryz.ntmps72
    go_wp2_with (first
      | (go_at_call 112; (with_reducible refine (H1.out _).mono ?_); rintro e w' ⟨rfl, rfl⟩)
      | (go_at_call 112; (with_reducible refine (H2.out _).mono ?_); rintro e w' ⟨rfl, rfl⟩)
      | (go_at_call 112; (with_reducible refine (H3.out _).mono ?_); rintro e w' ⟨rfl, rfl⟩)
      | (go_at_call 112; (with_reducible refine (H4.out _).mono ?_); rintro e w' ⟨rfl, rfl⟩))
    go_ret
    exact ⟨rfl, Below.junk (by repeat (first | (with_reducible exact Below.refl _ _) | (with_reducible refine Below.allocS ?_ _) | (with_reducible refine Below.moreS ?_ _) | (with_reducible refine Below.drew ?_) | (with_reducible refine below_drewN ?_ _)))⟩

set_option maxHeartbeats 2000000 in
set_option maxRecDepth 100000 in
theorem kinds_Name (t : Int) (w : World) (hE : EnvK0 w) : Calls Tryz.prog 64 #[.int .i64 t] w fun e w' => e = .returned (bstr (nameF t)) ∧ ∃ j, w' = w.more j := by
  cases hm : (t == -1)
  · have gm : ¬ t = -1 := by simpa using hm
    by_cases hk : 0 ≤ t ∧ t ≤ 9
    · obtain ⟨k, rfl⟩ : ∃ k : Nat, t = (k : Int) := ⟨t.toNat, by omega⟩
      have c0 := hE.kn k (by omega)
      have HK : Hid (∀ W, Calls Tryz.prog 101 #[.int .i64 (k : Int)] W fun e w' => e = .returned (.bool true) ∧ W = w') := fun W => by
        have := kinds_Known (k : Int) W
        rw [show inB (k : Int) 9 = true from inB_iff.2 hk] at this
        exact this
      have HR : Hid (nameF (k : Int) = tyName k) := by show _ = _; unfold nameF; rw [if_neg gm, if_pos hk]; rfl
      have i1 : (k : Int) < 10 := by omega
      generalize tyName k = T at HR c0
      clear gm hE hk
      go_enter Tryz.func64, Tryz.ntmps64
      go_wp2_with (go_at_call 101; (with_reducible refine (HK.out _).mono ?_); rintro e w' ⟨rfl, rfl⟩)
      go_ret
      exact ⟨by rw [HR.out]; rfl, Below.junk (by repeat (first | (with_reducible exact Below.refl _ _) | (with_reducible refine Below.allocS ?_ _) | (with_reducible refine Below.moreS ?_ _) | (with_reducible refine Below.drew ?_) | (with_reducible refine below_drewN ?_ _)))⟩
    · have HK : Hid (∀ W, Calls Tryz.prog 101 #[.int .i64 t] W fun e w' => e = .returned (.bool false) ∧ W = w') := fun W => by
        have := kinds_Known t W
        rw [show inB t 9 = false from by cases h : inB t 9 with | false => rfl | true => exact absurd (inB_iff.1 h) hk] at this
        exact this
      by_cases h9 : 9 < t
      · by_cases h255 : t ≤ 255
        · have HT : Hid (∀ W, EnvP W → Calls Tryz.prog 61 #[.int .i64 t] W fun e w' => e = .returned (bstr (Lib.itoa t)) ∧ ∃ j, w' = W.more j) := fun W hW => digits_Text0 t (by omega) (by omega) W hW
          have HR : Hid (nameF t = [84, 89, 80, 69, 95] ++ Lib.itoa t) := by show _ = _; unfold nameF; rw [if_neg gm, if_neg hk, if_pos ⟨h9, h255⟩]
          have hlen := itoa_len (n := t) (by omega) (by omega)
          have HE := Lib.hid hE.p
          generalize Lib.itoa t = T at HT HR hlen
          clear gm hE hk
          go_enter Tryz.func64, Tryz.ntmps64
          go_wp2_with (first
            | (go_at_call 101; (with_reducible refine (HK.out _).mono ?_); rintro e w' ⟨rfl, rfl⟩)
            | (go_at_call 61; (with_reducible refine (HT.out _ (HE.out.below (by repeat (first | (with_reducible exact Below.refl _ _) | (with_reducible refine Below.allocS ?_ _) | (with_reducible refine Below.moreS ?_ _) | (with_reducible refine Below.drew ?_) | (with_reducible refine below_drewN ?_ _))))).mono ?_); rintro e w' ⟨rfl, j, rfl⟩))
          go_ret
          exact ⟨by rw [HR.out]; rfl, Below.junk (by repeat (first | (with_reducible exact Below.refl _ _) | (with_reducible refine Below.allocS ?_ _) | (with_reducible refine Below.moreS ?_ _) | (with_reducible refine Below.drew ?_) | (with_reducible refine below_drewN ?_ _)))⟩
        · have HR : Hid (nameF t = []) := by show _ = _; exact nameF_out (by omega)
          clear gm hE hk
          go_enter Tryz.func64, Tryz.ntmps64
          go_wp2_with (go_at_call 101; (with_reducible refine (HK.out _).mono ?_); rintro e w' ⟨rfl, rfl⟩)
          go_ret
          exact ⟨by rw [HR.out]; rfl, Below.junk (by repeat (first | (with_reducible exact Below.refl _ _) | (with_reducible refine Below.allocS ?_ _) | (with_reducible refine Below.moreS ?_ _) | (with_reducible refine Below.drew ?_) | (with_reducible refine below_drewN ?_ _)))⟩
      · have HR : Hid (nameF t = []) := by show _ = _; exact nameF_out (by omega)
        clear gm hE hk
        go_enter Tryz.func64, Tryz.ntmps64
        go_wp2_with (go_at_call 101; (with_reducible refine (HK.out _).mono ?_); rintro e w' ⟨rfl, rfl⟩)
        go_ret
        exact ⟨by rw [HR.out]; rfl, Below.junk (by repeat (first | (with_reducible exact Below.refl _ _) | (with_reducible refine Below.allocS ?_ _) | (with_reducible refine Below.moreS ?_ _) | (with_reducible refine Below.drew ?_) | (with_reducible refine below_drewN ?_ _)))⟩
  · obtain rfl : t = -1 := by simpa using hm
    clear hm hE
    go_enter Tryz.func64, Tryz.ntmps64
    go_wp2_with fail
    go_ret
    exact ⟨rfl, Below.junk (by repeat (first | (with_reducible exact Below.refl _ _) | (with_reducible refine Below.allocS ?_ _) | (with_reducible refine Below.moreS ?_ _) | (with_reducible refine Below.drew ?_) | (with_reducible refine below_drewN ?_ _)))⟩

def NamesPost (n : Nat) (f : Nat → List UInt8) (w : World) (e : Ending) (w' : World) : Prop := ∃ g, e = .returned (.slice (some ⟨g, 0, none⟩) n n) ∧ (∀ k, k < n → w'.cell? ⟨g, k, none⟩ = some (bstr (f k))) ∧ g < w'.heap.size ∧ Below w.heap.size w w'
theorem names_post {n : Nat} {f : Nat → List UInt8} {w : World} {t : TypeId} {cs : Array Value} (h : ∀ k, k < n → cs[k]? = some (bstr (f k))) : NamesPost n f w (.returned (.slice (some ⟨w.heap.size, 0, none⟩) n n)) (w.alloc (.cells cs t)) :=
  ⟨_, rfl, fun k hk => (Blk.new w t cs).cell k |>.trans (h k hk), by simp, (Below.refl _ _).alloc (Nat.le_refl _) _⟩
set_option maxRecDepth 100000 in
theorem ref08_Names (w : World) : Calls Tryz.prog 121 #[] w (NamesPost 10 tyName w) := by
  go_enter Tryz.func121, Tryz.ntmps121
  go_wp2_with fail
  go_ret
  refine names_post (cs := (tyNames.map bstr).toArray) fun k hk => ?_
  have : ∀ m : Fin 10, tyNames[m.val]? = some (tyName m.val) := by decide
  simp [this ⟨k, hk⟩]
def sideN (k : Nat) : List UInt8 := [[99, 108, 105, 101, 110, 116], [115, 101, 114, 118, 101, 114]].getD k []
def kindN (k : Nat) : List UInt8 := [[97, 108, 108, 111, 119, 101, 100], [105, 103, 110, 111, 114, 101, 100], [114, 101, 106, 101, 99, 116, 101, 100], [108, 105, 109, 105, 116, 101, 100]].getD k []
set_option maxRecDepth 100000 in
theorem ref41_sides (w : World) : Calls Tryz.prog 88 #[] w (NamesPost 2 sideN w) := by
  go_enter Tryz.func88, Tryz.ntmps88
  go_wp2_with fail
  go_ret
  refine names_post (cs := ([[99, 108, 105, 101, 110, 116], [115, 101, 114, 118, 101, 114]].map bstr).toArray) fun k hk => ?_
  match k, hk with
  | 0, _ => rfl
  | 1, _ => rfl
set_option maxRecDepth 100000 in
theorem ref41_Kinds (w : World) : Calls Tryz.prog 48 #[] w (NamesPost 4 kindN w) := by
  go_enter Tryz.func48, Tryz.ntmps48
  go_wp2_with fail
  go_ret
  refine names_post (cs := ([[97, 108, 108, 111, 119, 101, 100], [105, 103, 110, 111, 114, 101, 100], [114, 101, 106, 101, 99, 116, 101, 100], [108, 105, 109, 105, 116, 101, 100]].map bstr).toArray) fun k hk => ?_
  match k, hk with
  | 0, _ => rfl
  | 1, _ => rfl
  | 2, _ => rfl
  | 3, _ => rfl
set_option maxHeartbeats 2000000 in
set_option maxRecDepth 100000 in
theorem ref08_Name (t : Int) (w : World) : Calls Tryz.prog 89 #[.int .i64 t] w fun e w' => e = .returned (bstr (nameF t)) ∧ ∃ j, w' = w.more j := by
  cases hm : (t == -1)
  · have gm : ¬ t = -1 := by simpa using hm
    by_cases h0 : t < 0
    · have HR : Hid (nameF t = []) := by show _ = _; exact nameF_out (by omega)
      clear gm
      go_enter Tryz.func89, Tryz.ntmps89
      go_wp2_with fail
      go_ret
      exact ⟨by rw [HR.out]; rfl, Below.junk (by repeat (first | (with_reducible exact Below.refl _ _) | (with_reducible refine Below.allocS ?_ _) | (with_reducible refine Below.moreS ?_ _) | (with_reducible refine Below.drew ?_) | (with_reducible refine below_drewN ?_ _)))⟩
    by_cases h255 : 255 < t
    · have HR : Hid (nameF t = []) := by show _ = _; exact nameF_out (by omega)
      clear gm
      go_enter Tryz.func89, Tryz.ntmps89
      go_wp2_with fail
      go_ret
      exact ⟨by rw [HR.out]; rfl, Below.junk (by repeat (first | (with_reducible exact Below.refl _ _) | (with_reducible refine Below.allocS ?_ _) | (with_reducible refine Below.moreS ?_ _) | (with_reducible refine Below.drew ?_) | (with_reducible refine below_drewN ?_ _)))⟩
    by_cases h10 : t < 10
    · obtain ⟨k, rfl⟩ : ∃ k : Nat, t = (k : Int) := ⟨t.toNat, by omega⟩
      have HR : Hid (nameF (k : Int) = tyName k) := by show _ = _; unfold nameF; rw [if_neg gm, if_pos (by omega)]; rfl
      have HN := Lib.hid (ref08_Names w)
      have hk : k < 10 := by omega
      clear gm
      go_enter Tryz.func89, Tryz.ntmps89
      go_wp2_with fail
      refine HN.out.mono ?_
      rintro e w' ⟨g, rfl, hc, hg, hb⟩
      have c0 := hc k hk
      have HB := Lib.hid hb
      generalize tyName k = T at HR c0
      clear hc hb hk
      go_wp2_with fail
      go_ret
      exact ⟨by rw [HR.out]; rfl, HB.out.junk⟩
    · have HT : Hid (∀ W, Calls Tryz.prog 86 #[.int .i64 t] W fun e w' => e = .returned (bstr (Lib.itoa t)) ∧ W = w') := fun W => ref03_Text t (by omega) (by omega) W
      have HR : Hid (nameF t = [84, 89, 80, 69, 95] ++ Lib.itoa t) := by show _ = _; unfold nameF; rw [if_neg gm, if_neg (by omega), if_pos (by omega)]
      have hlen := itoa_len (n := t) (by omega) (by omega)
      generalize Lib.itoa t = T at HT HR hlen
      clear gm
      go_enter Tryz.func89, Tryz.ntmps89
      go_wp2_with (go_at_call 86; (with_reducible refine (HT.out _).mono ?_); rintro e w' ⟨rfl, rfl⟩)
      go_ret
      exact ⟨by rw [HR.out]; rfl, Below.junk (by repeat (first | (with_reducible exact Below.refl _ _) | (with_reducible refine Below.allocS ?_ _) | (with_reducible refine Below.moreS ?_ _) | (with_reducible refine Below.drew ?_) | (with_reducible refine below_drewN ?_ _)))⟩
  · obtain rfl : t = -1 := by simpa using hm
    clear hm
    go_enter Tryz.func89, Tryz.ntmps89
    go_wp2_with fail
    go_ret
    exact ⟨rfl, Below.junk (by repeat (first | (with_reducible exact Below.refl _ _) | (with_reducible refine Below.allocS ?_ _) | (with_reducible refine Below.moreS ?_ _) | (with_reducible refine Below.drew ?_) | (with_reducible refine below_drewN ?_ _)))⟩

theorem scan_step (f : Int → List UInt8) (s : List UInt8) (g : Nat) (t : Int) : scanF f s (g + 1) t = if f t = s then (t, true) else scanF f s g (t + 1) := rfl
set_option maxHeartbeats 4000000 in
set_option maxRecDepth 100000 in
theorem kinds_ByName (s : List UInt8) (hs : s.length ≤ 1048576) (w : World) (hE : EnvK w) : Calls Tryz.prog 115 #[bstr s] w fun e w' => e = .returned (.tuple #[.int .i64 (byNameF s).1, .bool (byNameF s).2]) ∧ ∃ j, w' = w.more j := by
  by_cases h0 : s = []
  · subst h0
    rw [byName_nil]
    go_enter Tryz.func115, Tryz.ntmps115
    go_wp2_with fail
    go_ret2
    exact ⟨rfl, Below.junk (by repeat (first | (with_reducible exact Below.refl _ _) | (with_reducible refine Below.allocS ?_ _) | (with_reducible refine Below.moreS ?_ _) | (with_reducible refine Below.drew ?_) | (with_reducible refine below_drewN ?_ _)))⟩
  have hne : s.isEmpty = false := by cases s <;> simp_all
  have hne' : (!s.isEmpty) = true := by rw [hne]; rfl
  have HF : Hid (byNameF s = scanF nameF s 257 (-1)) := rfl
  have HE := Lib.hid hE
  clear h0 hE
  generalize byNameF s = R at HF ⊢
  obtain ⟨r1, r2⟩ := R
  go_enter Tryz.func115, Tryz.ntmps115
  go_wp2_with fail
  go_loopg [4] 257 (fun g i wr => ∃ (t : Int) (q : Nat), q = g ∧ t + q = 256 ∧ q ≤ 257 ∧ i = .int .i64 t ∧ Hid ((r1, r2) = scanF nameF s q t) ∧ ∃ j, wr = w.more j)
  case atStart => exact ⟨-1, _, rfl, by omega, by omega, rfl, HF, Below.junk (by repeat (first | (with_reducible exact Below.refl _ _) | (with_reducible refine Below.allocS ?_ _) | (with_reducible refine Below.moreS ?_ _) | (with_reducible refine Below.drew ?_) | (with_reducible refine below_drewN ?_ _)))⟩
  case round =>
    obtain ⟨t, q, hq, htg, hg257, rfl, HS, j, rfl⟩ := hrel
    have HQ := Lib.hid hq
    clear hq
    have HK := Lib.hid htg
    by_cases hlt : t ≤ 255
    · obtain ⟨g', rfl⟩ : ∃ g', q = g' + 1 := ⟨q - 1, by omega⟩
      have HN : Hid (∀ j, Calls Tryz.prog 64 #[.int .i64 t] (w.more j) fun e w' => e = .returned (bstr (nameF t)) ∧ ∃ k, w' = (w.more j).more k) := fun j => kinds_Name t _ (HE.out.more j).k0
      have HT : Hid ((r1, r2) = if nameF t = s then (t, true) else scanF nameF s g' (t + 1)) := by show _ = _; rw [HS.out, scan_step]
      have b0 : -1 ≤ t := by omega
      generalize nameF t = T at HN HT
      clear htg HS
      cases e1 : (T == s)
      · have HU : Hid ((r1, r2) = scanF nameF s g' (t + 1)) := by show _ = _; rw [HT.out, if_neg (by simpa using e1)]
        clear HT
        go_wp2_with (go_at_call 64; (with_reducible refine (HN.out _).mono ?_); rintro e w' ⟨rfl, j, rfl⟩)
        go_roundg g'
        case measure => have := HQ.out; omega
        case rel => exact ⟨t + 1, _, rfl, by have := HK.out; omega, by omega, by first | rfl | go_num, HU, Below.junk (by repeat (first | (with_reducible exact Below.refl _ _) | (with_reducible refine Below.allocS ?_ _) | (with_reducible refine Below.moreS ?_ _) | (with_reducible refine Below.drew ?_) | (with_reducible refine below_drewN ?_ _)))⟩
      · have hr : (r1, r2) = (t, true) := by rw [HT.out, if_pos (by simpa using e1)]
        obtain ⟨rfl, rfl⟩ := Prod.mk.inj hr
        clear HT hr
        go_wp2_with (go_at_call 64; (with_reducible refine (HN.out _).mono ?_); rintro e w' ⟨rfl, j, rfl⟩)
        go_ret2
        exact ⟨rfl, Below.junk (by repeat (first | (with_reducible exact Below.refl _ _) | (with_reducible refine Below.allocS ?_ _) | (with_reducible refine Below.moreS ?_ _) | (with_reducible refine Below.drew ?_) | (with_reducible refine below_drewN ?_ _)))⟩
    · obtain rfl : q = 0 := by omega
      have hr : (r1, r2) = (0, false) := HS.out
      obtain ⟨rfl, rfl⟩ := Prod.mk.inj hr
      clear hr HS htg
      go_wp2_with fail
      go_ret2
      exact ⟨rfl, Below.junk (by repeat (first | (with_reducible exact Below.refl _ _) | (with_reducible refine Below.allocS ?_ _) | (with_reducible refine Below.moreS ?_ _) | (with_reducible refine Below.drew ?_) | (with_reducible refine below_drewN ?_ _)))⟩
end Go.Proofs.YtbdmepidabnfkaaGreatDoor
/-
  Records: which may be, both roads.
-/
namespace Go.Proofs.YtbdmepidabnfkaaGreatDoor
set_option linter.unusedSimpArgs false
set_option linter.unusedVariables false
set_option linter.unusedSectionVars false
open Go.ChangeShapes Go.WideShapes Go.ChangeAt Go.RowKit Go.Deep Go.Shelf

abbrev RecT : TypeId := 44
theorem rec_fields : Tryz.prog.underlying RecT = some (.struct (Tryz.prog.fieldsOf RecT)) := by kernel_rfl
theorem rec_plain : Tryz.prog.stoodInHeld RecT = false := by kernel_rfl
def recEq (a1 a2 a3 a4 a5 a6 b1 b2 b3 b4 b5 b6 : Int) : Bool := decide ((⟨a1, a2, a3, a4, a5, a6⟩ : Rec) = ⟨b1, b2, b3, b4, b5, b6⟩)
set_option maxRecDepth 100000 in
theorem rec_eql (a1 a2 a3 a4 a5 a6 b1 b2 b3 b4 b5 b6 : Int) (w : World) :
    (binOp .eql RecT (.agg #[.int .i64 a1, .int .i64 a2, .int .i64 a3, .int .i64 a4, .int .i64 a5, .int .i64 a6]) (.agg #[.int .i64 b1, .int .i64 b2, .int .i64 b3, .int .i64 b4, .int .i64 b5, .int .i64 b6])).run Tryz.prog w =
      .ok (.bool (recEq a1 a2 a3 a4 a5 a6 b1 b2 b3 b4 b5 b6)) w := by
  have u3 := Tryz.underlying3
  have ag := Tryz.isAgg3
  have z3 := Tryz.sizeOf3
  rw [run_eql_struct, show (10000 : Nat) = 9999 + 1 from rfl, run_equalIn_agg w 9999 RecT _ _ rec_fields rec_plain]
  simp only [Program.fieldsOf, Tryz.underlying44]
  go_simp
  unfold recEq
  repeat' split
  all_goals simp_all
set_option maxRecDepth 100000 in
theorem rec_neq (a1 a2 a3 a4 a5 a6 b1 b2 b3 b4 b5 b6 : Int) (w : World) :
    (binOp .neq RecT (.agg #[.int .i64 a1, .int .i64 a2, .int .i64 a3, .int .i64 a4, .int .i64 a5, .int .i64 a6]) (.agg #[.int .i64 b1, .int .i64 b2, .int .i64 b3, .int .i64 b4, .int .i64 b5, .int .i64 b6])).run Tryz.prog w =
      .ok (.bool (!recEq a1 a2 a3 a4 a5 a6 b1 b2 b3 b4 b5 b6)) w := by
  have u3 := Tryz.underlying3
  have ag := Tryz.isAgg3
  have z3 := Tryz.sizeOf3
  rw [run_neq_struct, show (10000 : Nat) = 9999 + 1 from rfl, run_equalIn_agg w 9999 RecT _ _ rec_fields rec_plain]
  simp only [Program.fieldsOf, Tryz.underlying44]
  go_simp
  unfold recEq
  repeat' split
  all_goals simp_all

theorem recR_fr {fr ty fl st ln kd : Int} (h : ¬ (fr = 0 ∨ fr = 1)) : recR ⟨fr, ty, fl, st, ln, kd⟩ = false := by
  cases hr : recR ⟨fr, ty, fl, st, ln, kd⟩ with
  | false => rfl
  | true => exact absurd (recR_ok hr).fr h
theorem recR_kd {fr ty fl st ln kd : Int} (h : ¬ (1 ≤ kd ∧ kd ≤ 4)) : recR ⟨fr, ty, fl, st, ln, kd⟩ = false := by
  cases hr : recR ⟨fr, ty, fl, st, ln, kd⟩ with
  | false => rfl
  | true => exact absurd (recR_ok hr).kd h
theorem recR_pre {fr fl st ln kd : Int} (hf : fr = 0 ∨ fr = 1) (hk : 1 ≤ kd ∧ kd ≤ 4) : recR ⟨fr, -1, fl, st, ln, kd⟩ = recEq fr (-1) fl st ln kd 0 (-1) 0 0 24 kd := by
  have h1 : inB (kd - 1) 3 = true := inB_iff.2 (by omega)
  unfold recR recEq
  simp only [h1, if_true, Rec.mk.injEq]
  rcases hf with rfl | rfl <;> simp
theorem recR_head {fr ty fl st ln kd : Int} (hf : fr = 0 ∨ fr = 1) (hk : 1 ≤ kd ∧ kd ≤ 4) (ht : ¬ ty = -1) : recR ⟨fr, ty, fl, st, ln, kd⟩ = headR ln ty fl st := by
  have h1 : inB (kd - 1) 3 = true := inB_iff.2 (by omega)
  unfold recR
  simp only [h1, if_neg ht]
  rcases hf with rfl | rfl <;> simp
theorem kindF_no {n : Int} (h : ¬ (1 ≤ n ∧ n ≤ 4)) : kindF n = [] := by unfold kindF; rw [if_neg (by omega), if_neg (by omega), if_neg (by omega), if_neg (by omega)]
theorem sideF_no {n : Int} (h : ¬ (n = 0 ∨ n = 1)) : sideF n = [] := by unfold sideF; rw [if_neg (by omega), if_neg (by omega)]
theorem okW_ne {w : List UInt8} (h : okW w = true) : (w == []) = false ∧ w.isEmpty = false := by
  have := (okW_free h).2
  cases w with
  | nil => exact absurd rfl this
  | cons _ _ => exact ⟨rfl, rfl⟩

set_option maxHeartbeats 4000000 in
set_option maxRecDepth 100000 in
theorem record_Right (fr ty fl st ln kd : Int) (w : World) :
    Calls Tryz.prog 29 #[.agg #[.int .i64 fr, .int .i64 ty, .int .i64 fl, .int .i64 st, .int .i64 ln, .int .i64 kd]] w fun e w' => e = .returned (.bool (recR ⟨fr, ty, fl, st, ln, kd⟩)) ∧ ∃ j, w' = w.more j := by
  have HS : Hid (∀ W, Calls Tryz.prog 63 #[.int .i64 fr] W fun e w' => e = .returned (bstr (sideF fr)) ∧ W = w') := record_Side fr
  have HK : Hid (∀ W, Calls Tryz.prog 22 #[.int .i64 kd] W fun e w' => e = .returned (bstr (kindF kd)) ∧ W = w') := record_Kind kd
  by_cases hf : fr = 0 ∨ fr = 1
  · obtain ⟨s1, s2⟩ := okW_ne (sideF_ok hf)
    have s3 : (!(sideF fr).isEmpty) = true := by rw [s2]; rfl
    by_cases hk : 1 ≤ kd ∧ kd ≤ 4
    · obtain ⟨k1, k2⟩ := okW_ne (kindF_ok hk)
      have k3 : (!(kindF kd).isEmpty) = true := by rw [k2]; rfl
      generalize sideF fr = S at HS s1 s2 s3
      generalize kindF kd = K at HK k1 k2 k3
      cases ht : (ty == -1)
      · have ht' : ¬ ty = -1 := by simpa using ht
        have HH : Hid (∀ W, Calls Tryz.prog 72 #[.agg #[.int .i64 ln, .int .i64 ty, .int .i64 fl, .int .i64 st, .bool false]] W fun e w' => e = .returned (.bool (headR ln ty fl st)) ∧ ∃ j, w' = W.more j) := head_Right ln ty fl st false
        rw [recR_head hf hk ht']
        generalize headR ln ty fl st = R at HH ⊢
        clear hf hk ht'
        go_enter Tryz.func29, Tryz.ntmps29
        go_wp2_with (first
          | (go_at_call 63; (with_reducible refine (HS.out _).mono ?_); rintro e w' ⟨rfl, rfl⟩)
          | (go_at_call 22; (with_reducible refine (HK.out _).mono ?_); rintro e w' ⟨rfl, rfl⟩)
          | (go_at_call 72; (with_reducible refine (HH.out _).mono ?_); rintro e w' ⟨rfl, j, rfl⟩))
        go_ret
        exact ⟨rfl, Below.junk (by repeat (first | (with_reducible exact Below.refl _ _) | (with_reducible refine Below.allocS ?_ _) | (with_reducible refine Below.moreS ?_ _) | (with_reducible refine Below.drew ?_) | (with_reducible refine below_drewN ?_ _)))⟩
      · obtain rfl : ty = -1 := by simpa using ht
        have HQ := fun W => rec_eql fr (-1) fl st ln kd 0 (-1) 0 0 24 kd W
        rw [recR_pre hf hk]
        generalize recEq fr (-1) fl st ln kd 0 (-1) 0 0 24 kd = R at HQ ⊢
        clear hf hk ht
        go_enter Tryz.func29, Tryz.ntmps29
        go_wp2_with (first
          | (go_at_call 63; (with_reducible refine (HS.out _).mono ?_); rintro e w' ⟨rfl, rfl⟩)
          | (go_at_call 22; (with_reducible refine (HK.out _).mono ?_); rintro e w' ⟨rfl, rfl⟩))
        go_ret
        exact ⟨rfl, Below.junk (by repeat (first | (with_reducible exact Below.refl _ _) | (with_reducible refine Below.allocS ?_ _) | (with_reducible refine Below.moreS ?_ _) | (with_reducible refine Below.drew ?_) | (with_reducible refine below_drewN ?_ _)))⟩
    · rw [recR_kd hk]
      rw [kindF_no hk] at HK
      generalize sideF fr = S at HS s1 s2 s3
      clear hf hk
      go_enter Tryz.func29, Tryz.ntmps29
      go_wp2_with (first
        | (go_at_call 63; (with_reducible refine (HS.out _).mono ?_); rintro e w' ⟨rfl, rfl⟩)
        | (go_at_call 22; (with_reducible refine (HK.out _).mono ?_); rintro e w' ⟨rfl, rfl⟩))
      go_ret
      exact ⟨rfl, Below.junk (by repeat (first | (with_reducible exact Below.refl _ _) | (with_reducible refine Below.allocS ?_ _) | (with_reducible refine Below.moreS ?_ _) | (with_reducible refine Below.drew ?_) | (with_reducible refine below_drewN ?_ _)))⟩
  · rw [recR_fr hf]
    rw [sideF_no hf] at HS
    clear hf
    go_enter Tryz.func29, Tryz.ntmps29
    go_wp2_with (first
      | (go_at_call 63; (with_reducible refine (HS.out _).mono ?_); rintro e w' ⟨rfl, rfl⟩)
      | (go_at_call 22; (with_reducible refine (HK.out _).mono ?_); rintro e w' ⟨rfl, rfl⟩))
    go_ret
    exact ⟨rfl, Below.junk (by repeat (first | (with_reducible exact Below.refl _ _) | (with_reducible refine Below.allocS ?_ _) | (with_reducible refine Below.moreS ?_ _) | (with_reducible refine Below.drew ?_) | (with_reducible refine below_drewN ?_ _)))⟩

theorem inB_16 (n : Int) : inB n 16777215 = (decide (0 ≤ n) && decide (n < 16777216)) := by unfold inB; congr 1; simp; omega
theorem inB_8 (n : Int) : inB n 255 = (decide (0 ≤ n) && decide (n < 256)) := by unfold inB; congr 1; simp; omega
theorem inB_31 (n : Int) : inB n 2147483647 = (decide (0 ≤ n) && decide (n < 2147483648)) := by unfold inB; congr 1; simp; omega
set_option maxHeartbeats 4000000 in
set_option maxRecDepth 100000 in
theorem ref07_Right (ln ty fl st : Int) (rs : Bool) (w : World) : Calls Tryz.prog 75 #[.agg #[.int .i64 ln, .int .i64 ty, .int .i64 fl, .int .i64 st, .bool rs]] w fun e w' => e = .returned (.bool (headR ln ty fl st)) ∧ ∃ j, w' = w.more j := by
  have HR : Hid (headR ln ty fl st = (decide (0 ≤ ln) && decide (ln < 16777216) && (decide (0 ≤ ty) && decide (ty < 256) && (decide (0 ≤ fl) && decide (fl < 256) && (decide (0 ≤ st) && decide (st < 2147483648)))))) := by show _ = _; unfold headR; rw [inB_16, inB_8, inB_8, inB_31]
  generalize headR ln ty fl st = R at HR ⊢
  by_cases c1 : 0 ≤ ln
  · by_cases c2 : ln < 16777216
    · by_cases c3 : 0 ≤ ty
      · by_cases c4 : ty < 256
        · by_cases c5 : 0 ≤ fl
          · by_cases c6 : fl < 256
            · by_cases c7 : 0 ≤ st
              · by_cases c8 : st < 2147483648
                all_goals
                  go_enter Tryz.func75, Tryz.ntmps75
                  go_wp2_with fail
                  go_ret
                  exact ⟨by rw [HR.out]; simp [c1, c2, c3, c4, c5, c6, c7, c8] <;> (intros; omega), Below.junk (by repeat (first | (with_reducible exact Below.refl _ _) | (with_reducible refine Below.allocS ?_ _) | (with_reducible refine Below.moreS ?_ _) | (with_reducible refine Below.drew ?_) | (with_reducible refine below_drewN ?_ _)))⟩
              · go_enter Tryz.func75, Tryz.ntmps75
                go_wp2_with fail
                go_ret
                exact ⟨by rw [HR.out]; simp [c1, c2, c3, c4, c5, c6, c7] <;> (intros; omega), Below.junk (by repeat (first | (with_reducible exact Below.refl _ _) | (with_reducible refine Below.allocS ?_ _) | (with_reducible refine Below.moreS ?_ _) | (with_reducible refine Below.drew ?_) | (with_reducible refine below_drewN ?_ _)))⟩
            · go_enter Tryz.func75, Tryz.ntmps75
              go_wp2_with fail
              go_ret
              exact ⟨by rw [HR.out]; simp [c1, c2, c3, c4, c5, c6] <;> (intros; omega), Below.junk (by repeat (first | (with_reducible exact Below.refl _ _) | (with_reducible refine Below.allocS ?_ _) | (with_reducible refine Below.moreS ?_ _) | (with_reducible refine Below.drew ?_) | (with_reducible refine below_drewN ?_ _)))⟩
          · go_enter Tryz.func75, Tryz.ntmps75
            go_wp2_with fail
            go_ret
            exact ⟨by rw [HR.out]; simp [c1, c2, c3, c4, c5] <;> (intros; omega), Below.junk (by repeat (first | (with_reducible exact Below.refl _ _) | (with_reducible refine Below.allocS ?_ _) | (with_reducible refine Below.moreS ?_ _) | (with_reducible refine Below.drew ?_) | (with_reducible refine below_drewN ?_ _)))⟩
        · go_enter Tryz.func75, Tryz.ntmps75
          go_wp2_with fail
          go_ret
          exact ⟨by rw [HR.out]; simp [c1, c2, c3, c4] <;> (intros; omega), Below.junk (by repeat (first | (with_reducible exact Below.refl _ _) | (with_reducible refine Below.allocS ?_ _) | (with_reducible refine Below.moreS ?_ _) | (with_reducible refine Below.drew ?_) | (with_reducible refine below_drewN ?_ _)))⟩
      · go_enter Tryz.func75, Tryz.ntmps75
        go_wp2_with fail
        go_ret
        exact ⟨by rw [HR.out]; simp [c1, c2, c3] <;> (intros; omega), Below.junk (by repeat (first | (with_reducible exact Below.refl _ _) | (with_reducible refine Below.allocS ?_ _) | (with_reducible refine Below.moreS ?_ _) | (with_reducible refine Below.drew ?_) | (with_reducible refine below_drewN ?_ _)))⟩
    · go_enter Tryz.func75, Tryz.ntmps75
      go_wp2_with fail
      go_ret
      exact ⟨by rw [HR.out]; simp [c1, c2] <;> (intros; omega), Below.junk (by repeat (first | (with_reducible exact Below.refl _ _) | (with_reducible refine Below.allocS ?_ _) | (with_reducible refine Below.moreS ?_ _) | (with_reducible refine Below.drew ?_) | (with_reducible refine below_drewN ?_ _)))⟩
  · go_enter Tryz.func75, Tryz.ntmps75
    go_wp2_with fail
    go_ret
    exact ⟨by rw [HR.out]; simp [c1] <;> (intros; omega), Below.junk (by repeat (first | (with_reducible exact Below.refl _ _) | (with_reducible refine Below.allocS ?_ _) | (with_reducible refine Below.moreS ?_ _) | (with_reducible refine Below.drew ?_) | (with_reducible refine below_drewN ?_ _)))⟩

set_option maxHeartbeats 4000000 in
set_option maxRecDepth 100000 in
theorem ref41_Right (fr ty fl st ln kd : Int) (w : World) :
    Calls Tryz.prog 33 #[.agg #[.int .i64 fr, .int .i64 ty, .int .i64 fl, .int .i64 st, .int .i64 ln, .int .i64 kd]] w fun e w' => e = .returned (.bool (recR ⟨fr, ty, fl, st, ln, kd⟩)) ∧ ∃ j, w' = w.more j := by
  by_cases hf : fr = 0 ∨ fr = 1
  · by_cases k1 : kd < 1
    · rw [recR_kd (by omega)]
      rcases hf with rfl | rfl
      all_goals
        go_enter Tryz.func33, Tryz.ntmps33
        go_wp2_with fail
        go_ret
        exact ⟨rfl, Below.junk (by repeat (first | (with_reducible exact Below.refl _ _) | (with_reducible refine Below.allocS ?_ _) | (with_reducible refine Below.moreS ?_ _) | (with_reducible refine Below.drew ?_) | (with_reducible refine below_drewN ?_ _)))⟩
    by_cases k4 : 4 < kd
    · rw [recR_kd (by omega)]
      rcases hf with rfl | rfl
      all_goals
        go_enter Tryz.func33, Tryz.ntmps33
        go_wp2_with fail
        go_ret
        exact ⟨rfl, Below.junk (by repeat (first | (with_reducible exact Below.refl _ _) | (with_reducible refine Below.allocS ?_ _) | (with_reducible refine Below.moreS ?_ _) | (with_reducible refine Below.drew ?_) | (with_reducible refine below_drewN ?_ _)))⟩
    cases ht : (ty == -1)
    · have ht' : ¬ ty = -1 := by simpa using ht
      have HH : Hid (∀ W, Calls Tryz.prog 75 #[.agg #[.int .i64 ln, .int .i64 ty, .int .i64 fl, .int .i64 st, .bool false]] W fun e w' => e = .returned (.bool (headR ln ty fl st)) ∧ ∃ j, w' = W.more j) := ref07_Right ln ty fl st false
      rw [recR_head hf (by omega) ht']
      generalize headR ln ty fl st = R at HH ⊢
      clear ht'
      rcases hf with rfl | rfl
      all_goals
        go_enter Tryz.func33, Tryz.ntmps33
        go_wp2_with (go_at_call 75; (with_reducible refine (HH.out _).mono ?_); rintro e w' ⟨rfl, j, rfl⟩)
        go_ret
        exact ⟨rfl, Below.junk (by repeat (first | (with_reducible exact Below.refl _ _) | (with_reducible refine Below.allocS ?_ _) | (with_reducible refine Below.moreS ?_ _) | (with_reducible refine Below.drew ?_) | (with_reducible refine below_drewN ?_ _)))⟩
    · obtain rfl : ty = -1 := by simpa using ht
      have HR : Hid (recR ⟨fr, -1, fl, st, ln, kd⟩ = (decide (fr = 0) && (decide (fl = 0) && (decide (st = 0) && decide (ln = 24))))) := by
        show _ = _
        have h1 : inB (kd - 1) 3 = true := inB_iff.2 (by omega)
        unfold recR
        simp only [h1, if_true]
        rcases hf with rfl | rfl <;> simp
      generalize recR ⟨fr, -1, fl, st, ln, kd⟩ = R at HR ⊢
      clear ht
      rcases hf with rfl | rfl
      · cases c1 : (fl == 0) <;> cases c2 : (st == 0) <;> cases c3 : (ln == 24)
        all_goals
          have hR : R = ((fl == 0) && ((st == 0) && (ln == 24))) := by
            rw [HR.out]; simp only [decide_true, Bool.true_and]
            rfl
          rw [c1, c2, c3] at hR
          subst hR
          clear HR
          go_enter Tryz.func33, Tryz.ntmps33
          go_wp2_with fail
          go_ret
          exact ⟨rfl, Below.junk (by repeat (first | (with_reducible exact Below.refl _ _) | (with_reducible refine Below.allocS ?_ _) | (with_reducible refine Below.moreS ?_ _) | (with_reducible refine Below.drew ?_) | (with_reducible refine below_drewN ?_ _)))⟩
      · have hR : R = false := by rw [HR.out]; simp
        subst hR
        clear HR
        go_enter Tryz.func33, Tryz.ntmps33
        go_wp2_with fail
        go_ret
        exact ⟨rfl, Below.junk (by repeat (first | (with_reducible exact Below.refl _ _) | (with_reducible refine Below.allocS ?_ _) | (with_reducible refine Below.moreS ?_ _) | (with_reducible refine Below.drew ?_) | (with_reducible refine below_drewN ?_ _)))⟩
  · rw [recR_fr hf]
    have f0 : (fr == 0) = false := by rw [beq_eq_false_iff_ne]; omega
    have f1 : (fr == 1) = false := by rw [beq_eq_false_iff_ne]; omega
    have f2 : (fr != 0) = true := by unfold bne; rw [f0]; rfl
    have f3 : (fr != 1) = true := by unfold bne; rw [f1]; rfl
    clear hf
    go_enter Tryz.func33, Tryz.ntmps33
    go_wp2_with fail
    go_ret
    exact ⟨rfl, Below.junk (by repeat (first | (with_reducible exact Below.refl _ _) | (with_reducible refine Below.allocS ?_ _) | (with_reducible refine Below.moreS ?_ _) | (with_reducible refine Below.drew ?_) | (with_reducible refine below_drewN ?_ _)))⟩
end Go.Proofs.YtbdmepidabnfkaaGreatDoor
/-
  Records: names looked for, both roads.
-/
namespace Go.Proofs.YtbdmepidabnfkaaGreatDoor
set_option linter.unusedSimpArgs false
set_option linter.unusedVariables false
set_option linter.unusedSectionVars false
open Go.ChangeShapes Go.WideShapes Go.ChangeAt Go.RowKit Go.Deep Go.Shelf

theorem more_of_quiet {P : Program} {f : FuncId} {args : Array Value} {w : World} {v : Value} (h : Calls P f args w fun e w' => e = .returned v ∧ w = w') : Calls P f args w fun e w' => e = .returned v ∧ ∃ k, w' = w.more k :=
  h.mono fun _ _ ⟨he, hw⟩ => ⟨he, by subst hw; exact ⟨_, more_self w⟩⟩

set_option maxHeartbeats 4000000 in
set_option maxRecDepth 100000 in
theorem ref08_ByName (s : List UInt8) (hs : s.length ≤ 1048576) (w : World) : Calls Tryz.prog 94 #[bstr s] w fun e w' => e = .returned (.tuple #[.int .i64 (byNameF s).1, .bool (byNameF s).2]) ∧ ∃ j, w' = w.more j := by
  have HF : Hid (byNameF s = scanF nameF s 257 (-1)) := rfl
  generalize byNameF s = R at HF ⊢
  obtain ⟨r1, r2⟩ := R
  go_enter Tryz.func94, Tryz.ntmps94
  go_wp2_with fail
  go_loopg [4] 257 (fun g i wr => ∃ (t : Int) (q : Nat), q = g ∧ t + q = 256 ∧ q ≤ 257 ∧ i = .int .i64 t ∧ Hid ((r1, r2) = scanF nameF s q t) ∧ ∃ j, wr = w.more j)
  case atStart => exact ⟨(-1), _, rfl, by omega, by omega, rfl, HF, Below.junk (by repeat (first | (with_reducible exact Below.refl _ _) | (with_reducible refine Below.allocS ?_ _) | (with_reducible refine Below.moreS ?_ _) | (with_reducible refine Below.drew ?_) | (with_reducible refine below_drewN ?_ _)))⟩
  case round =>
    obtain ⟨t, q, hq, htg, hgn, rfl, HS, j, rfl⟩ := hrel
    have HQ := Lib.hid hq
    clear hq
    have HK := Lib.hid htg
    by_cases hlt : t < 256
    · obtain ⟨g', rfl⟩ : ∃ g', q = g' + 1 := ⟨q - 1, by omega⟩
      have HN : Hid (∀ j, Calls Tryz.prog 89 #[.int .i64 t] (w.more j) fun e w' => e = .returned (bstr (nameF t)) ∧ ∃ k, w' = (w.more j).more k) := fun j => ref08_Name t _
      have HT : Hid ((r1, r2) = if nameF t = s then (t, true) else scanF nameF s g' (t + 1)) := by show _ = _; rw [HS.out, scan_step]
      have b0 : (-1) ≤ t := by omega
      generalize nameF t = T at HN HT
      clear htg HS
      cases e1 : (T == s)
      · have HU : Hid ((r1, r2) = scanF nameF s g' (t + 1)) := by show _ = _; rw [HT.out, if_neg (by simpa using e1)]
        clear HT
        go_wp2_with (go_at_call 89; (with_reducible refine (HN.out _).mono ?_); rintro e w' ⟨rfl, j, rfl⟩)
        go_roundg g'
        case measure => have := HQ.out; omega
        case rel => exact ⟨t + 1, _, rfl, by have := HK.out; omega, by omega, by first | rfl | go_num, HU, Below.junk (by repeat (first | (with_reducible exact Below.refl _ _) | (with_reducible refine Below.allocS ?_ _) | (with_reducible refine Below.moreS ?_ _) | (with_reducible refine Below.drew ?_) | (with_reducible refine below_drewN ?_ _)))⟩
      · have hr : (r1, r2) = (t, true) := by rw [HT.out, if_pos (by simpa using e1)]
        obtain ⟨rfl, rfl⟩ := Prod.mk.inj hr
        clear HT hr
        go_wp2_with (go_at_call 89; (with_reducible refine (HN.out _).mono ?_); rintro e w' ⟨rfl, j, rfl⟩)
        go_ret2
        exact ⟨rfl, Below.junk (by repeat (first | (with_reducible exact Below.refl _ _) | (with_reducible refine Below.allocS ?_ _) | (with_reducible refine Below.moreS ?_ _) | (with_reducible refine Below.drew ?_) | (with_reducible refine below_drewN ?_ _)))⟩
    · obtain rfl : q = 0 := by omega
      have hr : (r1, r2) = (0, false) := HS.out
      obtain ⟨rfl, rfl⟩ := Prod.mk.inj hr
      clear hr HS htg
      go_wp2_with fail
      go_ret2
      exact ⟨rfl, Below.junk (by repeat (first | (with_reducible exact Below.refl _ _) | (with_reducible refine Below.allocS ?_ _) | (with_reducible refine Below.moreS ?_ _) | (with_reducible refine Below.drew ?_) | (with_reducible refine below_drewN ?_ _)))⟩

set_option maxHeartbeats 4000000 in
set_option maxRecDepth 100000 in
theorem named_Side (s : List UInt8) (hs : s.length ≤ 1048576) (w : World) : Calls Tryz.prog 114 #[bstr s, .int .i64 0, .int .i64 1, .func (.func 63) #[] #[]] w fun e w' => e = .returned (.tuple #[.int .i64 (sideB s).1, .bool (sideB s).2]) ∧ ∃ j, w' = w.more j := by
  have HF : Hid (sideB s = scanF sideF s 2 0) := rfl
  generalize sideB s = R at HF ⊢
  obtain ⟨r1, r2⟩ := R
  go_enter Tryz.func114, Tryz.ntmps114
  go_wp2_with fail
  go_loopg [10] 2 (fun g i wr => ∃ (t : Int) (q : Nat), q = g ∧ t + q = 2 ∧ q ≤ 2 ∧ i = .int .i64 t ∧ Hid ((r1, r2) = scanF sideF s q t) ∧ ∃ j, wr = w.more j)
  case atStart => exact ⟨0, _, rfl, by omega, by omega, rfl, HF, Below.junk (by repeat (first | (with_reducible exact Below.refl _ _) | (with_reducible refine Below.allocS ?_ _) | (with_reducible refine Below.moreS ?_ _) | (with_reducible refine Below.drew ?_) | (with_reducible refine below_drewN ?_ _)))⟩
  case round =>
    obtain ⟨t, q, hq, htg, hgn, rfl, HS, j, rfl⟩ := hrel
    have HQ := Lib.hid hq
    clear hq
    have HK := Lib.hid htg
    by_cases hlt : t ≤ 1
    · obtain ⟨g', rfl⟩ : ∃ g', q = g' + 1 := ⟨q - 1, by omega⟩
      have HN : Hid (∀ j, Calls Tryz.prog 63 #[.int .i64 t] (w.more j) fun e w' => e = .returned (bstr (sideF t)) ∧ ∃ k, w' = (w.more j).more k) := fun j => more_of_quiet (record_Side t _)
      have HT : Hid ((r1, r2) = if sideF t = s then (t, true) else scanF sideF s g' (t + 1)) := by show _ = _; rw [HS.out, scan_step]
      have b0 : 0 ≤ t := by omega
      generalize sideF t = T at HN HT
      clear htg HS
      cases e1 : (T == s)
      · have HU : Hid ((r1, r2) = scanF sideF s g' (t + 1)) := by show _ = _; rw [HT.out, if_neg (by simpa using e1)]
        clear HT
        go_wp2_with (go_at_call 63; (with_reducible refine (HN.out _).mono ?_); rintro e w' ⟨rfl, j, rfl⟩)
        go_roundg g'
        case measure => have := HQ.out; omega
        case rel => exact ⟨t + 1, _, rfl, by have := HK.out; omega, by omega, by first | rfl | go_num, HU, Below.junk (by repeat (first | (with_reducible exact Below.refl _ _) | (with_reducible refine Below.allocS ?_ _) | (with_reducible refine Below.moreS ?_ _) | (with_reducible refine Below.drew ?_) | (with_reducible refine below_drewN ?_ _)))⟩
      · have hr : (r1, r2) = (t, true) := by rw [HT.out, if_pos (by simpa using e1)]
        obtain ⟨rfl, rfl⟩ := Prod.mk.inj hr
        clear HT hr
        go_wp2_with (go_at_call 63; (with_reducible refine (HN.out _).mono ?_); rintro e w' ⟨rfl, j, rfl⟩)
        go_ret2
        exact ⟨rfl, Below.junk (by repeat (first | (with_reducible exact Below.refl _ _) | (with_reducible refine Below.allocS ?_ _) | (with_reducible refine Below.moreS ?_ _) | (with_reducible refine Below.drew ?_) | (with_reducible refine below_drewN ?_ _)))⟩
    · obtain rfl : q = 0 := by omega
      have hr : (r1, r2) = (0, false) := HS.out
      obtain ⟨rfl, rfl⟩ := Prod.mk.inj hr
      clear hr HS htg
      go_wp2_with fail
      go_ret2
      exact ⟨rfl, Below.junk (by repeat (first | (with_reducible exact Below.refl _ _) | (with_reducible refine Below.allocS ?_ _) | (with_reducible refine Below.moreS ?_ _) | (with_reducible refine Below.drew ?_) | (with_reducible refine below_drewN ?_ _)))⟩

set_option maxHeartbeats 4000000 in
set_option maxRecDepth 100000 in
theorem named_Kind (s : List UInt8) (hs : s.length ≤ 1048576) (w : World) : Calls Tryz.prog 114 #[bstr s, .int .i64 1, .int .i64 4, .func (.func 22) #[] #[]] w fun e w' => e = .returned (.tuple #[.int .i64 (kindB s).1, .bool (kindB s).2]) ∧ ∃ j, w' = w.more j := by
  have HF : Hid (kindB s = scanF kindF s 4 1) := rfl
  generalize kindB s = R at HF ⊢
  obtain ⟨r1, r2⟩ := R
  go_enter Tryz.func114, Tryz.ntmps114
  go_wp2_with fail
  go_loopg [10] 4 (fun g i wr => ∃ (t : Int) (q : Nat), q = g ∧ t + q = 5 ∧ q ≤ 4 ∧ i = .int .i64 t ∧ Hid ((r1, r2) = scanF kindF s q t) ∧ ∃ j, wr = w.more j)
  case atStart => exact ⟨1, _, rfl, by omega, by omega, rfl, HF, Below.junk (by repeat (first | (with_reducible exact Below.refl _ _) | (with_reducible refine Below.allocS ?_ _) | (with_reducible refine Below.moreS ?_ _) | (with_reducible refine Below.drew ?_) | (with_reducible refine below_drewN ?_ _)))⟩
  case round =>
    obtain ⟨t, q, hq, htg, hgn, rfl, HS, j, rfl⟩ := hrel
    have HQ := Lib.hid hq
    clear hq
    have HK := Lib.hid htg
    by_cases hlt : t ≤ 4
    · obtain ⟨g', rfl⟩ : ∃ g', q = g' + 1 := ⟨q - 1, by omega⟩
      have HN : Hid (∀ j, Calls Tryz.prog 22 #[.int .i64 t] (w.more j) fun e w' => e = .returned (bstr (kindF t)) ∧ ∃ k, w' = (w.more j).more k) := fun j => more_of_quiet (record_Kind t _)
      have HT : Hid ((r1, r2) = if kindF t = s then (t, true) else scanF kindF s g' (t + 1)) := by show _ = _; rw [HS.out, scan_step]
      have b0 : 1 ≤ t := by omega
      generalize kindF t = T at HN HT
      clear htg HS
      cases e1 : (T == s)
      · have HU : Hid ((r1, r2) = scanF kindF s g' (t + 1)) := by show _ = _; rw [HT.out, if_neg (by simpa using e1)]
        clear HT
        go_wp2_with (go_at_call 22; (with_reducible refine (HN.out _).mono ?_); rintro e w' ⟨rfl, j, rfl⟩)
        go_roundg g'
        case measure => have := HQ.out; omega
        case rel => exact ⟨t + 1, _, rfl, by have := HK.out; omega, by omega, by first | rfl | go_num, HU, Below.junk (by repeat (first | (with_reducible exact Below.refl _ _) | (with_reducible refine Below.allocS ?_ _) | (with_reducible refine Below.moreS ?_ _) | (with_reducible refine Below.drew ?_) | (with_reducible refine below_drewN ?_ _)))⟩
      · have hr : (r1, r2) = (t, true) := by rw [HT.out, if_pos (by simpa using e1)]
        obtain ⟨rfl, rfl⟩ := Prod.mk.inj hr
        clear HT hr
        go_wp2_with (go_at_call 22; (with_reducible refine (HN.out _).mono ?_); rintro e w' ⟨rfl, j, rfl⟩)
        go_ret2
        exact ⟨rfl, Below.junk (by repeat (first | (with_reducible exact Below.refl _ _) | (with_reducible refine Below.allocS ?_ _) | (with_reducible refine Below.moreS ?_ _) | (with_reducible refine Below.drew ?_) | (with_reducible refine below_drewN ?_ _)))⟩
    · obtain rfl : q = 0 := by omega
      have hr : (r1, r2) = (0, false) := HS.out
      obtain ⟨rfl, rfl⟩ := Prod.mk.inj hr
      clear hr HS htg
      go_wp2_with fail
      go_ret2
      exact ⟨rfl, Below.junk (by repeat (first | (with_reducible exact Below.refl _ _) | (with_reducible refine Below.allocS ?_ _) | (with_reducible refine Below.moreS ?_ _) | (with_reducible refine Below.drew ?_) | (with_reducible refine below_drewN ?_ _)))⟩

theorem idx_step {l : List (List UInt8)} {s : List UInt8} {k : Nat} (hk : k < l.length) (hn : ∀ q (h : q < l.length), q < k → l[q] ≠ s) (he : l[k] = s) : findF l s = (k : Int) := by
  have hm : s ∈ l := he ▸ List.getElem_mem hk
  unfold findF
  rw [if_pos hm]
  have h1 := List.idxOf_lt_length_of_mem hm
  have h2 := List.getElem_idxOf h1
  rcases Nat.lt_trichotomy (l.idxOf s) k with h | h | h
  · exact absurd h2 (hn _ h1 h)
  · rw [h]
  · exfalso
    have := List.not_of_lt_findIdx (p := fun x => x == s) (xs := l) (i := k) h
    simp [he] at this
theorem idx_none {l : List (List UInt8)} {s : List UInt8} (hn : ∀ q (h : q < l.length), l[q] ≠ s) : findF l s = -1 := by
  unfold findF
  rw [if_neg]
  intro hm
  obtain ⟨k, hk, he⟩ := List.getElem_of_mem hm
  exact hn k hk he
set_option maxHeartbeats 4000000 in
set_option maxRecDepth 100000 in
theorem ref41_find (a : Option Addr) (cap : Nat) (l : List (List UInt8)) (s : List UInt8) (hm : l.length ≤ 1048576) (w : World) (hs : SlX w w.heap.size a l) :
    Calls Tryz.prog 95 #[.slice a l.length cap, bstr s] w fun e w' => e = .returned (.int .i64 (findF l s)) ∧ w = w' := by
  have HY : Hid (∀ k (h : k < l.length), (∀ q (h : q < l.length), q < k → l[q] ≠ s) → l[k] = s → findF l s = (k : Int)) := fun k h h1 h2 => idx_step h h1 h2
  have HN : Hid ((∀ q (h : q < l.length), l[q] ≠ s) → findF l s = -1) := idx_none
  generalize findF l s = R at HY HN ⊢
  go_enter Tryz.func95, Tryz.ntmps95
  go_wp2_with fail
  go_loop [5] (fun i => ∃ k : Nat, k ≤ l.length ∧ i = .int .i64 k ∧ Hid (∀ q (h : q < l.length), q < k → l[q] ≠ s)) (fun i => l.length - (intOf i).toNat)
  case atStart => exact ⟨0, by omega, rfl, fun q _ h => absurd h (by omega)⟩
  case round =>
    obtain ⟨k, hk, rfl, HQ⟩ := hrel
    by_cases hlt : k < l.length
    · obtain ⟨b, off, rfl, hb, c0, _⟩ := hs.atX hlt
      have HY2 := Lib.hid (HY.out k hlt HQ.out)
      have HE : Hid (l[k] ≠ s → ∀ q (h : q < l.length), q < k + 1 → l[q] ≠ s) := fun he q h hq => by
        by_cases hqk : q = k
        · subst hqk; exact he
        · exact HQ.out q h (by omega)
      clear HY HN HQ
      generalize l[k] = x at c0 HY2 HE
      cases e1 : (x == s)
      · have HE2 := Lib.hid (HE.out (by simpa using e1))
        clear HE HY2
        go_wp2_with fail
        go_round
        case rel => exact ⟨k + 1, hlt, by go_num, HE2.out⟩
        case measure => simp [intOf]; omega
      · have hR := HY2.out (by simpa using e1)
        subst hR
        clear HE HY2
        go_wp2_with fail
        go_ret
        exact ⟨rfl, rfl⟩
    · have hR := HN.out (fun q h => HQ.out q h (by omega))
      subst hR
      clear HY HN HQ
      go_wp2_with fail
      go_ret
      exact ⟨rfl, rfl⟩
end Go.Proofs.YtbdmepidabnfkaaGreatDoor
/-
  Records: their lines, both roads.
-/
namespace Go.Proofs.YtbdmepidabnfkaaGreatDoor
set_option linter.unusedSimpArgs false
set_option linter.unusedVariables false
set_option linter.unusedSectionVars false
open Go.ChangeShapes Go.WideShapes Go.ChangeAt Go.RowKit Go.Deep Go.Shelf

theorem slX_blk {w : World} {g : Nat} {t : TypeId} {cs : Array Value} {l : List (List UInt8)} (h : Blk w g t cs) (hl : cs.toList = l.map bstr) (hb : ∀ x ∈ l, x.length ≤ maxLen) : SlX w w.heap.size (some ⟨g, 0, none⟩) l :=
  (SlR.of_blk (R := txtIs) (c := fun s => [bstr s]) h (by rw [hl]; clear hl hb h; induction l <;> simp_all) (fun _ _ => rfl) (fun x hx => ⟨rfl, hb x hx⟩)).mono h.lt (fun _ _ _ h => h)
theorem rec_line_call {r : Rec} (ho : RecOk r) (W : World) (g : Nat) (hb : Blk W g 9 #[bstr [102, 114, 97, 109, 101], bstr (sideF r.fr), bstr (nameF r.ty), bstr (Lib.itoa r.fl), bstr (Lib.itoa r.st), bstr (Lib.itoa r.ln), bstr (kindF r.kd)]) :
    Calls Tryz.prog 62 #[.slice (some ⟨g, 0, none⟩) 7 7] W fun e w' => e = .returned (.tuple #[bstr (recLine r), .bool true]) ∧ ∃ j, w' = W.more j := by
  have hl := recWords_len ho
  have := words_Line (some ⟨g, 0, none⟩) 7 (recWords r) W W (by show 7 ≤ 100000; omega) (fun x hx => by have := hl x hx; omega) (Nat.le_refl 7) (Below.refl _ _) (slX_blk hb rfl (fun x hx => by have := hl x hx; unfold maxLen; omega))
  rw [lineF_rec ho] at this
  exact this
set_option maxHeartbeats 4000000 in
set_option maxRecDepth 100000 in
theorem record_Text_no (fr ty fl st ln kd : Int) (hR : recR ⟨fr, ty, fl, st, ln, kd⟩ = false) (w : World) :
    Calls Tryz.prog 21 #[.agg #[.int .i64 fr, .int .i64 ty, .int .i64 fl, .int .i64 st, .int .i64 ln, .int .i64 kd]] w fun e w' => e = .returned (.tuple #[bstr [], .int .i64 1]) ∧ ∃ j, w' = w.more j := by
  have HR : Hid (∀ W, Calls Tryz.prog 29 #[.agg #[.int .i64 fr, .int .i64 ty, .int .i64 fl, .int .i64 st, .int .i64 ln, .int .i64 kd]] W fun e w' => e = .returned (.bool false) ∧ ∃ j, w' = W.more j) := hR ▸ record_Right fr ty fl st ln kd
  clear hR
  go_enter Tryz.func21, Tryz.ntmps21
  go_wp2_with (go_at_call 29; (with_reducible refine (HR.out _).mono ?_); rintro e w' ⟨rfl, j, rfl⟩)
  go_ret2
  exact ⟨rfl, Below.junk (by repeat (first | (with_reducible exact Below.refl _ _) | (with_reducible refine Below.allocS ?_ _) | (with_reducible refine Below.moreS ?_ _) | (with_reducible refine Below.drew ?_) | (with_reducible refine below_drewN ?_ _)))⟩
set_option maxHeartbeats 8000000 in
set_option maxRecDepth 100000 in
theorem record_Text_yes (fr ty fl st ln kd : Int) (hR : recR ⟨fr, ty, fl, st, ln, kd⟩ = true) (w : World) (hE : EnvK0 w) :
    Calls Tryz.prog 21 #[.agg #[.int .i64 fr, .int .i64 ty, .int .i64 fl, .int .i64 st, .int .i64 ln, .int .i64 kd]] w fun e w' => e = .returned (.tuple #[bstr (recLine ⟨fr, ty, fl, st, ln, kd⟩), .int .i64 0]) ∧ ∃ j, w' = w.more j := by
  have ho := recR_ok hR
  have HR : Hid (∀ W, Calls Tryz.prog 29 #[.agg #[.int .i64 fr, .int .i64 ty, .int .i64 fl, .int .i64 st, .int .i64 ln, .int .i64 kd]] W fun e w' => e = .returned (.bool true) ∧ ∃ j, w' = W.more j) := hR ▸ record_Right fr ty fl st ln kd
  have HS : Hid (∀ W, Calls Tryz.prog 63 #[.int .i64 fr] W fun e w' => e = .returned (bstr (sideF fr)) ∧ W = w') := record_Side fr
  have HK : Hid (∀ W, Calls Tryz.prog 22 #[.int .i64 kd] W fun e w' => e = .returned (bstr (kindF kd)) ∧ W = w') := record_Kind kd
  have HN : Hid (∀ W, EnvK0 W → Calls Tryz.prog 64 #[.int .i64 ty] W fun e w' => e = .returned (bstr (nameF ty)) ∧ ∃ j, w' = W.more j) := fun W hW => kinds_Name ty W hW
  have HT1 : Hid (∀ W, EnvK0 W → Calls Tryz.prog 61 #[.int .i64 fl] W fun e w' => e = .returned (bstr (Lib.itoa fl)) ∧ ∃ j, w' = W.more j) := fun W hW => digits_Text0 fl (by have := ho.fl; simp only at this; omega) (by have := ho.fl; simp only at this; omega) W hW.p
  have HT2 : Hid (∀ W, EnvK0 W → Calls Tryz.prog 61 #[.int .i64 st] W fun e w' => e = .returned (bstr (Lib.itoa st)) ∧ ∃ j, w' = W.more j) := fun W hW => digits_Text0 st (by have := ho.st; simp only at this; omega) (by have := ho.st; simp only at this; omega) W hW.p
  have HT3 : Hid (∀ W, EnvK0 W → Calls Tryz.prog 61 #[.int .i64 ln] W fun e w' => e = .returned (bstr (Lib.itoa ln)) ∧ ∃ j, w' = W.more j) := fun W hW => digits_Text0 ln (by have := ho.ln; simp only at this; omega) (by have := ho.ln; simp only at this; omega) W hW.p
  have HL := Lib.hid (rec_line_call ho)
  simp only at HL
  have HE := Lib.hid hE
  generalize recLine ⟨fr, ty, fl, st, ln, kd⟩ = L at HL ⊢
  generalize sideF fr = S at HS HL
  generalize kindF kd = K at HK HL
  generalize nameF ty = N at HN HL
  generalize Lib.itoa fl = T1 at HT1 HL
  generalize Lib.itoa st = T2 at HT2 HL
  generalize Lib.itoa ln = T3 at HT3 HL
  clear hR ho hE
  go_enter Tryz.func21, Tryz.ntmps21
  go_wp2_with (go_at_call 29; (with_reducible refine (HR.out _).mono ?_); rintro e w' ⟨rfl, j, rfl⟩)
  go_region_held3 (fun w' => w'.cell? ⟨w.heap.size, 0, none⟩ = some (.int .i64 fr) ∧ w'.cell? ⟨w.heap.size, 1, none⟩ = some (.int .i64 ty) ∧ w'.cell? ⟨w.heap.size, 2, none⟩ = some (.int .i64 fl) ∧ w'.cell? ⟨w.heap.size, 3, none⟩ = some (.int .i64 st) ∧ w'.cell? ⟨w.heap.size, 4, none⟩ = some (.int .i64 ln) ∧ w'.cell? ⟨w.heap.size, 5, none⟩ = some (.int .i64 kd)) (first | (refine ⟨?_, ?_, ?_, ?_, ?_, ?_⟩ <;> (go_simp; done)) | go_keep)
    (first
      | (go_at_call 63; (with_reducible refine (HS.out _).mono ?_); rintro e w' ⟨rfl, rfl⟩)
      | (go_at_call 64; (with_reducible refine (HN.out _ (HE.out.below (by repeat (first | (with_reducible exact Below.refl _ _) | (with_reducible refine Below.allocS ?_ _) | (with_reducible refine Below.moreS ?_ _) | (with_reducible refine Below.drew ?_) | (with_reducible refine below_drewN ?_ _))))).mono ?_); rintro e w' ⟨rfl, j, rfl⟩)
      | (go_at_call 61; (with_reducible refine (HT1.out _ (HE.out.below (by repeat (first | (with_reducible exact Below.refl _ _) | (with_reducible refine Below.allocS ?_ _) | (with_reducible refine Below.moreS ?_ _) | (with_reducible refine Below.drew ?_) | (with_reducible refine below_drewN ?_ _))))).mono ?_); rintro e w' ⟨rfl, j, rfl⟩)
      | (go_at_call 61; (with_reducible refine (HT2.out _ (HE.out.below (by repeat (first | (with_reducible exact Below.refl _ _) | (with_reducible refine Below.allocS ?_ _) | (with_reducible refine Below.moreS ?_ _) | (with_reducible refine Below.drew ?_) | (with_reducible refine below_drewN ?_ _))))).mono ?_); rintro e w' ⟨rfl, j, rfl⟩)
      | (go_at_call 61; (with_reducible refine (HT3.out _ (HE.out.below (by repeat (first | (with_reducible exact Below.refl _ _) | (with_reducible refine Below.allocS ?_ _) | (with_reducible refine Below.moreS ?_ _) | (with_reducible refine Below.drew ?_) | (with_reducible refine below_drewN ?_ _))))).mono ?_); rintro e w' ⟨rfl, j, rfl⟩)
      | (go_at_call 22; (with_reducible refine (HK.out _).mono ?_); rintro e w' ⟨rfl, rfl⟩)
      | (go_at_call 62; (with_reducible refine (HL.out _ _ (by repeat (first | ((with_reducible apply Blk.at_); (simp; done)) | (with_reducible apply Blk.alloc) | (with_reducible apply Blk.more) | (with_reducible apply Blk.drew)))).mono ?_); rintro e w' ⟨rfl, j, rfl⟩))
  go_wp2_with fail
  go_ret2
  exact ⟨rfl, Below.junk (by repeat (first | (with_reducible exact Below.refl _ _) | (with_reducible refine Below.allocS ?_ _) | (with_reducible refine Below.moreS ?_ _) | (with_reducible refine Below.drew ?_) | (with_reducible refine below_drewN ?_ _)))⟩
end Go.Proofs.YtbdmepidabnfkaaGreatDoor
/-
  Records: a line read, the program's road.
-/
namespace Go.Proofs.YtbdmepidabnfkaaGreatDoor
set_option linter.unusedSimpArgs false
set_option linter.unusedVariables false
set_option linter.unusedSectionVars false
open Go.ChangeShapes Go.WideShapes Go.ChangeAt Go.RowKit Go.Deep Go.Shelf

theorem st_Rec : StructTy Tryz.prog RecT 6 := ⟨_, Tryz.underlying44, rfl, by kernel_rfl⟩
abbrev OkT : TypeId := 129
set_option maxRecDepth 100000 in
theorem ok6_neq (b1 b2 b3 b4 b5 b6 : Bool) (w : World) :
    (binOp .neq OkT (.agg #[.bool b1, .bool b2, .bool b3, .bool b4, .bool b5, .bool b6]) (.agg #[.bool true, .bool true, .bool true, .bool true, .bool true, .bool true])).run Tryz.prog w =
      .ok (.bool (!(b1 && (b2 && (b3 && (b4 && (b5 && b6))))))) w := by
  cases b1 <;> cases b2 <;> cases b3 <;> cases b4 <;> cases b5 <;> cases b6 <;> kernel_rfl
theorem rdRec_len {l : List (List UInt8)} (h : ¬ l.length = 7) : rdRec l = (zRec, false) := by
  match l, h with
  | [], _ => rfl
  | [_], _ => rfl
  | [_, _], _ => rfl
  | [_, _, _], _ => rfl
  | [_, _, _, _], _ => rfl
  | [_, _, _, _, _], _ => rfl
  | [_, _, _, _, _, _], _ => rfl
  | [_, _, _, _, _, _, _], h => exact absurd rfl h
  | _ :: _ :: _ :: _ :: _ :: _ :: _ :: _ :: _, _ => rfl
theorem rdRec_word {w0 w1 w2 w3 w4 w5 w6 : List UInt8} (h : ¬ w0 = [102, 114, 97, 109, 101]) : rdRec [w0, w1, w2, w3, w4, w5, w6] = (zRec, false) := by unfold rdRec; simp only; rw [if_neg h]
theorem rdRec_main (w1 w2 w3 w4 w5 w6 : List UInt8) : rdRec [[102, 114, 97, 109, 101], w1, w2, w3, w4, w5, w6] =
    if ((sideB w1).2 && ((byNameF w2).2 && ((readF w3).2 && ((readF w4).2 && ((readF w5).2 && (kindB w6).2))))) = true then
      if recR ⟨(sideB w1).1, (byNameF w2).1, (readF w3).1, (readF w4).1, (readF w5).1, (kindB w6).1⟩ = true then (⟨(sideB w1).1, (byNameF w2).1, (readF w3).1, (readF w4).1, (readF w5).1, (kindB w6).1⟩, true) else (zRec, false)
    else (zRec, false) := by
  unfold rdRec
  simp only [if_true]
  cases (sideB w1).2 <;> cases (byNameF w2).2 <;> cases (readF w3).2 <;> cases (readF w4).2 <;> cases (readF w5).2 <;> cases (kindB w6).2 <;> rfl
def recC (r : Rec) : Array Value := #[.int .i64 r.fr, .int .i64 r.ty, .int .i64 r.fl, .int .i64 r.st, .int .i64 r.ln, .int .i64 r.kd]
theorem slX_cell {w : World} {B : Nat} {a : Option Addr} {l : List (List UInt8)} (h : SlX w B a l) (hp : 0 < l.length) : ∃ b off, a = some ⟨b, off, none⟩ ∧ b < B ∧ ∀ k (hk : k < l.length), w.cell? ⟨b, off + k, none⟩ = some (bstr l[k]) := by
  obtain ⟨b, off, ha, hb, _, _⟩ := SlR.atX h hp
  refine ⟨b, off, ha, hb, fun k hk => ?_⟩
  obtain ⟨b', off', ha', _, hc, _⟩ := SlR.atX h hk
  rw [ha] at ha'
  injection ha' with ha'
  injection ha' with h1 h2
  subst h1 h2
  exact hc
set_option maxHeartbeats 8000000 in
set_option maxRecDepth 100000 in
theorem record_Read (s : List UInt8) (hm : s.length ≤ 90000) (w : World) (hE : EnvK w) :
    Calls Tryz.prog 81 #[bstr s] w fun e w' => e = .returned (.tuple #[.agg (recC (readRecF s).1), .bool (readRecF s).2]) ∧ ∃ j, w' = w.more j := by
  have LN0 : ∀ x ∈ (splitF s).1, x.length ≤ 1048576 := fun x hx => by
    unfold splitF at hx
    split at hx
    · simp at hx
    · split at hx
      · have := cut_short 32 s x hx; omega
      · simp at hx
  obtain ⟨m, hM⟩ := hE.env.max
  have hcl := cut_len 32 s
  have H1 : Hid (∀ W, Below w.heap.size w W → Calls Tryz.prog 80 #[bstr s] W fun e w' => ∃ a cap, e = .returned (.tuple #[.slice a (splitF s).1.length cap, .bool (splitF s).2]) ∧ SlX w' w'.heap.size a (splitF s).1 ∧ Below W.heap.size W w') := fun W hb =>
    words_Split s m W (by omega) (by omega) (fun x hx => by have := cut_short 32 s x hx; omega) (max_below hM hb)
  have hpl := splitF_len s
  have HR : Hid (readRecF s = if (splitF s).2 = true then rdRec (splitF s).1 else (zRec, false)) := rfl
  have HE := Lib.hid hE
  generalize readRecF s = R at HR ⊢
  generalize splitF s = p at H1 HR hpl LN0
  obtain ⟨l, ok⟩ := p
  simp only at H1 HR hpl LN0
  have hl7 : l.length ≤ 90001 := by omega
  clear hM hcl hpl hE hm
  cases ok
  · clear LN0
    obtain rfl : R = (zRec, false) := HR.out
    clear HR
    go_enter Tryz.func81, Tryz.ntmps81
    go_wp2_with fail
    refine (H1.out _ (by repeat (first | (with_reducible exact Below.refl _ _) | (with_reducible refine Below.allocS ?_ _) | (with_reducible refine Below.moreS ?_ _) | (with_reducible refine Below.drew ?_) | (with_reducible refine below_drewN ?_ _)))).mono ?_
    rintro e w1 ⟨a, cap, rfl, hs1, hb1⟩
    obtain ⟨j, rfl⟩ := hb1.junk
    clear hs1 hb1
    go_wp2_with fail
    refine bodyPost_ret (res_cell_tmp (cs := #[.int .i64 0, .int .i64 0, .int .i64 0, .int .i64 0, .int .i64 0, .int .i64 0]) rfl st_Rec rfl (by repeat (first | ((with_reducible apply Blk.at_); (simp; done)) | (with_reducible apply Blk.alloc) | (with_reducible apply Blk.more) | (with_reducible apply Blk.drew))) rfl rfl) rfl ⟨rfl, Below.junk (by repeat (first | (with_reducible exact Below.refl _ _) | (with_reducible refine Below.allocS ?_ _) | (with_reducible refine Below.moreS ?_ _) | (with_reducible refine Below.drew ?_) | (with_reducible refine below_drewN ?_ _)))⟩
  by_cases hl : l.length = 7
  · obtain ⟨w0, w1, w2, w3, w4, w5, w6, rfl⟩ : ∃ w0 w1 w2 w3 w4 w5 w6, l = [w0, w1, w2, w3, w4, w5, w6] := by
      match l, hl with
      | [w0, w1, w2, w3, w4, w5, w6], _ => exact ⟨_, _, _, _, _, _, _, rfl⟩
    have LN := LN0
    clear hl hl7 LN0
    by_cases hw : w0 = [102, 114, 97, 109, 101]
    · subst hw
      have HM := Lib.hid (HR.out.trans ((if_pos rfl).trans (rdRec_main w1 w2 w3 w4 w5 w6)))
      clear HR
      have HA1 : Hid (∀ W, Calls Tryz.prog 114 #[bstr w1, .int .i64 0, .int .i64 1, .func (.func 63) #[] #[]] W fun e w' => e = .returned (.tuple #[.int .i64 (sideB w1).1, .bool (sideB w1).2]) ∧ ∃ j, w' = W.more j) := fun W => named_Side w1 (LN w1 (by simp)) W
      have HA2 : Hid (∀ W, EnvK W → Calls Tryz.prog 115 #[bstr w2] W fun e w' => e = .returned (.tuple #[.int .i64 (byNameF w2).1, .bool (byNameF w2).2]) ∧ ∃ j, w' = W.more j) := fun W hW => kinds_ByName w2 (LN w2 (by simp)) W hW
      have HA3 : Hid (∀ W, EnvK W → Calls Tryz.prog 85 #[bstr w3] W fun e w' => e = .returned (.tuple #[.int .i64 (readF w3).1, .bool (readF w3).2]) ∧ ∃ j, w' = W.more j) := fun W hW => digits_Read w3 (LN w3 (by simp)) W hW.env
      have HA4 : Hid (∀ W, EnvK W → Calls Tryz.prog 85 #[bstr w4] W fun e w' => e = .returned (.tuple #[.int .i64 (readF w4).1, .bool (readF w4).2]) ∧ ∃ j, w' = W.more j) := fun W hW => digits_Read w4 (LN w4 (by simp)) W hW.env
      have HA5 : Hid (∀ W, EnvK W → Calls Tryz.prog 85 #[bstr w5] W fun e w' => e = .returned (.tuple #[.int .i64 (readF w5).1, .bool (readF w5).2]) ∧ ∃ j, w' = W.more j) := fun W hW => digits_Read w5 (LN w5 (by simp)) W hW.env
      have HA6 : Hid (∀ W, Calls Tryz.prog 114 #[bstr w6, .int .i64 1, .int .i64 4, .func (.func 22) #[] #[]] W fun e w' => e = .returned (.tuple #[.int .i64 (kindB w6).1, .bool (kindB w6).2]) ∧ ∃ j, w' = W.more j) := fun W => named_Kind w6 (LN w6 (by simp)) W
      clear LN
      generalize sideB w1 = A1 at HA1 HM
      generalize byNameF w2 = A2 at HA2 HM
      generalize readF w3 = A3 at HA3 HM
      generalize readF w4 = A4 at HA4 HM
      generalize readF w5 = A5 at HA5 HM
      generalize kindB w6 = A6 at HA6 HM
      obtain ⟨f1, b1⟩ := A1
      obtain ⟨f2, b2⟩ := A2
      obtain ⟨f3, b3⟩ := A3
      obtain ⟨f4, b4⟩ := A4
      obtain ⟨f5, b5⟩ := A5
      obtain ⟨f6, b6⟩ := A6
      simp only at HA1 HA2 HA3 HA4 HA5 HA6 HM
      have HRt : Hid (∀ W, Calls Tryz.prog 29 #[.agg #[.int .i64 f1, .int .i64 f2, .int .i64 f3, .int .i64 f4, .int .i64 f5, .int .i64 f6]] W fun e w' => e = .returned (.bool (recR ⟨f1, f2, f3, f4, f5, f6⟩)) ∧ ∃ j, w' = W.more j) := record_Right f1 f2 f3 f4 f5 f6
      generalize recR ⟨f1, f2, f3, f4, f5, f6⟩ = rr at HRt HM
      have HQ := fun W => ok6_neq b1 b2 b3 b4 b5 b6 W
      cases hall : (b1 && (b2 && (b3 && (b4 && (b5 && b6)))))
      · obtain rfl : R = (zRec, false) := by rw [HM.out, hall]; rfl
        rw [hall] at HQ
        simp only [Bool.not_false] at HQ
        clear HM hall HRt
        go_enter Tryz.func81, Tryz.ntmps81
        go_wp2_with fail
        refine (H1.out _ (by repeat (first | (with_reducible exact Below.refl _ _) | (with_reducible refine Below.allocS ?_ _) | (with_reducible refine Below.moreS ?_ _) | (with_reducible refine Below.drew ?_) | (with_reducible refine below_drewN ?_ _)))).mono ?_
        rintro e w1 ⟨a, cap, rfl, hs1, hb1⟩
        obtain ⟨j, rfl⟩ := hb1.junk
        obtain ⟨b, off, rfl, hb, hc⟩ := slX_cell hs1 (by simp)
        have c0 := hc 0 (by simp)
        have c1 := hc 1 (by simp)
        have c2 := hc 2 (by simp)
        have c3 := hc 3 (by simp)
        have c4 := hc 4 (by simp)
        have c5 := hc 5 (by simp)
        have c6 := hc 6 (by simp)
        simp only [List.getElem_cons_zero, List.getElem_cons_succ, Nat.add_zero] at c0 c1 c2 c3 c4 c5 c6
        simp only [World.size_more, World.size_alloc] at hb
        clear hs1 hb1 hc H1
        go_wp2_with (first
          | (go_at_call 114; (with_reducible refine (HA1.out _).mono ?_); rintro e w' ⟨rfl, j, rfl⟩)
          | (go_at_call 115; (with_reducible refine (HA2.out _ (HE.out.below (by repeat (first | (with_reducible exact Below.refl _ _) | (with_reducible refine Below.allocS ?_ _) | (with_reducible refine Below.moreS ?_ _) | (with_reducible refine Below.drew ?_) | (with_reducible refine below_drewN ?_ _))))).mono ?_); rintro e w' ⟨rfl, j, rfl⟩)
          | (go_at_call 85; (with_reducible refine (HA3.out _ (HE.out.below (by repeat (first | (with_reducible exact Below.refl _ _) | (with_reducible refine Below.allocS ?_ _) | (with_reducible refine Below.moreS ?_ _) | (with_reducible refine Below.drew ?_) | (with_reducible refine below_drewN ?_ _))))).mono ?_); rintro e w' ⟨rfl, j, rfl⟩)
          | (go_at_call 85; (with_reducible refine (HA4.out _ (HE.out.below (by repeat (first | (with_reducible exact Below.refl _ _) | (with_reducible refine Below.allocS ?_ _) | (with_reducible refine Below.moreS ?_ _) | (with_reducible refine Below.drew ?_) | (with_reducible refine below_drewN ?_ _))))).mono ?_); rintro e w' ⟨rfl, j, rfl⟩)
          | (go_at_call 85; (with_reducible refine (HA5.out _ (HE.out.below (by repeat (first | (with_reducible exact Below.refl _ _) | (with_reducible refine Below.allocS ?_ _) | (with_reducible refine Below.moreS ?_ _) | (with_reducible refine Below.drew ?_) | (with_reducible refine below_drewN ?_ _))))).mono ?_); rintro e w' ⟨rfl, j, rfl⟩)
          | (go_at_call 114; (with_reducible refine (HA6.out _).mono ?_); rintro e w' ⟨rfl, j, rfl⟩))
        refine bodyPost_ret (res_cell_tmp (cs := #[.int .i64 0, .int .i64 0, .int .i64 0, .int .i64 0, .int .i64 0, .int .i64 0]) rfl st_Rec rfl (by repeat (first | ((with_reducible apply Blk.at_); (simp; done)) | (with_reducible apply Blk.alloc) | (with_reducible apply Blk.more) | (with_reducible apply Blk.drew))) rfl rfl) rfl ⟨rfl, Below.junk (by repeat (first | (with_reducible exact Below.refl _ _) | (with_reducible refine Below.allocS ?_ _) | (with_reducible refine Below.moreS ?_ _) | (with_reducible refine Below.drew ?_) | (with_reducible refine below_drewN ?_ _)))⟩
      · rw [hall] at HQ
        simp only [Bool.not_true] at HQ
        cases rr
        · obtain rfl : R = (zRec, false) := by rw [HM.out, hall]; rfl
          clear HM hall
          go_enter Tryz.func81, Tryz.ntmps81
          go_wp2_with fail
          refine (H1.out _ (by repeat (first | (with_reducible exact Below.refl _ _) | (with_reducible refine Below.allocS ?_ _) | (with_reducible refine Below.moreS ?_ _) | (with_reducible refine Below.drew ?_) | (with_reducible refine below_drewN ?_ _)))).mono ?_
          rintro e w1 ⟨a, cap, rfl, hs1, hb1⟩
          obtain ⟨j, rfl⟩ := hb1.junk
          obtain ⟨b, off, rfl, hb, hc⟩ := slX_cell hs1 (by simp)
          have c0 := hc 0 (by simp)
          have c1 := hc 1 (by simp)
          have c2 := hc 2 (by simp)
          have c3 := hc 3 (by simp)
          have c4 := hc 4 (by simp)
          have c5 := hc 5 (by simp)
          have c6 := hc 6 (by simp)
          simp only [List.getElem_cons_zero, List.getElem_cons_succ, Nat.add_zero] at c0 c1 c2 c3 c4 c5 c6
          simp only [World.size_more, World.size_alloc] at hb
          clear hs1 hb1 hc H1
          go_wp2_with (first
            | (go_at_call 114; (with_reducible refine (HA1.out _).mono ?_); rintro e w' ⟨rfl, j, rfl⟩)
            | (go_at_call 115; (with_reducible refine (HA2.out _ (HE.out.below (by repeat (first | (with_reducible exact Below.refl _ _) | (with_reducible refine Below.allocS ?_ _) | (with_reducible refine Below.moreS ?_ _) | (with_reducible refine Below.drew ?_) | (with_reducible refine below_drewN ?_ _))))).mono ?_); rintro e w' ⟨rfl, j, rfl⟩)
            | (go_at_call 85; (with_reducible refine (HA3.out _ (HE.out.below (by repeat (first | (with_reducible exact Below.refl _ _) | (with_reducible refine Below.allocS ?_ _) | (with_reducible refine Below.moreS ?_ _) | (with_reducible refine Below.drew ?_) | (with_reducible refine below_drewN ?_ _))))).mono ?_); rintro e w' ⟨rfl, j, rfl⟩)
            | (go_at_call 85; (with_reducible refine (HA4.out _ (HE.out.below (by repeat (first | (with_reducible exact Below.refl _ _) | (with_reducible refine Below.allocS ?_ _) | (with_reducible refine Below.moreS ?_ _) | (with_reducible refine Below.drew ?_) | (with_reducible refine below_drewN ?_ _))))).mono ?_); rintro e w' ⟨rfl, j, rfl⟩)
            | (go_at_call 85; (with_reducible refine (HA5.out _ (HE.out.below (by repeat (first | (with_reducible exact Below.refl _ _) | (with_reducible refine Below.allocS ?_ _) | (with_reducible refine Below.moreS ?_ _) | (with_reducible refine Below.drew ?_) | (with_reducible refine below_drewN ?_ _))))).mono ?_); rintro e w' ⟨rfl, j, rfl⟩)
            | (go_at_call 114; (with_reducible refine (HA6.out _).mono ?_); rintro e w' ⟨rfl, j, rfl⟩)
            | (go_at_call 29; (with_reducible refine (HRt.out _).mono ?_); rintro e w' ⟨rfl, j, rfl⟩))
          refine bodyPost_ret (res_cell_tmp (cs := #[.int .i64 0, .int .i64 0, .int .i64 0, .int .i64 0, .int .i64 0, .int .i64 0]) rfl st_Rec rfl (by repeat (first | ((with_reducible apply Blk.at_); (simp; done)) | (with_reducible apply Blk.alloc) | (with_reducible apply Blk.more) | (with_reducible apply Blk.drew))) rfl rfl) rfl ⟨rfl, Below.junk (by repeat (first | (with_reducible exact Below.refl _ _) | (with_reducible refine Below.allocS ?_ _) | (with_reducible refine Below.moreS ?_ _) | (with_reducible refine Below.drew ?_) | (with_reducible refine below_drewN ?_ _)))⟩
        · obtain rfl : R = (⟨f1, f2, f3, f4, f5, f6⟩, true) := by rw [HM.out, hall]; rfl
          clear HM hall
          go_enter Tryz.func81, Tryz.ntmps81
          go_wp2_with fail
          refine (H1.out _ (by repeat (first | (with_reducible exact Below.refl _ _) | (with_reducible refine Below.allocS ?_ _) | (with_reducible refine Below.moreS ?_ _) | (with_reducible refine Below.drew ?_) | (with_reducible refine below_drewN ?_ _)))).mono ?_
          rintro e w1 ⟨a, cap, rfl, hs1, hb1⟩
          obtain ⟨j, rfl⟩ := hb1.junk
          obtain ⟨b, off, rfl, hb, hc⟩ := slX_cell hs1 (by simp)
          have c0 := hc 0 (by simp)
          have c1 := hc 1 (by simp)
          have c2 := hc 2 (by simp)
          have c3 := hc 3 (by simp)
          have c4 := hc 4 (by simp)
          have c5 := hc 5 (by simp)
          have c6 := hc 6 (by simp)
          simp only [List.getElem_cons_zero, List.getElem_cons_succ, Nat.add_zero] at c0 c1 c2 c3 c4 c5 c6
          simp only [World.size_more, World.size_alloc] at hb
          clear hs1 hb1 hc H1
          go_wp2_with (first
            | (go_at_call 114; (with_reducible refine (HA1.out _).mono ?_); rintro e w' ⟨rfl, j, rfl⟩)
            | (go_at_call 115; (with_reducible refine (HA2.out _ (HE.out.below (by repeat (first | (with_reducible exact Below.refl _ _) | (with_reducible refine Below.allocS ?_ _) | (with_reducible refine Below.moreS ?_ _) | (with_reducible refine Below.drew ?_) | (with_reducible refine below_drewN ?_ _))))).mono ?_); rintro e w' ⟨rfl, j, rfl⟩)
            | (go_at_call 85; (with_reducible refine (HA3.out _ (HE.out.below (by repeat (first | (with_reducible exact Below.refl _ _) | (with_reducible refine Below.allocS ?_ _) | (with_reducible refine Below.moreS ?_ _) | (with_reducible refine Below.drew ?_) | (with_reducible refine below_drewN ?_ _))))).mono ?_); rintro e w' ⟨rfl, j, rfl⟩)
            | (go_at_call 85; (with_reducible refine (HA4.out _ (HE.out.below (by repeat (first | (with_reducible exact Below.refl _ _) | (with_reducible refine Below.allocS ?_ _) | (with_reducible refine Below.moreS ?_ _) | (with_reducible refine Below.drew ?_) | (with_reducible refine below_drewN ?_ _))))).mono ?_); rintro e w' ⟨rfl, j, rfl⟩)
            | (go_at_call 85; (with_reducible refine (HA5.out _ (HE.out.below (by repeat (first | (with_reducible exact Below.refl _ _) | (with_reducible refine Below.allocS ?_ _) | (with_reducible refine Below.moreS ?_ _) | (with_reducible refine Below.drew ?_) | (with_reducible refine below_drewN ?_ _))))).mono ?_); rintro e w' ⟨rfl, j, rfl⟩)
            | (go_at_call 114; (with_reducible refine (HA6.out _).mono ?_); rintro e w' ⟨rfl, j, rfl⟩)
            | (go_at_call 29; (with_reducible refine (HRt.out _).mono ?_); rintro e w' ⟨rfl, j, rfl⟩))
          refine bodyPost_ret (res_cell_tmp (cs := #[.int .i64 f1, .int .i64 f2, .int .i64 f3, .int .i64 f4, .int .i64 f5, .int .i64 f6]) rfl st_Rec rfl (by repeat (first | ((with_reducible apply Blk.at_); (simp; done)) | (with_reducible apply Blk.alloc) | (with_reducible apply Blk.more) | (with_reducible apply Blk.drew))) rfl rfl) rfl ⟨rfl, Below.junk (by repeat (first | (with_reducible exact Below.refl _ _) | (with_reducible refine Below.allocS ?_ _) | (with_reducible refine Below.moreS ?_ _) | (with_reducible refine Below.drew ?_) | (with_reducible refine below_drewN ?_ _)))⟩
    · clear LN
      have hw1 : (w0 == [102, 114, 97, 109, 101]) = false := by rw [beq_eq_false_iff_ne]; exact hw
      have hw2 : (w0 != [102, 114, 97, 109, 101]) = true := by unfold bne; rw [hw1]; rfl
      obtain rfl : R = (zRec, false) := HR.out.trans ((if_pos rfl).trans (rdRec_word hw))
      clear HR hw
      go_enter Tryz.func81, Tryz.ntmps81
      go_wp2_with fail
      refine (H1.out _ (by repeat (first | (with_reducible exact Below.refl _ _) | (with_reducible refine Below.allocS ?_ _) | (with_reducible refine Below.moreS ?_ _) | (with_reducible refine Below.drew ?_) | (with_reducible refine below_drewN ?_ _)))).mono ?_
      rintro e w1 ⟨a, cap, rfl, hs1, hb1⟩
      obtain ⟨j, rfl⟩ := hb1.junk
      obtain ⟨b, off, rfl, hb, hc⟩ := slX_cell hs1 (by simp)
      have c0 := hc 0 (by simp)
      simp only [List.getElem_cons_zero, Nat.add_zero] at c0
      clear hs1 hb1 hc
      go_wp2_with fail
      refine bodyPost_ret (res_cell_tmp (cs := #[.int .i64 0, .int .i64 0, .int .i64 0, .int .i64 0, .int .i64 0, .int .i64 0]) rfl st_Rec rfl (by repeat (first | ((with_reducible apply Blk.at_); (simp; done)) | (with_reducible apply Blk.alloc) | (with_reducible apply Blk.more) | (with_reducible apply Blk.drew))) rfl rfl) rfl ⟨rfl, Below.junk (by repeat (first | (with_reducible exact Below.refl _ _) | (with_reducible refine Below.allocS ?_ _) | (with_reducible refine Below.moreS ?_ _) | (with_reducible refine Below.drew ?_) | (with_reducible refine below_drewN ?_ _)))⟩
  · clear LN0
    have hl1 : ((l.length : Int) == 7) = false := by rw [beq_eq_false_iff_ne]; omega
    have hl2 : ((l.length : Int) != 7) = true := by unfold bne; rw [hl1]; rfl
    obtain rfl : R = (zRec, false) := HR.out.trans ((if_pos rfl).trans (rdRec_len hl))
    clear HR hl
    go_enter Tryz.func81, Tryz.ntmps81
    go_wp2_with fail
    refine (H1.out _ (by repeat (first | (with_reducible exact Below.refl _ _) | (with_reducible refine Below.allocS ?_ _) | (with_reducible refine Below.moreS ?_ _) | (with_reducible refine Below.drew ?_) | (with_reducible refine below_drewN ?_ _)))).mono ?_
    rintro e w1 ⟨a, cap, rfl, hs1, hb1⟩
    obtain ⟨j, rfl⟩ := hb1.junk
    clear hs1 hb1
    go_wp2_with fail
    refine bodyPost_ret (res_cell_tmp (cs := #[.int .i64 0, .int .i64 0, .int .i64 0, .int .i64 0, .int .i64 0, .int .i64 0]) rfl st_Rec rfl (by repeat (first | ((with_reducible apply Blk.at_); (simp; done)) | (with_reducible apply Blk.alloc) | (with_reducible apply Blk.more) | (with_reducible apply Blk.drew))) rfl rfl) rfl ⟨rfl, Below.junk (by repeat (first | (with_reducible exact Below.refl _ _) | (with_reducible refine Below.allocS ?_ _) | (with_reducible refine Below.moreS ?_ _) | (with_reducible refine Below.drew ?_) | (with_reducible refine below_drewN ?_ _)))⟩
end Go.Proofs.YtbdmepidabnfkaaGreatDoor
