/-
  Records: names of sides, kinds and types, both roads.
-/
import Derived.Test.YthbflllflnnipaaGreatDoorMa
import Derived.Test.YthbflllflnnipaaGreatDoorDig6
import Derived.Test.YthbflllflnnipaaGreatDoorDig4
import Derived.Laws.StructEq
namespace Go.Proofs.YthbflllflnnipaaGreatDoor
set_option linter.unusedSimpArgs false
set_option linter.unusedVariables false
set_option linter.unusedSectionVars false
open Go.ChangeShapes Go.WideShapes Go.ChangeAt Go.RowKit Go.Deep Go.Shelf

def KN (w : World) : Prop := ∀ k, k < 10 → w.cell? ⟨0, k, none⟩ = some (bstr (tyName k))
structure EnvK (w : World) : Prop where
  env : Env w
  kn : KN w
theorem EnvK.below {w w' : World} (h : EnvK w) (hb : Below w.heap.size w w') : EnvK w' :=
  ⟨h.env.below hb, fun k hk => (hb.cell (p := ⟨0, k, none⟩) (cell_lt (h.kn 0 (by omega)))).trans (h.kn k hk)⟩
theorem EnvK.more {w : World} (h : EnvK w) (j : Junk) : EnvK (w.more j) := h.below (Below.moreS (Below.refl w.heap.size w) j)

def EnvP (w : World) : Prop := Lib.TabIs Tryz.prog w "internal/strconv.uint64pow10" .u64 Lib.pow10Tab
theorem EnvP.below {w w' : World} (h : EnvP w) (hb : Below w.heap.size w w') : EnvP w' := by
  obtain ⟨g, hg⟩ := pow_named
  exact var?_below hb hg (var_lt hg h) h
structure EnvK0 (w : World) : Prop where
  p : EnvP w
  kn : KN w
theorem EnvK0.below {w w' : World} (h : EnvK0 w) (hb : Below w.heap.size w w') : EnvK0 w' :=
  ⟨h.p.below hb, fun k hk => (hb.cell (p := ⟨0, k, none⟩) (cell_lt (h.kn 0 (by omega)))).trans (h.kn k hk)⟩
theorem EnvK0.more {w : World} (h : EnvK0 w) (j : Junk) : EnvK0 (w.more j) := h.below (Below.moreS (Below.refl w.heap.size w) j)
theorem EnvK.k0 {w : World} (h : EnvK w) : EnvK0 w := ⟨h.env.pow, h.kn⟩
set_option maxHeartbeats 2000000 in
set_option maxRecDepth 100000 in
theorem digits_Text0 (n : Int) (h0 : -9223372036854775808 ≤ n) (h1 : n ≤ 9223372036854775807) (w : World) (hE : EnvP w) :
    Calls Tryz.prog 61 #[.int .i64 n] w fun e w' => e = .returned (bstr (Lib.itoa n)) ∧ ∃ j, w' = w.more j := by
  have H : Hid (Calls Tryz.prog 99 #[.int .i64 n] w fun e w' => e = .returned (bstr (Lib.itoa n)) ∧ ∃ j, w' = w.more j) :=
    (Tryz.strconv_Itoa n h0 h1 w hE).mono fun e w' ⟨he, k, os, hw⟩ => ⟨he, by rw [hw]; exact grow_junk w k os⟩
  clear hE
  generalize Lib.itoa n = T at H ⊢
  go_enter Tryz.func61, Tryz.ntmps61
  go_wp2_with (go_at_call 99; (with_reducible refine (H.out).mono ?_); rintro e w' ⟨rfl, j, rfl⟩)
  go_ret
  exact ⟨rfl, Below.junk (by repeat (first | (with_reducible exact Below.refl _ _) | (with_reducible refine Below.allocS ?_ _) | (with_reducible refine Below.moreS ?_ _) | (with_reducible refine Below.drew ?_) | (with_reducible refine below_drewN ?_ _)))⟩

set_option maxRecDepth 100000 in
theorem record_Side (n : Int) (w : World) : Calls Tryz.prog 63 #[.int .i64 n] w fun e w' => e = .returned (bstr (sideF n)) ∧ w = w' := by
  cases h0 : (n == 0)
  · have g0 : ¬ n = 0 := by simpa using h0
    cases h1 : (n == 1)
    · have g1 : ¬ n = 1 := by simpa using h1
      have HR : Hid (sideF n = []) := by show _ = _; unfold sideF; rw [if_neg g0, if_neg g1]
      clear g0 g1
      go_enter Tryz.func63, Tryz.ntmps63
      go_wp2_with fail
      go_ret
      exact ⟨by rw [HR.out]; rfl, rfl⟩
    · obtain rfl : n = 1 := by simpa using h1
      clear h0 h1 g0
      go_enter Tryz.func63, Tryz.ntmps63
      go_wp2_with fail
      go_ret
      exact ⟨rfl, rfl⟩
  · obtain rfl : n = 0 := by simpa using h0
    clear h0
    go_enter Tryz.func63, Tryz.ntmps63
    go_wp2_with fail
    go_ret
    exact ⟨rfl, rfl⟩
set_option maxRecDepth 100000 in
theorem record_Kind (n : Int) (w : World) : Calls Tryz.prog 22 #[.int .i64 n] w fun e w' => e = .returned (bstr (kindF n)) ∧ w = w' := by
  by_cases h : 1 ≤ n ∧ n ≤ 4
  · rcases kindF_cases h with rfl | rfl | rfl | rfl
    all_goals
      clear h
      go_enter Tryz.func22, Tryz.ntmps22
      go_wp2_with fail
      go_ret
      exact ⟨rfl, rfl⟩
  · have HR : Hid (kindF n = []) := by show _ = _; unfold kindF; rw [if_neg (by omega), if_neg (by omega), if_neg (by omega), if_neg (by omega)]
    have h1 : (n == 1) = false := by rw [beq_eq_false_iff_ne]; omega
    have h2 : (n == 2) = false := by rw [beq_eq_false_iff_ne]; omega
    have h3 : (n == 3) = false := by rw [beq_eq_false_iff_ne]; omega
    have h4 : (n == 4) = false := by rw [beq_eq_false_iff_ne]; omega
    clear h
    go_enter Tryz.func22, Tryz.ntmps22
    go_wp2_with fail
    go_ret
    exact ⟨by rw [HR.out]; rfl, rfl⟩
set_option maxRecDepth 100000 in
theorem kinds_Known (n : Int) (w : World) : Calls Tryz.prog 101 #[.int .i64 n] w fun e w' => e = .returned (.bool (inB n 9)) ∧ w = w' := by
  by_cases h0 : 0 ≤ n <;> by_cases h1 : n ≤ 9
  all_goals
    go_enter Tryz.func101, Tryz.ntmps101
    go_wp2_with fail
    go_ret
    exact ⟨by simp [inB, h0, h1], rfl⟩
set_option maxRecDepth 100000 in
theorem head_within (n m : Int) (w : World) : Calls Tryz.prog 112 #[.int .i64 n, .int .i64 m] w fun e w' => e = .returned (.bool (inB n m)) ∧ w = w' := by
  by_cases h0 : 0 ≤ n <;> by_cases h1 : n ≤ m
  all_goals
    go_enter Tryz.func112, Tryz.ntmps112
    go_wp2_with fail
    go_ret
    exact ⟨by simp [inB, h0, h1], rfl⟩
set_option maxRecDepth 100000 in
theorem head_Right (ln ty fl st : Int) (rs : Bool) (w : World) : Calls Tryz.prog 72 #[.agg #[.int .i64 ln, .int .i64 ty, .int .i64 fl, .int .i64 st, .bool rs]] w fun e w' => e = .returned (.bool (headR ln ty fl st)) ∧ ∃ j, w' = w.more j := by
  have H1 : Hid (∀ W, Calls Tryz.prog 112 #[.int .i64 ln, .int .i64 16777215] W fun e w' => e = .returned (.bool (inB ln 16777215)) ∧ W = w') := head_within ln 16777215
  have H2 : Hid (∀ W, Calls Tryz.prog 112 #[.int .i64 ty, .int .i64 255] W fun e w' => e = .returned (.bool (inB ty 255)) ∧ W = w') := head_within ty 255
  have H3 : Hid (∀ W, Calls Tryz.prog 112 #[.int .i64 fl, .int .i64 255] W fun e w' => e = .returned (.bool (inB fl 255)) ∧ W = w') := head_within fl 255
  have H4 : Hid (∀ W, Calls Tryz.prog 112 #[.int .i64 st, .int .i64 2147483647] W fun e w' => e = .returned (.bool (inB st 2147483647)) ∧ W = w') := head_within st 2147483647
  unfold headR
  generalize inB ln 16777215 = b1 at H1 ⊢
  generalize inB ty 255 = b2 at H2 ⊢
  generalize inB fl 255 = b3 at H3 ⊢
  generalize inB st 2147483647 = b4 at H4 ⊢
  cases b1 <;> cases b2 <;> cases b3
  all_goals
    go_enter Tryz.func72, Tryz.ntmps72
    go_wp2_with (first
      | (go_at_call 112; (with_reducible refine (H1.out _).mono ?_); rintro e w' ⟨rfl, rfl⟩)
      | (go_at_call 112; (with_reducible refine (H2.out _).mono ?_); rintro e w' ⟨rfl, rfl⟩)
      | (go_at_call 112; (with_reducible refine (H3.out _).mono ?_); rintro e w' ⟨rfl, rfl⟩)
      | (go_at_call 112; (with_reducible refine (H4.out _).mono ?_); rintro e w' ⟨rfl, rfl⟩))
    go_ret
    exact ⟨rfl, Below.junk (by repeat (first | (with_reducible exact Below.refl _ _) | (with_reducible refine Below.allocS ?_ _) | (with_reducible refine Below.moreS ?_ _) | (with_reducible refine Below.drew ?_) | (with_reducible refine below_drewN ?_ _)))⟩

set_option maxHeartbeats 2000000 in
set_option maxRecDepth 100000 in
theorem kinds_Name (t : Int) (w : World) (hE : EnvK0 w) : Calls Tryz.prog 64 #[.int .i64 t] w fun e w' => e = .returned (bstr (nameF t)) ∧ ∃ j, w' = w.more j := by
  cases hm : (t == -1)
  · have gm : ¬ t = -1 := by simpa using hm
    by_cases hk : 0 ≤ t ∧ t ≤ 9
    · obtain ⟨k, rfl⟩ : ∃ k : Nat, t = (k : Int) := ⟨t.toNat, by omega⟩
      have c0 := hE.kn k (by omega)
      have HK : Hid (∀ W, Calls Tryz.prog 101 #[.int .i64 (k : Int)] W fun e w' => e = .returned (.bool true) ∧ W = w') := fun W => by
        have := kinds_Known (k : Int) W
        rw [show inB (k : Int) 9 = true from inB_iff.2 hk] at this
        exact this
      have HR : Hid (nameF (k : Int) = tyName k) := by show _ = _; unfold nameF; rw [if_neg gm, if_pos hk]; rfl
      have i1 : (k : Int) < 10 := by omega
      generalize tyName k = T at HR c0
      clear gm hE hk
      go_enter Tryz.func64, Tryz.ntmps64
      go_wp2_with (go_at_call 101; (with_reducible refine (HK.out _).mono ?_); rintro e w' ⟨rfl, rfl⟩)
      go_ret
      exact ⟨by rw [HR.out]; rfl, Below.junk (by repeat (first | (with_reducible exact Below.refl _ _) | (with_reducible refine Below.allocS ?_ _) | (with_reducible refine Below.moreS ?_ _) | (with_reducible refine Below.drew ?_) | (with_reducible refine below_drewN ?_ _)))⟩
    · have HK : Hid (∀ W, Calls Tryz.prog 101 #[.int .i64 t] W fun e w' => e = .returned (.bool false) ∧ W = w') := fun W => by
        have := kinds_Known t W
        rw [show inB t 9 = false from by cases h : inB t 9 with | false => rfl | true => exact absurd (inB_iff.1 h) hk] at this
        exact this
      by_cases h9 : 9 < t
      · by_cases h255 : t ≤ 255
        · have HT : Hid (∀ W, EnvP W → Calls Tryz.prog 61 #[.int .i64 t] W fun e w' => e = .returned (bstr (Lib.itoa t)) ∧ ∃ j, w' = W.more j) := fun W hW => digits_Text0 t (by omega) (by omega) W hW
          have HR : Hid (nameF t = [84, 89, 80, 69, 95] ++ Lib.itoa t) := by show _ = _; unfold nameF; rw [if_neg gm, if_neg hk, if_pos ⟨h9, h255⟩]
          have hlen := itoa_len (n := t) (by omega) (by omega)
          have HE := Lib.hid hE.p
          generalize Lib.itoa t = T at HT HR hlen
          clear gm hE hk
          go_enter Tryz.func64, Tryz.ntmps64
          go_wp2_with (first
            | (go_at_call 101; (with_reducible refine (HK.out _).mono ?_); rintro e w' ⟨rfl, rfl⟩)
            | (go_at_call 61; (with_reducible refine (HT.out _ (HE.out.below (by repeat (first | (with_reducible exact Below.refl _ _) | (with_reducible refine Below.allocS ?_ _) | (with_reducible refine Below.moreS ?_ _) | (with_reducible refine Below.drew ?_) | (with_reducible refine below_drewN ?_ _))))).mono ?_); rintro e w' ⟨rfl, j, rfl⟩))
          go_ret
          exact ⟨by rw [HR.out]; rfl, Below.junk (by repeat (first | (with_reducible exact Below.refl _ _) | (with_reducible refine Below.allocS ?_ _) | (with_reducible refine Below.moreS ?_ _) | (with_reducible refine Below.drew ?_) | (with_reducible refine below_drewN ?_ _)))⟩
        · have HR : Hid (nameF t = []) := by show _ = _; exact nameF_out (by omega)
          clear gm hE hk
          go_enter Tryz.func64, Tryz.ntmps64
          go_wp2_with (go_at_call 101; (with_reducible refine (HK.out _).mono ?_); rintro e w' ⟨rfl, rfl⟩)
          go_ret
          exact ⟨by rw [HR.out]; rfl, Below.junk (by repeat (first | (with_reducible exact Below.refl _ _) | (with_reducible refine Below.allocS ?_ _) | (with_reducible refine Below.moreS ?_ _) | (with_reducible refine Below.drew ?_) | (with_reducible refine below_drewN ?_ _)))⟩
      · have HR : Hid (nameF t = []) := by show _ = _; exact nameF_out (by omega)
        clear gm hE hk
        go_enter Tryz.func64, Tryz.ntmps64
        go_wp2_with (go_at_call 101; (with_reducible refine (HK.out _).mono ?_); rintro e w' ⟨rfl, rfl⟩)
        go_ret
        exact ⟨by rw [HR.out]; rfl, Below.junk (by repeat (first | (with_reducible exact Below.refl _ _) | (with_reducible refine Below.allocS ?_ _) | (with_reducible refine Below.moreS ?_ _) | (with_reducible refine Below.drew ?_) | (with_reducible refine below_drewN ?_ _)))⟩
  · obtain rfl : t = -1 := by simpa using hm
    clear hm hE
    go_enter Tryz.func64, Tryz.ntmps64
    go_wp2_with fail
    go_ret
    exact ⟨rfl, Below.junk (by repeat (first | (with_reducible exact Below.refl _ _) | (with_reducible refine Below.allocS ?_ _) | (with_reducible refine Below.moreS ?_ _) | (with_reducible refine Below.drew ?_) | (with_reducible refine below_drewN ?_ _)))⟩

def NamesPost (n : Nat) (f : Nat → List UInt8) (w : World) (e : Ending) (w' : World) : Prop := ∃ g, e = .returned (.slice (some ⟨g, 0, none⟩) n n) ∧ (∀ k, k < n → w'.cell? ⟨g, k, none⟩ = some (bstr (f k))) ∧ g < w'.heap.size ∧ Below w.heap.size w w'
theorem names_post {n : Nat} {f : Nat → List UInt8} {w : World} {t : TypeId} {cs : Array Value} (h : ∀ k, k < n → cs[k]? = some (bstr (f k))) : NamesPost n f w (.returned (.slice (some ⟨w.heap.size, 0, none⟩) n n)) (w.alloc (.cells cs t)) :=
  ⟨_, rfl, fun k hk => (Blk.new w t cs).cell k |>.trans (h k hk), by simp, (Below.refl _ _).alloc (Nat.le_refl _) _⟩
set_option maxRecDepth 100000 in
theorem ref08_Names (w : World) : Calls Tryz.prog 121 #[] w (NamesPost 10 tyName w) := by
  go_enter Tryz.func121, Tryz.ntmps121
  go_wp2_with fail
  go_ret
  refine names_post (cs := (tyNames.map bstr).toArray) fun k hk => ?_
  have : ∀ m : Fin 10, tyNames[m.val]? = some (tyName m.val) := by decide
  simp [this ⟨k, hk⟩]
def sideN (k : Nat) : List UInt8 := [[99, 108, 105, 101, 110, 116], [115, 101, 114, 118, 101, 114]].getD k []
def kindN (k : Nat) : List UInt8 := [[97, 108, 108, 111, 119, 101, 100], [105, 103, 110, 111, 114, 101, 100], [114, 101, 106, 101, 99, 116, 101, 100], [108, 105, 109, 105, 116, 101, 100]].getD k []
set_option maxRecDepth 100000 in
theorem ref41_sides (w : World) : Calls Tryz.prog 88 #[] w (NamesPost 2 sideN w) := by
  go_enter Tryz.func88, Tryz.ntmps88
  go_wp2_with fail
  go_ret
  refine names_post (cs := ([[99, 108, 105, 101, 110, 116], [115, 101, 114, 118, 101, 114]].map bstr).toArray) fun k hk => ?_
  match k, hk with
  | 0, _ => rfl
  | 1, _ => rfl
set_option maxRecDepth 100000 in
theorem ref41_Kinds (w : World) : Calls Tryz.prog 48 #[] w (NamesPost 4 kindN w) := by
  go_enter Tryz.func48, Tryz.ntmps48
  go_wp2_with fail
  go_ret
  refine names_post (cs := ([[97, 108, 108, 111, 119, 101, 100], [105, 103, 110, 111, 114, 101, 100], [114, 101, 106, 101, 99, 116, 101, 100], [108, 105, 109, 105, 116, 101, 100]].map bstr).toArray) fun k hk => ?_
  match k, hk with
  | 0, _ => rfl
  | 1, _ => rfl
  | 2, _ => rfl
  | 3, _ => rfl
set_option maxHeartbeats 2000000 in
set_option maxRecDepth 100000 in
theorem ref08_Name (t : Int) (w : World) : Calls Tryz.prog 89 #[.int .i64 t] w fun e w' => e = .returned (bstr (nameF t)) ∧ ∃ j, w' = w.more j := by
  cases hm : (t == -1)
  · have gm : ¬ t = -1 := by simpa using hm
    by_cases h0 : t < 0
    · have HR : Hid (nameF t = []) := by show _ = _; exact nameF_out (by omega)
      clear gm
      go_enter Tryz.func89, Tryz.ntmps89
      go_wp2_with fail
      go_ret
      exact ⟨by rw [HR.out]; rfl, Below.junk (by repeat (first | (with_reducible exact Below.refl _ _) | (with_reducible refine Below.allocS ?_ _) | (with_reducible refine Below.moreS ?_ _) | (with_reducible refine Below.drew ?_) | (with_reducible refine below_drewN ?_ _)))⟩
    by_cases h255 : 255 < t
    · have HR : Hid (nameF t = []) := by show _ = _; exact nameF_out (by omega)
      clear gm
      go_enter Tryz.func89, Tryz.ntmps89
      go_wp2_with fail
      go_ret
      exact ⟨by rw [HR.out]; rfl, Below.junk (by repeat (first | (with_reducible exact Below.refl _ _) | (with_reducible refine Below.allocS ?_ _) | (with_reducible refine Below.moreS ?_ _) | (with_reducible refine Below.drew ?_) | (with_reducible refine below_drewN ?_ _)))⟩
    by_cases h10 : t < 10
    · obtain ⟨k, rfl⟩ : ∃ k : Nat, t = (k : Int) := ⟨t.toNat, by omega⟩
      have HR : Hid (nameF (k : Int) = tyName k) := by show _ = _; unfold nameF; rw [if_neg gm, if_pos (by omega)]; rfl
      have HN := Lib.hid (ref08_Names w)
      have hk : k < 10 := by omega
      clear gm
      go_enter Tryz.func89, Tryz.ntmps89
      go_wp2_with fail
      refine HN.out.mono ?_
      rintro e w' ⟨g, rfl, hc, hg, hb⟩
      have c0 := hc k hk
      have HB := Lib.hid hb
      generalize tyName k = T at HR c0
      clear hc hb hk
      go_wp2_with fail
      go_ret
      exact ⟨by rw [HR.out]; rfl, HB.out.junk⟩
    · have HT : Hid (∀ W, Calls Tryz.prog 86 #[.int .i64 t] W fun e w' => e = .returned (bstr (Lib.itoa t)) ∧ W = w') := fun W => ref03_Text t (by omega) (by omega) W
      have HR : Hid (nameF t = [84, 89, 80, 69, 95] ++ Lib.itoa t) := by show _ = _; unfold nameF; rw [if_neg gm, if_neg (by omega), if_pos (by omega)]
      have hlen := itoa_len (n := t) (by omega) (by omega)
      generalize Lib.itoa t = T at HT HR hlen
      clear gm
      go_enter Tryz.func89, Tryz.ntmps89
      go_wp2_with (go_at_call 86; (with_reducible refine (HT.out _).mono ?_); rintro e w' ⟨rfl, rfl⟩)
      go_ret
      exact ⟨by rw [HR.out]; rfl, Below.junk (by repeat (first | (with_reducible exact Below.refl _ _) | (with_reducible refine Below.allocS ?_ _) | (with_reducible refine Below.moreS ?_ _) | (with_reducible refine Below.drew ?_) | (with_reducible refine below_drewN ?_ _)))⟩
  · obtain rfl : t = -1 := by simpa using hm
    clear hm
    go_enter Tryz.func89, Tryz.ntmps89
    go_wp2_with fail
    go_ret
    exact ⟨rfl, Below.junk (by repeat (first | (with_reducible exact Below.refl _ _) | (with_reducible refine Below.allocS ?_ _) | (with_reducible refine Below.moreS ?_ _) | (with_reducible refine Below.drew ?_) | (with_reducible refine below_drewN ?_ _)))⟩

theorem scan_step (f : Int → List UInt8) (s : List UInt8) (g : Nat) (t : Int) : scanF f s (g + 1) t = if f t = s then (t, true) else scanF f s g (t + 1) := rfl
set_option maxHeartbeats 4000000 in
set_option maxRecDepth 100000 in
theorem kinds_ByName (s : List UInt8) (hs : s.length ≤ 1048576) (w : World) (hE : EnvK w) : Calls Tryz.prog 115 #[bstr s] w fun e w' => e = .returned (.tuple #[.int .i64 (byNameF s).1, .bool (byNameF s).2]) ∧ ∃ j, w' = w.more j := by
  by_cases h0 : s = []
  · subst h0
    rw [byName_nil]
    go_enter Tryz.func115, Tryz.ntmps115
    go_wp2_with fail
    go_ret2
    exact ⟨rfl, Below.junk (by repeat (first | (with_reducible exact Below.refl _ _) | (with_reducible refine Below.allocS ?_ _) | (with_reducible refine Below.moreS ?_ _) | (with_reducible refine Below.drew ?_) | (with_reducible refine below_drewN ?_ _)))⟩
  have hne : s.isEmpty = false := by cases s <;> simp_all
  have hne' : (!s.isEmpty) = true := by rw [hne]; rfl
  have HF : Hid (byNameF s = scanF nameF s 257 (-1)) := rfl
  have HE := Lib.hid hE
  clear h0 hE
  generalize byNameF s = R at HF ⊢
  obtain ⟨r1, r2⟩ := R
  go_enter Tryz.func115, Tryz.ntmps115
  go_wp2_with fail
  go_loopg [4] 257 (fun g i wr => ∃ (t : Int) (q : Nat), q = g ∧ t + q = 256 ∧ q ≤ 257 ∧ i = .int .i64 t ∧ Hid ((r1, r2) = scanF nameF s q t) ∧ ∃ j, wr = w.more j)
  case atStart => exact ⟨-1, _, rfl, by omega, by omega, rfl, HF, Below.junk (by repeat (first | (with_reducible exact Below.refl _ _) | (with_reducible refine Below.allocS ?_ _) | (with_reducible refine Below.moreS ?_ _) | (with_reducible refine Below.drew ?_) | (with_reducible refine below_drewN ?_ _)))⟩
  case round =>
    obtain ⟨t, q, hq, htg, hg257, rfl, HS, j, rfl⟩ := hrel
    have HQ := Lib.hid hq
    clear hq
    have HK := Lib.hid htg
    by_cases hlt : t ≤ 255
    · obtain ⟨g', rfl⟩ : ∃ g', q = g' + 1 := ⟨q - 1, by omega⟩
      have HN : Hid (∀ j, Calls Tryz.prog 64 #[.int .i64 t] (w.more j) fun e w' => e = .returned (bstr (nameF t)) ∧ ∃ k, w' = (w.more j).more k) := fun j => kinds_Name t _ (HE.out.more j).k0
      have HT : Hid ((r1, r2) = if nameF t = s then (t, true) else scanF nameF s g' (t + 1)) := by show _ = _; rw [HS.out, scan_step]
      have b0 : -1 ≤ t := by omega
      generalize nameF t = T at HN HT
      clear htg HS
      cases e1 : (T == s)
      · have HU : Hid ((r1, r2) = scanF nameF s g' (t + 1)) := by show _ = _; rw [HT.out, if_neg (by simpa using e1)]
        clear HT
        go_wp2_with (go_at_call 64; (with_reducible refine (HN.out _).mono ?_); rintro e w' ⟨rfl, j, rfl⟩)
        go_roundg g'
        case measure => have := HQ.out; omega
        case rel => exact ⟨t + 1, _, rfl, by have := HK.out; omega, by omega, by first | rfl | go_num, HU, Below.junk (by repeat (first | (with_reducible exact Below.refl _ _) | (with_reducible refine Below.allocS ?_ _) | (with_reducible refine Below.moreS ?_ _) | (with_reducible refine Below.drew ?_) | (with_reducible refine below_drewN ?_ _)))⟩
      · have hr : (r1, r2) = (t, true) := by rw [HT.out, if_pos (by simpa using e1)]
        obtain ⟨rfl, rfl⟩ := Prod.mk.inj hr
        clear HT hr
        go_wp2_with (go_at_call 64; (with_reducible refine (HN.out _).mono ?_); rintro e w' ⟨rfl, j, rfl⟩)
        go_ret2
        exact ⟨rfl, Below.junk (by repeat (first | (with_reducible exact Below.refl _ _) | (with_reducible refine Below.allocS ?_ _) | (with_reducible refine Below.moreS ?_ _) | (with_reducible refine Below.drew ?_) | (with_reducible refine below_drewN ?_ _)))⟩
    · obtain rfl : q = 0 := by omega
      have hr : (r1, r2) = (0, false) := HS.out
      obtain ⟨rfl, rfl⟩ := Prod.mk.inj hr
      clear hr HS htg
      go_wp2_with fail
      go_ret2
      exact ⟨rfl, Below.junk (by repeat (first | (with_reducible exact Below.refl _ _) | (with_reducible refine Below.allocS ?_ _) | (with_reducible refine Below.moreS ?_ _) | (with_reducible refine Below.drew ?_) | (with_reducible refine below_drewN ?_ _)))⟩
end Go.Proofs.YthbflllflnnipaaGreatDoor
