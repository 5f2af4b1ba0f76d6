/-
  Parts of the proof, one behind the other: contracts of the program and plain laws; no condition of their own.
-/
import Derived.Test.YtfcgdfcekpbliaaGreatDoorShelf2
import Derived.Test.YtfcgdfcekpbliaaGreatDoorMb
import Derived.Test.YtfcgdfcekpbliaaGreatDoorMa
import Derived.WalkSmall
import Derived.Lib.SmallJoins
/-
  What the walks ask of the library's variables, in any world that has grown since.
-/
namespace Go.Proofs.YtfcgdfcekpbliaaGreatDoor
set_option linter.unusedSimpArgs false
set_option linter.unusedVariables false
set_option linter.unusedSectionVars false
open Go.ChangeShapes Go.WideShapes Go.ChangeAt Go.RowKit Go.Deep Go.Shelf

def ErrCell (w : World) (g : Nat) : Prop := ∃ ev, w.cell? ⟨g, 0, none⟩ = some ev ∧ (ev = .nilIface ∨ ∃ te pe, ev = .iface te pe)
abbrev SynA : Nat := 5
abbrev RngA : Nat := 6
structure Env (w : World) : Prop where
  max : ∃ m, w.cell? MaxA = some (.int .i64 m)
  pow : Lib.TabIs Tryz.prog w "internal/strconv.uint64pow10" .u64 Lib.pow10Tab
  syn : ErrCell w SynA
  rng : ErrCell w RngA
theorem cell_lt {w : World} {g : Nat} {v : Value} (h : w.cell? ⟨g, 0, none⟩ = some v) : g < w.heap.size := by
  rcases Nat.lt_or_ge g w.heap.size with hlt | hge
  · exact hlt
  · unfold World.cell? at h; rw [Array.getElem?_eq_none hge] at h; cases h
theorem cell_keep {w w' : World} {g : Nat} {v : Value} (h : w.cell? ⟨g, 0, none⟩ = some v) (hb : Below w.heap.size w w') : w'.cell? ⟨g, 0, none⟩ = some v :=
  (hb.cell (p := ⟨g, 0, none⟩) (cell_lt h)).trans h
theorem ErrCell.below {w w' : World} {g : Nat} (h : ErrCell w g) (hb : Below w.heap.size w w') : ErrCell w' g := by
  obtain ⟨ev, h1, h2⟩ := h
  exact ⟨ev, cell_keep h1 hb, h2⟩
theorem var_lt {w : World} {P : Program} {n : String} {g : Nat} {cs : Array Value} (hg : P.globalNamed n = some g) (h : w.var? P n = some cs) : g < w.heap.size := by
  unfold World.var? at h
  rw [hg] at h
  rcases Nat.lt_or_ge g w.heap.size with hlt | hge
  · exact hlt
  · simp [Array.getElem?_eq_none hge] at h
theorem pow_named : ∃ g, Tryz.prog.globalNamed "internal/strconv.uint64pow10" = some g := ⟨2, by kernel_rfl⟩
theorem Env.below {w w' : World} (h : Env w) (hb : Below w.heap.size w w') : Env w' := by
  obtain ⟨m, hm⟩ := h.max
  obtain ⟨g, hg⟩ := pow_named
  exact ⟨⟨m, cell_keep hm hb⟩, var?_below hb hg (var_lt hg h.pow) h.pow, h.syn.below hb, h.rng.below hb⟩
theorem Env.more {w : World} (h : Env w) (j : Junk) : Env (w.more j) := h.below (Below.moreS (Below.refl w.heap.size w) j)

theorem grow_junk (w : World) (k : Nat) (os : Array Obj) : ∃ j, Go.Sort.grow (w.drewN k) os = w.more j := ⟨⟨os, (w.drewN k).drawn⟩, rfl⟩
theorem itoa_call (n : Int) (h0 : -9223372036854775808 ≤ n) (h1 : n ≤ 9223372036854775807) (w : World) (hE : Env w) :
    Calls Tryz.prog 48 #[.int .i64 n] w fun e w' => e = .returned (bstr (Lib.itoa n)) ∧ ∃ j, w' = w.more j :=
  (Tryz.strconv_Itoa n h0 h1 w hE.pow).mono fun e w' ⟨he, k, os, hw⟩ => ⟨he, by rw [hw]; exact grow_junk w k os⟩
theorem atoi_good {s : List UInt8} {v : Int} (hm : s.length ≤ 1048576) (h : Lib.atoiAll s = .ok v) (w : World) :
    Calls Tryz.prog 95 #[bstr s] w fun e w' => e = .returned (.tuple #[.int .i64 v, .nilIface]) ∧ ∃ j, w' = w.more j :=
  (Tryz.strconv_Atoi_ok ⟨s.toArray⟩ (by show s.length ≤ _; omega) v h w).mono fun e w' ⟨he, hw⟩ => ⟨he, by
    rcases hw with rfl | ⟨t, rfl⟩
    · exact ⟨_, more_self _⟩
    · exact (Go.Joins.below_bytesWorld _ w _ _ (Nat.le_refl _)).junk⟩
theorem atoi_cases (s : List UInt8) : (∃ v, Lib.atoiAll s = .ok v) ∨ Lib.atoiAll s = Lib.atoiAll [] ∨ Lib.atoiAll s = .range := by
  cases Lib.atoiAll s
  all_goals first | exact .inl ⟨_, rfl⟩ | exact .inr (.inl rfl) | exact .inr (.inr rfl)
def AtoiBad (w : World) (e : Ending) (w' : World) : Prop := ∃ (n : Int) (t : TypeId) (p : Value), e = .returned (.tuple #[.int .i64 n, .iface t p]) ∧ ∃ j, w' = w.more j
theorem atoi_bad {s : List UInt8} (hm : s.length ≤ 1048576) (h : ∀ v, Lib.atoiAll s ≠ .ok v) (w : World) (hE : Env w) :
    Calls Tryz.prog 95 #[bstr s] w (AtoiBad w) := by
  rcases atoi_cases s with ⟨v, ha⟩ | ha | ha
  · exact absurd ha (h v)
  · obtain ⟨ev, h1, h2⟩ := hE.syn
    exact (Tryz.strconv_Atoi_syntax ⟨s.toArray⟩ (by show s.length ≤ _; omega) ha ev w h1 h2).mono fun e w' ⟨N, he, _, _, hb⟩ => ⟨_, _, _, he, hb.junk⟩
  · obtain ⟨ev, h1, h2⟩ := hE.rng
    exact (Tryz.strconv_Atoi_range ⟨s.toArray⟩ (by show s.length ≤ _; omega) ha ev w h1 h2).mono fun e w' ⟨N, he, _, _, hb⟩ => ⟨_, _, _, he, hb.junk⟩
end Go.Proofs.YtfcgdfcekpbliaaGreatDoor
/-
  Numbers as digits: the document's text of a number.
-/
namespace Go.Proofs.YtfcgdfcekpbliaaGreatDoor
set_option linter.unusedSimpArgs false
set_option linter.unusedVariables false
set_option linter.unusedSectionVars false
open Go.ChangeShapes Go.WideShapes Go.ChangeAt Go.RowKit Go.Deep Go.Shelf

def digB (d : Nat) : List UInt8 := [UInt8.ofNat (48 + d)]
theorem dig_cut {n : Nat} (h : n < 10) : ([48, 49, 50, 51, 52, 53, 54, 55, 56, 57].drop n).take 1 = digB n := by
  have : ∀ m : Fin 10, (([48, 49, 50, 51, 52, 53, 54, 55, 56, 57] : List UInt8).drop m.val).take 1 = digB m.val := by decide
  exact this ⟨n, h⟩
set_option maxRecDepth 100000 in
theorem ref03_digit (n : Nat) (hn : n < 10) (w : World) : Calls Tryz.prog 82 #[.int .i64 (n : Int)] w fun e w' => e = .returned (bstr (digB n)) ∧ w = w' := by
  have h1 := Lib.hid (dig_cut hn)
  generalize digB n = P at h1 ⊢
  have i1 : (n : Int) + 1 ≤ 10 := by omega
  have i2 : ((n : Int) + 1).toNat = n + 1 := by omega
  have i3 : (0 : Int) ≤ (n : Int) + 1 := by omega
  have i4 : (n : Int) ≤ (n : Int) + 1 := by omega
  go_enter Tryz.func82, Tryz.ntmps82
  go_wp2_with fail
  go_ret
  exact ⟨ret1d (by rw [← h1.out]; rfl), rfl⟩
end Go.Proofs.YtfcgdfcekpbliaaGreatDoor
/-
  Numbers as digits: a text's value, the document's.
-/
namespace Go.Proofs.YtfcgdfcekpbliaaGreatDoor
set_option linter.unusedSimpArgs false
set_option linter.unusedVariables false
set_option linter.unusedSectionVars false
open Go.ChangeShapes Go.WideShapes Go.ChangeAt Go.RowKit Go.Deep Go.Shelf

def vlE (s : List UInt8) : Option Int → Int × Bool
  | some n => (n, !s.isEmpty)
  | none => (0, false)
set_option maxHeartbeats 4000000 in
set_option maxRecDepth 100000 in
theorem ref03_value (s : List UInt8) (hm : s.length ≤ 1048576) (w : World) :
    Calls Tryz.prog 84 #[bstr s] w fun e w' => e = .returned (.tuple #[.int .i64 (vlF s).1, .bool (vlF s).2]) ∧ w = w' := by
  have HF : Hid (vlF s = vlE s (vlGo s 0)) := by show _ = _; unfold vlF vlE; rfl
  have HG : Hid (vlGo s 0 = vlGo (s.drop 0) 0) := rfl
  generalize vlF s = R at HF ⊢
  generalize vlGo s 0 = V at HF HG
  obtain ⟨r1, r2⟩ := R
  go_enter Tryz.func84, Tryz.ntmps84
  go_wp2_with fail
  go_loop [4, 5] (fun nv i => ∃ (k : Nat) (n : Int), k ≤ s.length ∧ i = .int .i64 k ∧ nv = .int .i64 n ∧ -9223372036854775808 ≤ n ∧ n ≤ 0 ∧ Hid (V = vlGo (s.drop k) n)) (fun _ i => s.length - (intOf i).toNat)
  case atStart => exact ⟨0, 0, by omega, rfl, rfl, by omega, by omega, HG⟩
  case round =>
    clear HG
    obtain ⟨k, n, hk, rfl, rfl, hn0, hn1, HG⟩ := hrel
    by_cases hlt : k < s.length
    · have hc := s[k].toNat_lt
      have hE : V = if (s[k].toNat : Int) < 48 ∨ 57 < (s[k].toNat : Int) then none else if n < -922337203685477580 ∨ (n = -922337203685477580 ∧ 8 < (s[k].toNat : Int) - 48) then none else vlGo (s.drop (k + 1)) (10 * n - ((s[k].toNat : Int) - 48)) := by rw [HG.out, List.drop_eq_getElem_cons hlt, vlGo]
      have HE := Lib.hid hE
      clear hE HG
      by_cases t1 : (s[k].toNat : Int) < 48
      · have hr : (r1, r2) = (0, false) := by rw [HF.out, HE.out, if_pos (.inl t1)]; rfl
        obtain ⟨rfl, rfl⟩ := Prod.mk.inj hr
        clear hr HF HE
        go_wp2_with fail
        go_ret2
        exact ⟨rfl, rfl⟩
      by_cases t2 : 57 < (s[k].toNat : Int)
      · have hr : (r1, r2) = (0, false) := by rw [HF.out, HE.out, if_pos (.inr t2)]; rfl
        obtain ⟨rfl, rfl⟩ := Prod.mk.inj hr
        clear hr HF HE
        go_wp2_with fail
        go_ret2
        exact ⟨rfl, rfl⟩
      have s1 : IntKind.u8.wrap ((s[k].toNat : Int) - 48) = (s[k].toNat : Int) - 48 := IntWalk.u8_in _ (by omega)
      have s2 : IntKind.i64.wrap ((s[k].toNat : Int) - 48) = (s[k].toNat : Int) - 48 := IntWalk.i64_in _ (by omega)
      have s3 : ((s[k].toNat : Int) - 48) % 256 = (s[k].toNat : Int) - 48 := by omega
      have s4 : wrap64 ((s[k].toNat : Int) - 48) = (s[k].toNat : Int) - 48 := by unfold wrap64; omega
      by_cases t3 : n < -922337203685477580
      · have hr : (r1, r2) = (0, false) := by rw [HF.out, HE.out, if_neg (by omega), if_pos (.inl t3)]; rfl
        obtain ⟨rfl, rfl⟩ := Prod.mk.inj hr
        clear hr HF HE
        go_wp2_with fail
        go_ret2
        exact ⟨rfl, rfl⟩
      cases t4 : (n == -922337203685477580)
      · have t4' : ¬ n = -922337203685477580 := by simpa using t4
        have HN : Hid (V = vlGo (s.drop (k + 1)) (10 * n - ((s[k].toNat : Int) - 48))) := by show _ = _; rw [HE.out, if_neg (by omega), if_neg (by omega)]
        have s5 : IntKind.i64.wrap (10 * n) = 10 * n := IntWalk.i64_in _ (by omega)
        have s6 : IntKind.i64.wrap (10 * n - ((s[k].toNat : Int) - 48)) = 10 * n - ((s[k].toNat : Int) - 48) := IntWalk.i64_in _ (by omega)
        have s7 : wrap64 (10 * n) = 10 * n := by unfold wrap64; omega
        have s8 : wrap64 (10 * n - ((s[k].toNat : Int) - 48)) = 10 * n - ((s[k].toNat : Int) - 48) := by unfold wrap64; omega
        clear HF HE
        go_wp2_with fail
        go_round
        case rel => exact ⟨k + 1, 10 * n - ((s[k].toNat : Int) - 48), hlt, by go_num, by first | rfl | go_num, by omega, by omega, HN⟩
        case measure => simp [intOf]; omega
      · have t4' : n = -922337203685477580 := by simpa using t4
        by_cases t5 : 8 < (s[k].toNat : Int) - 48
        · have hr : (r1, r2) = (0, false) := by rw [HF.out, HE.out, if_neg (by omega), if_pos (.inr ⟨t4', t5⟩)]; rfl
          obtain ⟨rfl, rfl⟩ := Prod.mk.inj hr
          clear hr HF HE
          go_wp2_with fail
          go_ret2
          exact ⟨rfl, rfl⟩
        · have HN : Hid (V = vlGo (s.drop (k + 1)) (10 * n - ((s[k].toNat : Int) - 48))) := by show _ = _; rw [HE.out, if_neg (by omega), if_neg (by omega)]
          have s5 : IntKind.i64.wrap (10 * n) = 10 * n := IntWalk.i64_in _ (by omega)
          have s6 : IntKind.i64.wrap (10 * n - ((s[k].toNat : Int) - 48)) = 10 * n - ((s[k].toNat : Int) - 48) := IntWalk.i64_in _ (by omega)
          have s7 : wrap64 (10 * n) = 10 * n := by unfold wrap64; omega
          have s8 : wrap64 (10 * n - ((s[k].toNat : Int) - 48)) = 10 * n - ((s[k].toNat : Int) - 48) := by unfold wrap64; omega
          clear HF HE
          go_wp2_with fail
          go_round
          case rel => exact ⟨k + 1, 10 * n - ((s[k].toNat : Int) - 48), hlt, by go_num, by first | rfl | go_num, by omega, by omega, HN⟩
          case measure => simp [intOf]; omega
    · have hr : (r1, r2) = (n, !s.isEmpty) := by rw [HF.out, HG.out, List.drop_of_length_le (by omega)]; rfl
      obtain ⟨rfl, rfl⟩ := Prod.mk.inj hr
      clear hr HF HG
      have hd : decide ((0 : Int) < s.length) = !s.isEmpty := by cases s <;> simp <;> omega
      have HD := Lib.hid hd
      clear hd
      go_wp2_with fail
      go_ret2
      exact ⟨by rw [← HD.out]; first | rfl | simp, rfl⟩
end Go.Proofs.YtfcgdfcekpbliaaGreatDoor
/-
  Numbers as digits: the document's text of a number: it calls itself.
-/
namespace Go.Proofs.YtfcgdfcekpbliaaGreatDoor
set_option linter.unusedSimpArgs false
set_option linter.unusedVariables false
set_option linter.unusedSectionVars false
open Go.ChangeShapes Go.WideShapes Go.ChangeAt Go.RowKit Go.Deep Go.Shelf

theorem dig_lo {n : Nat} (h : n < 10) : Lib.decDigits n = digB n := dec_lo h
theorem dig_hi {n : Nat} (h : ¬ n < 10) : Lib.decDigits n = Lib.decDigits (n / 10) ++ digB (n % 10) := dec_hi h
theorem dec_len20 {n : Nat} (h : n < 10000000000000000000) : (Lib.decDigits n).length ≤ 19 := dec_len 18 n (by omega)
def RefText (n : Int) (w : World) : Prop := Calls Tryz.prog 61 #[.int .i64 n] w fun e w' => e = .returned (bstr (Lib.itoa n)) ∧ w = w'
set_option maxHeartbeats 4000000 in
set_option maxRecDepth 100000 in
theorem text_pos : ∀ (k m : Nat), m ≤ k → m ≤ 9223372036854775807 → ∀ w, RefText (m : Int) w
  | k, m, hk, hm, w => by
    unfold RefText
    rw [itoa_pos m]
    by_cases h10 : m < 10
    · rw [dig_lo h10]
      have HD := Lib.hid (ref03_digit m h10)
      generalize digB m = P at HD ⊢
      have h1 : ¬ (m : Int) < 0 := by omega
      have h2 : (m : Int) < 10 := by omega
      go_enter Tryz.func61, Tryz.ntmps61
      go_wp2_with (go_at_call 82; (with_reducible refine (HD.out _).mono ?_); rintro e w' ⟨rfl, rfl⟩)
      go_ret
      exact ⟨rfl, rfl⟩
    · obtain ⟨k, rfl⟩ : ∃ k', k = k' + 1 := ⟨k - 1, by omega⟩
      have HT := Lib.hid (text_pos k (m / 10) (by omega) (by omega))
      unfold RefText at HT
      rw [dig_hi h10]
      rw [itoa_pos (m / 10)] at HT
      have hlen : (Lib.decDigits (m / 10)).length ≤ 19 := dec_len20 (by omega)
      have HD := Lib.hid (ref03_digit (m % 10) (by omega))
      have hP : (digB (m % 10)).length ≤ 1 := Nat.le_refl 1
      generalize digB (m % 10) = P at HD hP ⊢
      generalize Lib.decDigits (m / 10) = T at HT hlen ⊢
      have f1 : (m : Int) / 10 = ((m / 10 : Nat) : Int) := by omega
      have f2 : (m : Int) % 10 = ((m % 10 : Nat) : Int) := by omega
      generalize hq : m / 10 = q at *
      generalize hr : m % 10 = r at *
      have h1 : ¬ (m : Int) < 0 := by omega
      have h2 : ¬ (m : Int) < 10 := by omega
      clear hq hr
      go_enter Tryz.func61, Tryz.ntmps61
      go_wp2_with (first
        | (go_at_call 82; (with_reducible refine (HD.out _).mono ?_); rintro e w' ⟨rfl, rfl⟩)
        | (go_at_call 61; (with_reducible refine (HT.out _).mono ?_); rintro e w' ⟨rfl, rfl⟩))
      go_ret
      exact ⟨rfl, rfl⟩
set_option maxHeartbeats 4000000 in
set_option maxRecDepth 100000 in
theorem text_neg : ∀ (k m : Nat), m ≤ k → 1 ≤ m → m ≤ 9223372036854775808 → ∀ w, RefText (-(m : Int)) w
  | k, m, hk, h0, hm, w => by
    unfold RefText
    rw [itoa_minus m h0]
    have h1 : -(m : Int) < 0 := by omega
    by_cases h10 : m < 10
    · rw [dig_lo h10]
      have HD := Lib.hid (ref03_digit m h10)
      have hP : (digB m).length ≤ 1 := Nat.le_refl 1
      generalize digB m = P at HD hP ⊢
      have h2 : -10 < -(m : Int) := by omega
      have s1 : IntKind.i64.wrap (-(-(m : Int))) = (m : Int) := by rw [IntWalk.i64_in _ (by omega)]; omega
      have s2 : IntKind.i64.wrap ((m : Int)) = (m : Int) := by rw [IntWalk.i64_in _ (by omega)]
      go_enter Tryz.func61, Tryz.ntmps61
      go_wp2_with (go_at_call 82; (with_reducible refine (HD.out _).mono ?_); rintro e w' ⟨rfl, rfl⟩)
      go_ret
      exact ⟨rfl, rfl⟩
    · obtain ⟨k, rfl⟩ : ∃ k', k = k' + 1 := ⟨k - 1, by omega⟩
      have HT := Lib.hid (text_neg k (m / 10) (by omega) (by omega) (by omega))
      unfold RefText at HT
      rw [dig_hi h10]
      rw [itoa_minus (m / 10) (by omega)] at HT
      have hlen : (Lib.decDigits (m / 10)).length ≤ 19 := dec_len20 (by omega)
      have HD := Lib.hid (ref03_digit (m % 10) (by omega))
      have hP : (digB (m % 10)).length ≤ 1 := Nat.le_refl 1
      generalize digB (m % 10) = P at HD hP ⊢
      generalize Lib.decDigits (m / 10) = T at HT hlen ⊢
      have f1 : (-(m : Int)).tdiv 10 = -((m / 10 : Nat) : Int) := by rw [Int.neg_tdiv, Int.tdiv_eq_ediv_of_nonneg (by omega)]; omega
      have f2 : (-(m : Int)).tmod 10 = -((m % 10 : Nat) : Int) := by rw [Int.neg_tmod, Int.tmod_eq_emod_of_nonneg (by omega)]; omega
      generalize hq : m / 10 = q at *
      generalize hr : m % 10 = r at *
      have s1 : IntKind.i64.wrap (-(-(r : Int))) = (r : Int) := by rw [IntWalk.i64_in _ (by omega)]; omega
      have s2 : IntKind.i64.wrap (-(q : Int)) = -(q : Int) := by rw [IntWalk.i64_in _ (by omega)]
      have h2 : ¬ -10 < -(m : Int) := by omega
      have hr9 : r < 10 := by omega
      have s3 : wrap64 (r : Int) = (r : Int) := by unfold wrap64; omega
      clear hq hr
      go_enter Tryz.func61, Tryz.ntmps61
      go_wp2_with (first
        | (go_at_call 82; (with_reducible refine (HD.out _).mono ?_); rintro e w' ⟨rfl, rfl⟩)
        | (go_at_call 61; (with_reducible refine (HT.out _).mono ?_); rintro e w' ⟨rfl, rfl⟩))
      go_ret
      exact ⟨rfl, rfl⟩
end Go.Proofs.YtfcgdfcekpbliaaGreatDoor
/-
  Numbers as digits: a text read as a number, the document's road.
-/
namespace Go.Proofs.YtfcgdfcekpbliaaGreatDoor
set_option linter.unusedSimpArgs false
set_option linter.unusedVariables false
set_option linter.unusedSectionVars false
open Go.ChangeShapes Go.WideShapes Go.ChangeAt Go.RowKit Go.Deep Go.Shelf

theorem ref03_Text (n : Int) (h0 : -9223372036854775808 ≤ n) (h1 : n ≤ 9223372036854775807) (w : World) : RefText n w := by
  rcases Int.lt_or_le n 0 with h | h
  · obtain ⟨m, rfl⟩ : ∃ m : Nat, n = -(m : Int) := ⟨n.natAbs, by omega⟩
    exact text_neg m m (Nat.le_refl _) (by omega) (by omega) w
  · obtain ⟨m, rfl⟩ : ∃ m : Nat, n = (m : Int) := ⟨n.toNat, by omega⟩
    exact text_pos m m (Nat.le_refl _) (by omega) w
theorem readR_long {s : List UInt8} (h : 20 < (s.length : Int)) : readR s = (0, false) := by unfold readR; rw [if_pos (.inl h)]
theorem head45 (c : UInt8) (r : List UInt8) : ((c :: r).head?.map (· == 45) = some true) ↔ ((c.toNat : Int) == 45) = true := by
  simp only [List.head?_cons, Option.map_some, Option.some.injEq, beq_iff_eq, ← UInt8.toNat_inj]
  show c.toNat = 45 ↔ _
  omega
theorem readR_minus {c : UInt8} {r : List UInt8} (h : ¬ 20 < ((c :: r).length : Int)) (hc : ((c.toNat : Int) == 45) = true) :
    readR (c :: r) = if (vlF r).2 = true ∧ Lib.itoa (vlF r).1 = c :: r then ((vlF r).1, true) else (0, false) := by
  unfold readR
  rw [if_neg (by simp only [reduceCtorEq, or_false]; exact h), if_pos ((head45 c r).2 hc)]
  rfl
theorem readR_plus {c : UInt8} {r : List UInt8} (h : ¬ 20 < ((c :: r).length : Int)) (hc : ((c.toNat : Int) == 45) = false) :
    readR (c :: r) = if (vlF (c :: r)).1 = -9223372036854775808 then (0, false) else if (vlF (c :: r)).2 = true ∧ Lib.itoa (-(vlF (c :: r)).1) = c :: r then (-(vlF (c :: r)).1, true) else (0, false) := by
  unfold readR
  rw [if_neg (by simp only [reduceCtorEq, or_false]; exact h), if_neg (fun e => by rw [(head45 c r).1 e] at hc; cases hc)]

set_option maxHeartbeats 4000000 in
set_option maxRecDepth 100000 in
theorem ref03_Read (s : List UInt8) (hm : s.length ≤ 1048576) (w : World) :
    Calls Tryz.prog 67 #[bstr s] w fun e w' => e = .returned (.tuple #[.int .i64 (readR s).1, .bool (readR s).2]) ∧ w = w' := by
  by_cases h1 : 20 < (s.length : Int)
  · rw [readR_long h1]
    go_enter Tryz.func67, Tryz.ntmps67
    go_wp2_with fail
    go_ret2
    exact ⟨rfl, rfl⟩
  cases s with
  | nil =>
    go_enter Tryz.func67, Tryz.ntmps67
    go_wp2_with fail
    go_ret2
    exact ⟨rfl, rfl⟩
  | cons c r =>
    have hr : r.length ≤ 19 := by simp at h1; omega
    have i1 : ¬ 20 < (r.length : Int) + 1 := by omega
    have i2 : ((r.length : Int) + 1 == 0) = false := by rw [beq_eq_false_iff_ne]; omega
    have i3 : (0 : Int) < (r.length : Int) + 1 := by omega
    have i4 : 1 ≤ (r.length : Int) + 1 := by omega
    cases c45 : ((c.toNat : Int) == 45) with
    | true =>
      have HR := Lib.hid (readR_minus h1 c45)
      have HV : Hid (∀ W, Calls Tryz.prog 84 #[bstr r] W fun e w' => e = .returned (.tuple #[.int .i64 (vlF r).1, .bool (vlF r).2]) ∧ W = w') := ref03_value r (by omega)
      obtain ⟨b0, b1⟩ := vlF_bd r
      have HT : Hid (∀ W, Calls Tryz.prog 61 #[.int .i64 (vlF r).1] W fun e w' => e = .returned (bstr (Lib.itoa (vlF r).1)) ∧ W = w') := ref03_Text _ b0 (by omega)
      generalize readR (c :: r) = R at HR ⊢
      generalize vlF r = V at HR HV HT b0 b1
      obtain ⟨n, is⟩ := V
      simp only at HR HV HT b0 b1
      have HQ := Lib.hid (rfl : Lib.itoa n = Lib.itoa n)
      generalize hT : Lib.itoa n = T at HR HT
      clear hT HQ h1 hm
      cases is
      · have hR : R = (0, false) := by rw [HR.out]; simp
        subst hR
        clear HR HT
        go_enter Tryz.func67, Tryz.ntmps67
        go_wp2_with (go_at_call 84; (with_reducible refine (HV.out _).mono ?_); rintro e w' ⟨rfl, rfl⟩)
        go_ret2
        exact ⟨rfl, rfl⟩
      · cases e1 : (T == c :: r)
        · have hR : R = (0, false) := by rw [HR.out, if_neg]; rintro ⟨_, h⟩; rw [h] at e1; simp at e1
          have e2 : (T != c :: r) = true := by unfold bne; rw [e1]; rfl
          subst hR
          clear HR
          go_enter Tryz.func67, Tryz.ntmps67
          go_wp2_with (first
            | (go_at_call 84; (with_reducible refine (HV.out _).mono ?_); rintro e w' ⟨rfl, rfl⟩)
            | (go_at_call 61; (with_reducible refine (HT.out _).mono ?_); rintro e w' ⟨rfl, rfl⟩))
          go_ret2
          exact ⟨rfl, rfl⟩
        · have hR : R = (n, true) := by rw [HR.out, if_pos ⟨rfl, by simpa using e1⟩]
          have e2 : (T != c :: r) = false := by unfold bne; rw [e1]; rfl
          subst hR
          clear HR
          go_enter Tryz.func67, Tryz.ntmps67
          go_wp2_with (first
            | (go_at_call 84; (with_reducible refine (HV.out _).mono ?_); rintro e w' ⟨rfl, rfl⟩)
            | (go_at_call 61; (with_reducible refine (HT.out _).mono ?_); rintro e w' ⟨rfl, rfl⟩))
          go_ret2
          exact ⟨rfl, rfl⟩
    | false =>
      have HR := Lib.hid (readR_plus h1 c45)
      have HV : Hid (∀ W, Calls Tryz.prog 84 #[bstr (c :: r)] W fun e w' => e = .returned (.tuple #[.int .i64 (vlF (c :: r)).1, .bool (vlF (c :: r)).2]) ∧ W = w') := ref03_value (c :: r) hm
      obtain ⟨b0, b1⟩ := vlF_bd (c :: r)
      generalize readR (c :: r) = R at HR ⊢
      generalize vlF (c :: r) = V at HR HV b0 b1
      obtain ⟨n, is⟩ := V
      simp only at HR HV b0 b1
      cases n9 : (n == -9223372036854775808)
      · have n9' : ¬ n = -9223372036854775808 := by simpa using n9
        have HT : Hid (∀ W, Calls Tryz.prog 61 #[.int .i64 (-n)] W fun e w' => e = .returned (bstr (Lib.itoa (-n))) ∧ W = w') := ref03_Text _ (by omega) (by omega)
        have s1 : IntKind.i64.wrap (-n) = -n := IntWalk.i64_in _ (by omega)
        have s2 : wrap64 (-n) = -n := by unfold wrap64; omega
        have HN := Lib.hid n9'
        generalize hT : Lib.itoa (-n) = T at HR HT
        clear hT h1 hm n9'
        cases is
        · have hR : R = (0, false) := by rw [HR.out, if_neg HN.out]; simp
          subst hR
          clear HR HT
          go_enter Tryz.func67, Tryz.ntmps67
          go_wp2_with (go_at_call 84; (with_reducible refine (HV.out _).mono ?_); rintro e w' ⟨rfl, rfl⟩)
          go_ret2
          exact ⟨rfl, rfl⟩
        · cases e1 : (T == c :: r)
          · have hR : R = (0, false) := by rw [HR.out, if_neg HN.out, if_neg]; rintro ⟨_, h⟩; rw [h] at e1; simp at e1
            have e2 : (T != c :: r) = true := by unfold bne; rw [e1]; rfl
            subst hR
            clear HR
            go_enter Tryz.func67, Tryz.ntmps67
            go_wp2_with (first
              | (go_at_call 84; (with_reducible refine (HV.out _).mono ?_); rintro e w' ⟨rfl, rfl⟩)
              | (go_at_call 61; (with_reducible refine (HT.out _).mono ?_); rintro e w' ⟨rfl, rfl⟩))
            go_ret2
            exact ⟨rfl, rfl⟩
          · have hR : R = (-n, true) := by rw [HR.out, if_neg HN.out, if_pos ⟨rfl, by simpa using e1⟩]
            have e2 : (T != c :: r) = false := by unfold bne; rw [e1]; rfl
            subst hR
            clear HR
            go_enter Tryz.func67, Tryz.ntmps67
            go_wp2_with (first
              | (go_at_call 84; (with_reducible refine (HV.out _).mono ?_); rintro e w' ⟨rfl, rfl⟩)
              | (go_at_call 61; (with_reducible refine (HT.out _).mono ?_); rintro e w' ⟨rfl, rfl⟩))
            go_ret2
            exact ⟨rfl, rfl⟩
      · obtain rfl : n = -9223372036854775808 := by simpa using n9
        have hR : R = (0, false) := by rw [HR.out, if_pos rfl]
        subst hR
        clear HR b0 b1 h1 hm n9
        go_enter Tryz.func67, Tryz.ntmps67
        go_wp2_with (go_at_call 84; (with_reducible refine (HV.out _).mono ?_); rintro e w' ⟨rfl, rfl⟩)
        go_ret2
        exact ⟨rfl, rfl⟩
end Go.Proofs.YtfcgdfcekpbliaaGreatDoor
/-
  Numbers as digits: the program's text of a number, and a text read as a number.
-/
namespace Go.Proofs.YtfcgdfcekpbliaaGreatDoor
set_option linter.unusedSimpArgs false
set_option linter.unusedVariables false
set_option linter.unusedSectionVars false
open Go.ChangeShapes Go.WideShapes Go.ChangeAt Go.RowKit Go.Deep Go.Shelf

set_option maxHeartbeats 2000000 in
set_option maxRecDepth 100000 in
theorem digits_Text (n : Int) (h0 : -9223372036854775808 ≤ n) (h1 : n ≤ 9223372036854775807) (w : World) (hE : Env w) :
    Calls Tryz.prog 20 #[.int .i64 n] w fun e w' => e = .returned (bstr (Lib.itoa n)) ∧ ∃ j, w' = w.more j := by
  have H := Lib.hid (itoa_call n h0 h1 w hE)
  clear hE
  generalize Lib.itoa n = T at H ⊢
  go_enter Tryz.func20, Tryz.ntmps20
  go_wp2_with (go_at_call 48; (with_reducible refine (H.out).mono ?_); rintro e w' ⟨rfl, j, rfl⟩)
  go_ret
  exact ⟨rfl, Below.junk bel⟩

set_option maxHeartbeats 4000000 in
set_option maxRecDepth 100000 in
theorem digits_Read (s : List UInt8) (hm : s.length ≤ 1048576) (w : World) (hE : Env w) :
    Calls Tryz.prog 78 #[bstr s] w fun e w' => e = .returned (.tuple #[.int .i64 (readF s).1, .bool (readF s).2]) ∧ ∃ j, w' = w.more j := by
  by_cases hok : ∃ v, Lib.atoiAll s = .ok v
  · obtain ⟨v, hv⟩ := hok
    have hbd := Lib.atoiAll_bounds hv
    have HA := Lib.hid (atoi_good hm hv w)
    have HI : Hid (∀ j, Calls Tryz.prog 48 #[.int .i64 v] (w.more j) fun e w' => e = .returned (bstr (Lib.itoa v)) ∧ ∃ k, w' = (w.more j).more k) := fun j => itoa_call v hbd.1 hbd.2 _ (hE.more j)
    have HR := Lib.hid (readF_ok hv)
    clear hE hv hbd
    generalize readF s = R at HR ⊢
    generalize Lib.itoa v = T at HI HR
    cases e1 : (T == s)
    · have hR : R = (0, false) := by rw [HR.out, if_neg]; intro h; rw [h] at e1; simp at e1
      have e2 : (T != s) = true := by unfold bne; rw [e1]; rfl
      subst hR
      clear HR
      go_enter Tryz.func78, Tryz.ntmps78
      go_wp2_with (first
        | (go_at_call 95; (with_reducible refine (HA.out).mono ?_); rintro e w' ⟨rfl, j, rfl⟩)
        | (go_at_call 48; (with_reducible refine (HI.out _).mono ?_); rintro e w' ⟨rfl, j, rfl⟩))
      go_ret2
      exact ⟨rfl, Below.junk bel⟩
    · have hR : R = (v, true) := by rw [HR.out, if_pos (by simpa using e1)]
      have e2 : (T != s) = false := by unfold bne; rw [e1]; rfl
      subst hR
      clear HR
      go_enter Tryz.func78, Tryz.ntmps78
      go_wp2_with (first
        | (go_at_call 95; (with_reducible refine (HA.out).mono ?_); rintro e w' ⟨rfl, j, rfl⟩)
        | (go_at_call 48; (with_reducible refine (HI.out _).mono ?_); rintro e w' ⟨rfl, j, rfl⟩))
      go_ret2
      exact ⟨rfl, Below.junk bel⟩
  · have hno : ∀ v, Lib.atoiAll s ≠ .ok v := fun v hv => hok ⟨v, hv⟩
    rw [readF_bad hno]
    have HA := Lib.hid (atoi_bad hm hno w hE)
    clear hE hno hok
    go_enter Tryz.func78, Tryz.ntmps78
    go_wp2_with fail
    refine HA.out.mono ?_
    rintro e w' ⟨n, t, p, rfl, j, rfl⟩
    go_wp2_with fail
    go_ret2
    exact ⟨rfl, Below.junk bel⟩
end Go.Proofs.YtfcgdfcekpbliaaGreatDoor
