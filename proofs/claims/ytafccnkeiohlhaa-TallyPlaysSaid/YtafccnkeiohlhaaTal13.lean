/-
  A number's text.
-/
import Derived.Test.YtafccnkeiohlhaaTal12
import Derived.Test.YtafccnkeiohlhaaQm
import Derived.Deep.LoopGhost
namespace Go.Proofs.Ytafccnkeiohlhaa
set_option linter.unusedSimpArgs false
set_option linter.unusedVariables false
open Go.ChangeShapes Go.WideShapes Go.ChangeAt Go.RowKit Go.Deep Go.Shelf

abbrev tenDigits : List UInt8 := [48, 49, 50, 51, 52, 53, 54, 55, 56, 57]
theorem digit_cut {n : Nat} (h : n < 10) : (tenDigits.drop n).take 1 = [UInt8.ofNat (48 + n)] := by
  have : ∀ m : Fin 10, (tenDigits.drop m.val).take 1 = [UInt8.ofNat (48 + m.val)] := by decide
  exact this ⟨n, h⟩

set_option maxRecDepth 100000 in
theorem law29_text : ∀ (k n : Nat) (w : World), n ≤ k → n ≤ 4503599627370496 →
    Calls Try.prog 66 #[.int .i64 n] w fun e w' => e = .returned (bstr (digs n)) ∧ ∃ j, w' = w.more j := by
  intro k
  induction k with
  | zero =>
    intro n w h hn
    obtain rfl : n = 0 := by omega
    go_enter Try.func66, Try.ntmps66
    go_wp2_with fail
    go_ret
    exact ⟨ret1d (by rw [digs_lo (by omega)]; rfl), Below.junk (by repeat (first | (with_reducible exact Below.refl _ _) | (with_reducible refine Below.allocS ?_ _) | (with_reducible refine Below.moreS ?_ _) | (with_reducible refine Below.drew ?_)))⟩
  | succ k ih =>
    intro n w h hn
    by_cases h10 : n < 10
    · have hd := Lib.hid (digit_cut h10)
      go_enter Try.func66, Try.ntmps66
      go_wp2_with fail
      go_ret
      exact ⟨ret1d (by rw [digs_lo h10]; exact congrArg bstr hd.out), Below.junk (by repeat (first | (with_reducible exact Below.refl _ _) | (with_reducible refine Below.allocS ?_ _) | (with_reducible refine Below.moreS ?_ _) | (with_reducible refine Below.drew ?_)))⟩
    · have hi := Lib.hid (fun W => ih (n / 10) W (by omega) (by omega))
      have hd := Lib.hid (digit_cut (n := n % 10) (by omega))
      have hz : (10 : Int) ≤ n := by omega
      have g1 : n % 10 < 10 := by omega
      have g2 : ((n % 10 : Nat) : Int) < 10 := by omega
      clear ih
      have e1 : IntKind.i64.wrap ((n : Int) / 10) = ((n / 10 : Nat) : Int) := by rw [IntWalk.i64_in _ (by omega)]; omega
      have e2 : (n : Int).tmod 10 = ((n % 10 : Nat) : Int) := by rw [Int.tmod_eq_emod_of_nonneg (by omega)]; omega
      have e3 : IntKind.i64.wrap (((n % 10 : Nat) : Int) + 1) = ((n % 10 : Nat) : Int) + 1 := by rw [IntWalk.i64_in _ (by omega)]
      generalize hq : n % 10 = q at hd g1 g2 e2 e3
      generalize hp : n / 10 = p at hi e1
      have g3 : (q : Int) + 1 ≤ 10 := by omega
      have g4 : ((q : Int) + 1).toNat = q + 1 := by omega
      have g5 : (0 : Int) ≤ (q : Int) + 1 := by omega
      have g6 : (q : Int) ≤ (q : Int) + 1 := by omega
      have HD : Hid (digs n = digs p ++ [UInt8.ofNat (48 + q)]) := by show digs n = _; rw [digs_hi h10, hp, hq]
      have g7 : ¬ 9223372036854775807 < (digs p).length + min 1 (10 - q) := by have := digs_len 15 p (by omega); omega
      clear hq hp
      go_enter Try.func66, Try.ntmps66
      go_wp2_with fail
      refine wp_region_more (by kernel_rfl) (by kernel_rfl) ?_
      repeat (quiet_step (first | (go_at_call 66; exact more_of (hi.out _))))
      refine wpQuiet_nil ?_
      intro w' hw'
      obtain ⟨j, rfl⟩ := hw'
      go_wp2_with fail
      go_ret
      exact ⟨ret1d (by rw [HD.out, ← hd.out]; rfl), Below.junk (by repeat (first | (with_reducible exact Below.refl _ _) | (with_reducible refine Below.allocS ?_ _) | (with_reducible refine Below.moreS ?_ _) | (with_reducible refine Below.drew ?_)))⟩

/-! Slices of small numbers. -/
def shortIs (x : Nat) (cs : List Value) : Prop := cs = [.int .u16 x] ∧ x ≤ 65535
theorem SlR.atH {w : World} {B : Nat} {a : Option Addr} {l : List Nat} (h : SlR w B 1 shortIs a l) {k : Nat} (hk : k < l.length) : ∃ b off, a = some ⟨b, off, none⟩ ∧ b < B ∧ w.cell? ⟨b, off + k, none⟩ = some (.int .u16 l[k]) ∧ l[k] ≤ 65535 := by
  obtain ⟨b, off, cs, ha, hb, ⟨rfl, h1⟩, hc⟩ := h k hk
  have := hc 0 _ rfl
  rw [Nat.mul_one, Nat.add_zero] at this
  exact ⟨b, off, ha, hb, this, h1⟩
