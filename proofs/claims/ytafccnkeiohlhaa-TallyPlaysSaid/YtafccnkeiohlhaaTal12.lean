/-
  A number's digits; what an answer's two fields say.
-/
import Derived.Test.YtafccnkeiohlhaaTal7
namespace Go.Proofs.Ytafccnkeiohlhaa
set_option linter.unusedSimpArgs false
set_option linter.unusedVariables false
open Go.ChangeShapes Go.WideShapes Go.ChangeAt Go.RowKit Go.Deep Go.Shelf

def digs (n : Nat) : List UInt8 := if h : n < 10 then [UInt8.ofNat (48 + n)] else digs (n / 10) ++ [UInt8.ofNat (48 + n % 10)]
termination_by n
decreasing_by omega
theorem digs_lo {n : Nat} (h : n < 10) : digs n = [UInt8.ofNat (48 + n)] := by rw [digs, dif_pos h]
theorem digs_hi {n : Nat} (h : ¬ n < 10) : digs n = digs (n / 10) ++ [UInt8.ofNat (48 + n % 10)] := by rw [digs, dif_neg h]
theorem digit_byte {d : Nat} (h : d < 10) : ((UInt8.ofNat (48 + d)).toNat : Int) = 48 + d := by
  have : (48 + d) % 256 = 48 + d := Nat.mod_eq_of_lt (by omega)
  simp [UInt8.toNat_ofNat', this]
theorem natGo_append (most : Int) : ∀ (x y : List UInt8) (n : Int), (natGo most x n).2 = true → natGo most (x ++ y) n = natGo most y (natGo most x n).1
  | [], y, n, _ => rfl
  | c :: r, y, n, h => by
    rw [List.cons_append]
    by_cases h1 : (c.toNat : Int) < 48 ∨ 57 < (c.toNat : Int)
    · rw [natGo_high h1] at h; exact absurd h (by simp)
    · by_cases h2 : most < (c.toNat : Int) - 48 ∨ (most - ((c.toNat : Int) - 48)) / 10 < n
      · rw [natGo_big (by omega) (by omega) h2] at h; exact absurd h (by simp)
      · rw [natGo_step (by omega) (by omega) (by omega) (by omega)] at h
        rw [natGo_step (by omega) (by omega) (by omega) (by omega), natGo_step (r := r) (by omega) (by omega) (by omega) (by omega)]
        exact natGo_append most r y _ h
theorem natGo_digs : ∀ (k n : Nat), n ≤ k → n ≤ 4503599627370496 → natGo 4503599627370496 (digs n) 0 = ((n : Int), true)
  | 0, n, h, hn => by
    obtain rfl : n = 0 := by omega
    rw [digs_lo (by omega)]; decide
  | k + 1, n, h, hn => by
    by_cases h10 : n < 10
    · rw [digs_lo h10]
      have hb := digit_byte h10
      rw [natGo_step (by omega) (by omega) (by omega) (by omega), hb]
      simp only [natGo]
      congr 1
      omega
    · rw [digs_hi h10]
      have ih := natGo_digs k (n / 10) (by omega) (by omega)
      rw [natGo_append _ _ _ _ (by rw [ih]), ih]
      have hb := digit_byte (d := n % 10) (by omega)
      rw [natGo_step (by omega) (by omega) (by omega) (by simp only; omega), hb]
      simp only [natGo]
      congr 1
      omega
theorem digs_bytes : ∀ (k n : Nat), n ≤ k → ∀ c ∈ digs n, 48 ≤ c.toNat ∧ c.toNat ≤ 57
  | k, n, h, c, hc => by
    by_cases h10 : n < 10
    · rw [digs_lo h10] at hc
      simp only [List.mem_singleton] at hc
      subst hc
      have := digit_byte h10
      omega
    · rw [digs_hi h10] at hc
      rcases List.mem_append.1 hc with hc | hc
      · cases k with
        | zero => omega
        | succ k => exact digs_bytes k (n / 10) (by omega) c hc
      · simp only [List.mem_singleton] at hc
        subst hc
        have := digit_byte (d := n % 10) (by omega)
        omega
theorem digs_ne (n : Nat) : digs n ≠ [] := by
  by_cases h10 : n < 10
  · rw [digs_lo h10]; simp
  · rw [digs_hi h10]; simp
theorem digs_len : ∀ (k n : Nat), n < 10 ^ (k + 1) → (digs n).length ≤ k + 1
  | 0, n, h => by rw [digs_lo (by omega)]; simp
  | k + 1, n, h => by
    by_cases h10 : n < 10
    · rw [digs_lo h10]; simp
    · rw [digs_hi h10]
      have := digs_len k (n / 10) (by rw [Nat.pow_succ] at h; omega)
      simp; omega

theorem digs_natF {n : Nat} (h : n ≤ 4503599627370496) : natF (digs n) 4503599627370496 = ((n : Int), true) := by
  unfold natF
  rw [if_neg (by simp [digs_ne])]
  exact natGo_digs n n (Nat.le_refl _) h
theorem digs_value (n : Nat) : valueF (digs n) = true := by
  have hb := digs_bytes n n (Nat.le_refl _)
  have hl : ∀ d ∈ (digs n).getLast?, d ∈ digs n := fun d hd => List.mem_of_getLast? hd
  have hed : ∀ c ∈ digs n, edgeB c.toNat = false ∧ plainB c.toNat = true := by
    intro c hc
    have := hb c hc
    refine ⟨?_, ?_⟩
    · simp [edgeB]; omega
    · simp [plainB]; omega
  generalize digs n = l at hed hl
  match l with
  | [] => rfl
  | c :: r =>
    simp only [valueF]
    have h1 := (hed c (by simp)).1
    have h2 : ∃ d, (c :: r).getLast? = some d := ⟨(c :: r).getLast (by simp), List.getLast?_eq_some_getLast (by simp)⟩
    obtain ⟨d, h2⟩ := h2
    have h3 := (hed d (hl d h2)).1
    rw [h2, h1]
    simp only [Option.getD_some, h3]
    simp only [Bool.not_false, Bool.true_and, List.all_eq_true]
    exact fun x hx => (hed x hx).2
abbrev vStatus : List UInt8 := [58, 115, 116, 97, 116, 117, 115]
abbrev ansL (v : List UInt8) : List Fd := [⟨vStatus, [50, 48, 48], false⟩, ⟨contentLength, v, false⟩]
theorem ans_beg (v : List UInt8) : begF 1 (ansL v) = (⟨[], [], [], [], 200⟩, true) := rfl
theorem ans_own (v : List UInt8) (h : valueF v = true) : ownF (ansL v) = 0 := by
  rw [ownF_eq]
  have e1 : (ansL v).all fieldF = true := by
    have a1 : fieldF ⟨vStatus, [50, 48, 48], false⟩ = true := by decide +kernel
    have a2 : nameF contentLength = true := by decide +kernel
    simp only [List.all_cons, List.all_nil, a1, fieldF, a2, h]
    rfl
  have e2 : (ansL v).any msgBar = false := by
    have b1 : msgBar ⟨vStatus, [50, 48, 48], false⟩ = false := by decide +kernel
    have b2 : barF contentLength = false := by decide +kernel
    have b3 : (contentLength == vTe) = false := by decide +kernel
    simp only [List.any_cons, List.any_nil, b1, msgBar, b2, b3]
    rfl
  rw [e1, e2]
  rfl
theorem ans_len {v : List UInt8} {n : Int} (h : natF v 4503599627370496 = (n, true)) : lenF (ansL v) = (n, true, true) := by
  unfold lenF
  rw [lenGo_skip (by decide), lenGo_ok rfl (by simp [h]), h]
  rfl
theorem ans_chk {v : List UInt8} {n : Int} (h : natF v 4503599627370496 = (n, true)) (h2 : valueF v = true) : chkF 1 (ansL v) = (⟨[], 200, n, true⟩, 0) := by
  unfold chkF
  rw [ans_own v h2, ans_beg, ans_len h]
  rfl
abbrev vGET : List UInt8 := [71, 69, 84]
theorem ans_head {n : Nat} (h : n ≤ 4503599627370496) : headF ⟨true, vGET, 0, 0, 0⟩ (ansL (digs n)) false = ⟨⟨true, vGET, 1, 2, n⟩, ⟨[], 200, n, true⟩, 0⟩ := by
  show fstOf _ (chkF 1 (ansL (digs n))) false = _
  rw [ans_chk (digs_natF h) (digs_value n)]
  rfl
