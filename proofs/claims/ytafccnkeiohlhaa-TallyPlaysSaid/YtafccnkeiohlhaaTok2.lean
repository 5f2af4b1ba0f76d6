/-
  Pseudo-fields, values, fields: the contracts, and the laws TokenNames, TokenValues.
-/
import Derived.Test.YtafccnkeiohlhaaTok
namespace Go.Proofs.Ytafccnkeiohlhaa
open Go.ChangeShapes Go.WideShapes Go.ChangeAt Go.RowKit Go.Deep

set_option maxRecDepth 100000 in
theorem token_Pseudo (l : List UInt8) (hm : l.length ≤ maxLen) (w : World) :
    Calls Try.prog 26 #[bstr l] w fun e w' => e = .returned (.bool (pseudoF l)) ∧ w = w' := by
  unfold maxLen at hm
  cases l with
  | nil =>
    go_enter Try.func26, Try.ntmps26
    go_wp2_with fail
    go_ret
    exact ⟨rfl, rfl⟩
  | cons c r =>
    simp only [List.length_cons] at hm
    have hb := c.toNat_lt
    cases hc : ((c.toNat : Int) == 58) with
    | false =>
      go_enter Try.func26, Try.ntmps26
      go_wp2_with fail
      go_ret
      exact ⟨ret1d (by simp [pseudoF, hc]), rfl⟩
    | true =>
      go_enter Try.func26, Try.ntmps26
      go_wp2_with (first | (go_at_call 24; refine (token_Name r (by unfold maxLen; omega) _).mono ?_; rintro e w' ⟨rfl, rfl⟩))
      go_ret
      exact ⟨ret1d (by simp [pseudoF, hc]), rfl⟩

set_option maxRecDepth 100000 in
theorem ref25_Pseudo (l : List UInt8) (hm : l.length ≤ maxLen) (w : World) :
    Calls Try.prog 27 #[bstr l] w fun e w' => e = .returned (.bool (pseudoF l)) ∧ w = w' := by
  unfold maxLen at hm
  cases l with
  | nil =>
    go_enter Try.func27, Try.ntmps27
    go_wp2_with fail
    go_ret
    exact ⟨rfl, rfl⟩
  | cons c r =>
    simp only [List.length_cons] at hm
    have hb := c.toNat_lt
    cases hc : ((c.toNat : Int) == 58) with
    | false =>
      go_enter Try.func27, Try.ntmps27
      go_wp2_with fail
      go_ret
      exact ⟨ret1d (by simp [pseudoF, hc]), rfl⟩
    | true =>
      go_enter Try.func27, Try.ntmps27
      go_wp2_with (first | (go_at_call 25; refine (ref25_Name r (by unfold maxLen; omega) _).mono ?_; rintro e w' ⟨rfl, rfl⟩))
      go_ret
      exact ⟨ret1d (by simp [pseudoF, hc]), rfl⟩

theorem ref25_edge (c : Int) (w : World) (_h0 : 0 ≤ c) (_h1 : c < 256) :
    Calls Try.prog 71 #[.int .u8 c] w fun e w' => e = .returned (.bool (edgeB c)) ∧ w = w' := by
  cases hc : (c == 9) with
  | true =>
    go_enter Try.func71, Try.ntmps71
    go_wp2_with fail
    go_ret
    exact ⟨ret1d (by simp [edgeB, hc]), rfl⟩
  | false =>
    go_enter Try.func71, Try.ntmps71
    go_wp2_with fail
    go_ret
    exact ⟨ret1d (by simp [edgeB, hc]), rfl⟩

theorem indexByte_edge (c : UInt8) : Lib.indexByte [32, 9] c = if (c.toNat : Int) == 32 then 0 else if (c.toNat : Int) == 9 then 1 else -1 := by
  by_cases h1 : c = 32
  · subst h1; rfl
  · have e1 : ((32 : UInt8) == c) = false := by simp; exact fun h => h1 h.symm
    have e2 : ((c.toNat : Int) == 32) = false := by
      have : c.toNat ≠ 32 := fun h => h1 (UInt8.toNat_inj.1 h)
      simp; omega
    by_cases h2 : c = 9
    · subst h2; rfl
    · have e3 : ((9 : UInt8) == c) = false := by simp; exact fun h => h2 h.symm
      have e4 : ((c.toNat : Int) == 9) = false := by
        have : c.toNat ≠ 9 := fun h => h2 (UInt8.toNat_inj.1 h)
        simp; omega
      simp [Lib.indexByte, e1, e3, e2, e4]
theorem strings_edge (c : UInt8) (w : World) :
    Calls Try.prog 70 #[.string ⟨#[32, 9]⟩, .int .u8 c.toNat] w fun e w' => ∃ n : Int, e = .returned (.int .i64 n) ∧ Hid (decide (0 ≤ n) = edgeB c.toNat) ∧ -1 ≤ n ∧ n ≤ 1 ∧ w = w' := by
  refine (Try.strings_IndexByte ⟨#[32, 9]⟩ c.toNat w).mono ?_
  rintro e w' ⟨rfl, rfl⟩
  have hc : (c.toNat : Int).toNat.toUInt8 = c := by simp
  refine ⟨_, rfl, ?_, ?_, ?_, rfl⟩
  · show _ = _
    rw [hc, show (ByteArray.mk #[32, 9]).data.toList = [32, 9] from rfl, indexByte_edge]
    unfold edgeB
    cases h1 : ((c.toNat : Int) == 32) <;> cases h2 : ((c.toNat : Int) == 9) <;> simp
  · rw [hc, show (ByteArray.mk #[32, 9]).data.toList = [32, 9] from rfl, indexByte_edge]
    split <;> (try split) <;> omega
  · rw [hc, show (ByteArray.mk #[32, 9]).data.toList = [32, 9] from rfl, indexByte_edge]
    split <;> (try split) <;> omega

theorem last_get (c : UInt8) (r : List UInt8) (h : r.length < (c :: r).length) : (c :: r)[r.length] = (c :: r).getLast?.getD 0 := by
  rw [List.getLast?_eq_getElem?]
  simp
theorem valueF_cons (c : UInt8) (r : List UInt8) (h : r.length < (c :: r).length) : valueF (c :: r) = (!edgeB c.toNat && !edgeB ((c :: r)[r.length]).toNat && (c :: r).all fun c => plainB c.toNat) := by
  rw [last_get c r h]; rfl

theorem plainB_no {c : Int} (h : c = 0 ∨ c = 10 ∨ c = 13) : plainB c = false := by rcases h with rfl | rfl | rfl <;> rfl
theorem plainB_yes {c : Int} (h : c ≠ 0 ∧ c ≠ 10 ∧ c ≠ 13) : plainB c = true := by simp [plainB, h]
theorem valueF_bad {l : List UInt8} (h : (l.all fun c => plainB c.toNat) = false) : valueF l = false := by
  cases l with
  | nil => simp at h
  | cons c r => rw [valueF_cons c r (by simp), h]; simp

set_option maxRecDepth 100000 in
theorem token_Value (l : List UInt8) (hm : l.length ≤ maxLen) (w : World) :
    Calls Try.prog 28 #[bstr l] w fun e w' => e = .returned (.bool (valueF l)) ∧ w = w' := by
  unfold maxLen at hm
  cases l with
  | nil =>
    go_enter Try.func28, Try.ntmps28
    go_wp2_with fail
    go_ret
    exact ⟨rfl, rfl⟩
  | cons c r =>
    have hr : r.length < (c :: r).length := by simp
    have HV := Lib.hid (valueF_cons c r hr)
    simp only [List.length_cons] at hm
    have hb := c.toNat_lt
    go_enter Try.func28, Try.ntmps28
    go_wp2_with fail
    refine (strings_edge _ _).mono ?_
    rintro e w1 ⟨n1, rfl, H1, b1, b2, rfl⟩
    by_cases g1 : 0 ≤ n1
    · have H : Hid (valueF (c :: r) = false) := by
        have h1 := H1.out
        have h2 := HV.out
        rw [decide_eq_true g1] at h1
        rw [← h1] at h2
        show _ = _
        simpa using h2
      go_wp2_with fail
      go_ret
      exact ⟨ret1d (by rw [H.out]; rfl), rfl⟩
    have E1 : Hid (edgeB c.toNat = false) := by
      have h1 := H1.out
      rw [decide_eq_false g1] at h1
      exact h1.symm
    go_wp2_with fail
    refine (strings_edge _ _).mono ?_
    rintro e w1 ⟨n2, rfl, H2, b3, b4, rfl⟩
    by_cases g2 : 0 ≤ n2
    · have H : Hid (valueF (c :: r) = false) := by
        have h1 := H2.out
        have h2 := HV.out
        rw [decide_eq_true g2] at h1
        rw [← h1] at h2
        show _ = _
        simpa using h2
      go_wp2_with fail
      go_ret
      exact ⟨ret1d (by rw [H.out]; rfl), rfl⟩
    have HF : Hid (valueF (c :: r) = ((c :: r).drop 0).all fun c => plainB c.toNat) := by
      have h1 := H2.out
      have h2 := HV.out
      rw [decide_eq_false g2] at h1
      rw [← h1, E1.out] at h2
      exact h2
    clear H1 H2 HV E1
    go_wp2_with fail
    go_loop [21] (fun i => ∃ k : Nat, k ≤ r.length + 1 ∧ i = .int .i64 k ∧ Hid (valueF (c :: r) = ((c :: r).drop k).all fun c => plainB c.toNat)) (fun i => r.length + 1 - (intOf i).toNat)
    case atStart => exact ⟨0, by omega, rfl, HF⟩
    case round =>
      clear HF
      obtain ⟨k, hk, rfl, HF⟩ := hrel
      by_cases hlt : k < r.length + 1
      · have hlt' : k < (c :: r).length := hlt
        have hdrop := List.drop_eq_getElem_cons hlt'
        have HF2 : Hid (valueF (c :: r) = (plainB (c :: r)[k].toNat && ((c :: r).drop (k + 1)).all fun c => plainB c.toNat)) := HF.out.trans (by rw [hdrop]; rfl)
        clear HF hdrop
        have hbk := (c :: r)[k].toNat_lt
        go_wp2_with fail
        all_goals first
          | (go_round
             case rel => exact ⟨k + 1, hlt, by go_num, HF2.out.trans (by simp [plainB, *])⟩
             case measure => simp [intOf]; omega)
          | (go_ret
             exact ⟨ret1d (by rw [HF2.out]; simp [plainB, *]), rfl⟩)
      · go_wp2_with fail
        go_ret
        exact ⟨ret1d (by rw [HF.out, List.drop_of_length_le (by simp; omega)]; rfl), rfl⟩

set_option maxRecDepth 100000 in
theorem ref25_Value (l : List UInt8) (hm : l.length ≤ maxLen) (w : World) :
    Calls Try.prog 29 #[bstr l] w fun e w' => e = .returned (.bool (valueF l)) ∧ w = w' := by
  unfold maxLen at hm
  have HF : Hid ((l.all fun c => plainB c.toNat) = (l.drop 0).all fun c => plainB c.toNat) := rfl
  go_enter Try.func29, Try.ntmps29
  go_wp2_with fail
  go_loop [3] (fun i => ∃ k : Nat, k ≤ l.length ∧ i = .int .i64 k ∧ Hid ((l.all fun c => plainB c.toNat) = (l.drop k).all fun c => plainB c.toNat)) (fun i => l.length - (intOf i).toNat)
  case atStart => exact ⟨0, by omega, rfl, HF⟩
  case round =>
    clear HF
    obtain ⟨k, hk, rfl, HF⟩ := hrel
    by_cases hlt : k < l.length
    · have hbk := l[k].toNat_lt
      have HF2 : Hid ((l.all fun c => plainB c.toNat) = (plainB l[k].toNat && (l.drop (k + 1)).all fun c => plainB c.toNat)) := HF.out.trans (by rw [List.drop_eq_getElem_cons hlt]; rfl)
      clear HF
      go_wp2_with fail
      all_goals first
        | (go_round
           case rel => exact ⟨k + 1, hlt, by go_num, HF2.out.trans (by rw [plainB_yes (by simp only [beq_eq_false_iff_ne] at *; omega)]; rfl)⟩
           case measure => simp [intOf]; omega)
        | (go_ret
           exact ⟨ret1d (by rw [valueF_bad (HF2.out.trans (by rw [plainB_no (by (try simp only [beq_iff_eq] at *); omega)]; rfl))]; rfl), rfl⟩)
    · have HF2 : Hid ((l.all fun c => plainB c.toNat) = true) := HF.out.trans (by rw [List.drop_of_length_le (by omega)]; rfl)
      clear HF
      cases l with
      | nil =>
        go_wp2_with fail
        go_ret
        exact ⟨rfl, rfl⟩
      | cons c r =>
        have hr : r.length < (c :: r).length := by simp
        have HV : Hid (valueF (c :: r) = (!edgeB c.toNat && !edgeB ((c :: r)[r.length]).toNat)) := (valueF_cons c r hr).trans (by rw [HF2.out]; simp)
        have hb := c.toNat_lt
        have hb2 := (c :: r)[r.length].toNat_lt
        simp only [List.length_cons] at hm hk hlt
        clear HF2
        cases e1 : edgeB c.toNat <;> cases e2 : edgeB (c :: r)[r.length].toNat
        all_goals
          go_wp2_with (first | (go_at_call 71; refine (ref25_edge _ _ (by omega) (by omega)).mono ?_; rintro e w1 ⟨rfl, rfl⟩))
          go_ret
          exact ⟨ret1d (by rw [HV.out, e1, e2]; rfl), rfl⟩

set_option maxRecDepth 100000 in
theorem token_Field (f : Fd) (hn : f.name.length ≤ maxLen) (hv : f.value.length ≤ maxLen) (w : World) :
    Calls Try.prog 30 #[.agg #[bstr f.name, bstr f.value, .bool f.never]] w fun e w' => e = .returned (.bool (fieldF f)) ∧ Below w.heap.size w w' := by
  have HF : Hid (fieldF f = ((nameF f.name || pseudoF f.name) && valueF f.value)) := rfl
  cases e1 : nameF f.name <;> cases e2 : pseudoF f.name
  all_goals
    go_enter Try.func30, Try.ntmps30
    go_wp2_with (first
      | (go_at_call 24; refine (token_Name _ hn _).mono ?_; rintro e w' ⟨rfl, rfl⟩)
      | (go_at_call 26; refine (token_Pseudo _ hn _).mono ?_; rintro e w' ⟨rfl, rfl⟩)
      | (go_at_call 28; refine (token_Value _ hv _).mono ?_; rintro e w' ⟨rfl, rfl⟩))
    go_ret
    exact ⟨ret1d (by rw [HF.out, e1, e2]; rfl), (Below.refl _ _).alloc (Nat.le_refl _) _⟩
set_option maxRecDepth 100000 in
theorem ref25_Field (f : Fd) (hn : f.name.length ≤ maxLen) (hv : f.value.length ≤ maxLen) (w : World) :
    Calls Try.prog 31 #[.agg #[bstr f.name, bstr f.value, .bool f.never]] w fun e w' => e = .returned (.bool (fieldF f)) ∧ Below w.heap.size w w' := by
  have HF : Hid (fieldF f = ((nameF f.name || pseudoF f.name) && valueF f.value)) := rfl
  cases e1 : nameF f.name <;> cases e2 : pseudoF f.name
  all_goals
    go_enter Try.func31, Try.ntmps31
    go_wp2_with (first
      | (go_at_call 25; refine (ref25_Name _ hn _).mono ?_; rintro e w' ⟨rfl, rfl⟩)
      | (go_at_call 27; refine (ref25_Pseudo _ hn _).mono ?_; rintro e w' ⟨rfl, rfl⟩)
      | (go_at_call 29; refine (ref25_Value _ hv _).mono ?_; rintro e w' ⟨rfl, rfl⟩))
    go_ret
    exact ⟨ret1d (by rw [HF.out, e1, e2]; rfl), (Below.refl _ _).alloc (Nat.le_refl _) _⟩

theorem alive25_a : nameF [72, 111, 115, 116] = false := by decide +kernel
theorem alive25_b : valueF [97, 32, 98] = true := by decide +kernel
theorem alive25_c : valueF [97, 32] = false := by decide +kernel
set_option maxRecDepth 100000 in
theorem law25_alive (w : World) : Calls Try.prog 23 #[] w fun e w' => e = .returned (.bool true) ∧ w = w' := by
  go_enter Try.func23, Try.ntmps23
  go_wp2_with fail
  refine (token_Name [72, 111, 115, 116] (by decide) _).mono ?_
  rintro e w' ⟨rfl, rfl⟩
  rw [alive25_a]
  go_wp2_with fail
  refine (token_Value [97, 32, 98] (by decide) _).mono ?_
  rintro e w' ⟨rfl, rfl⟩
  rw [alive25_b]
  go_wp2_with fail
  refine (token_Value [97, 32] (by decide) _).mono ?_
  rintro e w' ⟨rfl, rfl⟩
  rw [alive25_c]
  go_wp2_with fail
  go_ret
  exact ⟨rfl, rfl⟩
end Go.Proofs.Ytafccnkeiohlhaa
