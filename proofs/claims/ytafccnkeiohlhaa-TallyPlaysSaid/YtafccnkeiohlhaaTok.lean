/-
  Which bytes names and values of fields may have: the contracts of the functions that tell it.
-/
import Derived.Test.YtafccnkeiohlhaaBase
import Derived.Test.YtafccnkeiohlhaaShelf
namespace Go.Proofs.Ytafccnkeiohlhaa
open Go.ChangeShapes Go.WideShapes Go.ChangeAt Go.RowKit Go.Deep

def isLarge (c : Int) : Bool := decide (65 ≤ c) && decide (c ≤ 90)
def mayB (c : Int) : Bool := !(decide (c ≤ 32) || decide (127 ≤ c) || c == 58 || isLarge c)
theorem mayB_true {c : Int} (h : mayB c = true) : 33 ≤ c ∧ c ≤ 126 ∧ (c == 58) = false ∧ (c ≤ 64 ∨ 91 ≤ c) := by
  simp [mayB, isLarge] at h
  obtain ⟨⟨⟨h1, h2⟩, h3⟩, h4⟩ := h
  refine ⟨by omega, by omega, by simpa using h3, ?_⟩
  omega
theorem mayB_intro {c : Int} (h1 : 33 ≤ c) (h2 : c ≤ 126) (h3 : (c == 58) = false) (h4 : c ≤ 64 ∨ 91 ≤ c) : mayB c = true := by
  have e1 : decide (c ≤ 32) = false := by simp; omega
  have e2 : decide (127 ≤ c) = false := by simp; omega
  have e3 : isLarge c = false := by simp [isLarge]; omega
  simp only [mayB, e1, e2, h3, e3]; rfl
theorem pos_len (l : List UInt8) : decide (0 < l.length) = !l.isEmpty := by cases l <;> simp
def nameF (l : List UInt8) : Bool := (l.all fun c => mayB c.toNat) && !l.isEmpty
def pseudoF : List UInt8 → Bool
  | [] => false
  | c :: r => ((c.toNat : Int) == 58) && nameF r
def edgeB (c : Int) : Bool := c == 9 || c == 32
def plainB (c : Int) : Bool := !(c == 0 || c == 10 || c == 13)
def valueF (l : List UInt8) : Bool :=
  match l with
  | [] => true
  | c :: _ => !edgeB c.toNat && !edgeB (l.getLast?.getD 0).toNat && l.all fun c => plainB c.toNat
def fieldF (f : Fd) : Bool := (nameF f.name || pseudoF f.name) && valueF f.value

theorem token_large (c : Int) (w : World) (_h0 : 0 ≤ c) (_h1 : c < 256) :
    Calls Try.prog 79 #[.int .u8 c] w fun e w' => e = .returned (.bool (isLarge c)) ∧ w = w' := by
  go_enter Try.func79, Try.ntmps79
  go_wp2_with fail
  all_goals go_ret
  all_goals refine ⟨ret1d ?_, rfl⟩
  all_goals simp [isLarge]
  all_goals omega

set_option maxRecDepth 100000 in
theorem token_may (c : Int) (w : World) (h0 : 0 ≤ c) (h1 : c < 256) :
    Calls Try.prog 69 #[.int .u8 c] w fun e w' => e = .returned (.bool (mayB c)) ∧ w = w' := by
  by_cases t1 : c ≤ 32
  · go_enter Try.func69, Try.ntmps69
    go_wp2_with fail
    go_ret
    exact ⟨ret1d (by simp [mayB, t1]), rfl⟩
  by_cases t2 : 127 ≤ c
  · go_enter Try.func69, Try.ntmps69
    go_wp2_with fail
    go_ret
    exact ⟨ret1d (by simp [mayB, t2]), rfl⟩
  by_cases t3 : c = 58
  · subst t3
    go_enter Try.func69, Try.ntmps69
    go_wp2_with fail
    go_ret
    exact ⟨ret1d rfl, rfl⟩
  · have t4 : (c == 58) = false := by simpa using t3
    go_enter Try.func69, Try.ntmps69
    go_wp2_with fail
    refine (token_large _ _ h0 h1).mono ?_
    rintro e w' ⟨rfl, rfl⟩
    go_wp2_with fail
    go_ret
    refine ⟨ret1d ?_, rfl⟩
    have e1 : decide (c ≤ 32) = false := by simpa using t1
    have e2 : decide (127 ≤ c) = false := by simpa using t2
    show Value.bool _ = _
    simp [mayB, e1, e2, t4]

set_option maxRecDepth 100000 in
theorem token_Name (l : List UInt8) (hm : l.length ≤ maxLen) (w : World) :
    Calls Try.prog 24 #[bstr l] w fun e w' => e = .returned (.bool (nameF l)) ∧ w = w' := by
  unfold maxLen at hm
  have HF : Hid (nameF l = (((l.drop 0).all fun c => mayB c.toNat) && !l.isEmpty)) := rfl
  go_enter Try.func24, Try.ntmps24
  go_wp2_with fail
  go_loop [6] (fun i => ∃ k : Nat, k ≤ l.length ∧ i = .int .i64 k ∧ Hid (nameF l = (((l.drop k).all fun c => mayB c.toNat) && !l.isEmpty))) (fun i => l.length - (intOf i).toNat)
  case atStart => exact ⟨0, by omega, rfl, HF⟩
  case round =>
    clear HF
    obtain ⟨k, hk, rfl, HF⟩ := hrel
    by_cases hlt : k < l.length
    · have hb := l[k].toNat_lt
      have HF2 : Hid (nameF l = ((mayB l[k].toNat && (l.drop (k + 1)).all fun c => mayB c.toNat) && !l.isEmpty)) := HF.out.trans (by rw [List.drop_eq_getElem_cons hlt]; rfl)
      clear HF
      cases hmay : mayB l[k].toNat with
      | true =>
        go_wp2_with (first | (go_at_call 69; refine (token_may _ _ (by omega) (by omega)).mono ?_; rintro e w' ⟨rfl, rfl⟩))
        go_round
        case rel => exact ⟨k + 1, hlt, by go_num, HF2.out.trans (by rw [hmay]; rfl)⟩
        case measure => simp [intOf]; omega
      | false =>
        go_wp2_with (first | (go_at_call 69; refine (token_may _ _ (by omega) (by omega)).mono ?_; rintro e w' ⟨rfl, rfl⟩))
        go_ret
        exact ⟨ret1d (by rw [HF2.out, hmay]; rfl), rfl⟩
    · go_wp2_with fail
      go_ret
      exact ⟨ret1d (by rw [HF.out, List.drop_of_length_le (by omega)]; rfl), rfl⟩

set_option maxRecDepth 100000 in
theorem ref25_Name (l : List UInt8) (hm : l.length ≤ maxLen) (w : World) :
    Calls Try.prog 25 #[bstr l] w fun e w' => e = .returned (.bool (nameF l)) ∧ w = w' := by
  unfold maxLen at hm
  have HF : Hid (nameF l = (((l.drop 0).all fun c => mayB c.toNat) && !l.isEmpty)) := rfl
  go_enter Try.func25, Try.ntmps25
  go_wp2_with fail
  go_loop [3] (fun i => ∃ k : Nat, k ≤ l.length ∧ i = .int .i64 k ∧ Hid (nameF l = (((l.drop k).all fun c => mayB c.toNat) && !l.isEmpty))) (fun i => l.length - (intOf i).toNat)
  case atStart => exact ⟨0, by omega, rfl, HF⟩
  case round =>
    clear HF
    obtain ⟨k, hk, rfl, HF⟩ := hrel
    by_cases hlt : k < l.length
    · have hb := l[k].toNat_lt
      have HF2 : Hid (nameF l = ((mayB l[k].toNat && (l.drop (k + 1)).all fun c => mayB c.toNat) && !l.isEmpty)) := HF.out.trans (by rw [List.drop_eq_getElem_cons hlt]; rfl)
      clear HF
      cases hmay : mayB l[k].toNat with
      | true =>
        obtain ⟨t1, t2, t3, t4⟩ := mayB_true hmay
        have HF3 : Hid (nameF l = (((l.drop (k + 1)).all fun c => mayB c.toNat) && !l.isEmpty)) := HF2.out.trans (by rw [hmay]; rfl)
        clear hmay HF2
        go_wp2_with fail
        all_goals first
          | (exfalso; omega)
          | (go_round
             case rel => exact ⟨k + 1, hlt, by go_num, HF3⟩
             case measure => simp [intOf]; omega)
      | false =>
        have HM := Lib.hid hmay
        clear hmay
        go_wp2_with fail
        all_goals first
          | (go_ret
             exact ⟨ret1d (by rw [HF2.out, HM.out]; rfl), rfl⟩)
          | (exfalso; exact absurd (mayB_intro (c := l[k].toNat) (by omega) (by omega) (by first | assumption | (simp; omega)) (by omega)) (by rw [HM.out]; simp))
    · go_wp2_with fail
      go_ret
      exact ⟨ret1d (by rw [HF.out, List.drop_of_length_le (by omega)]; exact congrArg Value.bool (pos_len l)), rfl⟩
end Go.Proofs.Ytafccnkeiohlhaa
