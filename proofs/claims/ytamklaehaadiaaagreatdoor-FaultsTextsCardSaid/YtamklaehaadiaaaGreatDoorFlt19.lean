/-
  Faults: a text read as a fault: the program's.
-/
import Derived.Test.YtamklaehaadiaaaGreatDoorFltE
import Derived.Test.YtamklaehaadiaaaGreatDoorFlt12
import Derived.Test.YtamklaehaadiaaaGreatDoorSpl
namespace Go.Proofs.YtamklaehaadiaaaGreatDoor
set_option linter.unusedSimpArgs false
set_option linter.unusedVariables false
set_option linter.unusedSectionVars false
open Go.ChangeShapes Go.WideShapes Go.ChangeAt Go.RowKit Go.Deep Go.Shelf

theorem st_Fl : StructTy Tryz.prog 23 2 := ⟨_, Tryz.underlying23, rfl, by kernel_rfl⟩
theorem strings_cutAt (c : UInt8) (s : List UInt8) (w : World) (hm : s.length ≤ 1048576) (hE : Env w) :
    Calls Tryz.prog 20 #[bstr s, bstr [c]] w fun e w' => e = .returned (.tuple #[bstr (hdC c s).1, bstr (hdC c s).2.1, .bool (hdC c s).2.2]) ∧ ∃ j, w' = w.more j := by
  obtain ⟨m, hM⟩ := hE.max
  refine (Tryz.strings_Cut ⟨s.toArray⟩ ⟨#[c]⟩ m w (by show s.length < _; omega) hM).mono ?_
  rintro e w' ⟨he, n, hw⟩
  refine ⟨?_, by subst hw; exact Below.junk (below_drewN (Below.refl _ _) n)⟩
  rw [he, ← hd_cut]
theorem codeOf_empty : codeOf [] = (0, false) := by decide
theorem hdC_len (c : UInt8) (s : List UInt8) : (hdC c s).2.1.length ≤ s.length := by
  unfold hdC
  cases h : hdF c s with
  | none => simp
  | some p =>
    obtain ⟨a, b⟩ := p
    obtain ⟨rfl, _⟩ := hd_some h
    simp
    omega
def readP (p : List UInt8 × List UInt8 × Bool) : Fl × Bool :=
  if (codeOf p.2.1).2 = true ∧ p.1 = [115, 116, 114, 101, 97, 109] then (⟨1, (codeOf p.2.1).1⟩, true) else if (codeOf p.2.1).2 = true ∧ p.1 = [99, 111, 110, 110, 101, 99, 116, 105, 111, 110] then (⟨2, (codeOf p.2.1).1⟩, true) else (⟨0, 0⟩, false)
theorem readW_P (s : List UInt8) : readW s = readP (hdC 58 s) := by
  unfold readW readP hdC
  cases h : hdF 58 s with
  | none =>
    simp only
    rw [codeOf_empty, if_neg (by simp), if_neg (by simp)]
  | some p => rfl

set_option maxHeartbeats 8000000 in
set_option maxRecDepth 100000 in
theorem faults_Read (s : List UInt8) (hm : s.length ≤ 1000000) (w : World) (hE : Env w) (hF : FN w) :
    Calls Tryz.prog 6 #[bstr s] w fun e w' => e = .returned (.tuple #[.agg #[.int .i64 (readW s).1.scope, .int .i64 (readW s).1.code], .bool (readW s).2]) ∧ ∃ j, w' = w.more j := by
  have HC : Hid (∀ W, Env W → Calls Tryz.prog 20 #[bstr s, bstr [58]] W fun e w' => e = .returned (.tuple #[bstr (hdC 58 s).1, bstr (hdC 58 s).2.1, .bool (hdC 58 s).2.2]) ∧ ∃ j, w' = W.more j) := fun W hW => strings_cutAt 58 s W (by omega) hW
  have hlen := hdC_len 58 s
  have HR : Hid (readW s = readP (hdC 58 s)) := readW_P s
  generalize readW s = R at HR ⊢
  generalize hdC 58 s = p at HC HR hlen
  obtain ⟨a, b, f⟩ := p
  simp only at HC HR hlen
  have HD : Hid (∀ W, Env W → FN W → Calls Tryz.prog 21 #[bstr b] W fun e w' => e = .returned (.tuple #[.int .i64 (codeOf b).1, .bool (codeOf b).2]) ∧ ∃ j, w' = W.more j) := fun W => faults_Code b (by omega) W
  have HR2 : Hid (R = if (codeOf b).2 = true ∧ a = [115, 116, 114, 101, 97, 109] then (⟨1, (codeOf b).1⟩, true) else if (codeOf b).2 = true ∧ a = [99, 111, 110, 110, 101, 99, 116, 105, 111, 110] then (⟨2, (codeOf b).1⟩, true) else (⟨0, 0⟩, false)) := HR.out
  generalize codeOf b = q at HD HR2
  obtain ⟨cd, is⟩ := q
  simp only at HD HR2
  have HE := Lib.hid hE
  have HN := Lib.hid hF
  clear HR hE hF hm hlen
  cases is
  · have hr : R = (⟨0, 0⟩, false) := by rw [HR2.out, if_neg (by simp), if_neg (by simp)]
    subst hr
    clear HR2
    go_enter Tryz.func6, Tryz.ntmps6
    go_wp2_with (first
      | (go_at_call 20; (with_reducible refine (HC.out _ (HE.out.below (by repeat (first | (with_reducible exact Below.refl _ _) | (with_reducible refine Below.allocS ?_ _) | (with_reducible refine Below.moreS ?_ _) | (with_reducible refine Below.drew ?_) | (with_reducible refine below_drewN ?_ _))))).mono ?_); rintro e w' ⟨rfl, j, rfl⟩)
      | (go_at_call 21; (with_reducible refine (HD.out _ (HE.out.below (by repeat (first | (with_reducible exact Below.refl _ _) | (with_reducible refine Below.allocS ?_ _) | (with_reducible refine Below.moreS ?_ _) | (with_reducible refine Below.drew ?_) | (with_reducible refine below_drewN ?_ _)))) (HN.out.below (by repeat (first | (with_reducible exact Below.refl _ _) | (with_reducible refine Below.allocS ?_ _) | (with_reducible refine Below.moreS ?_ _) | (with_reducible refine Below.drew ?_) | (with_reducible refine below_drewN ?_ _))))).mono ?_); rintro e w' ⟨rfl, j, rfl⟩))
    refine bodyPost_ret (res_cell_tmp (cs := #[.int .i64 0, .int .i64 0]) rfl st_Fl rfl (by repeat (first | ((with_reducible apply Blk.at_); (simp; done)) | (with_reducible apply Blk.alloc) | (with_reducible apply Blk.more) | (with_reducible apply Blk.drew))) rfl rfl) rfl ⟨rfl, Below.junk (by repeat (first | (with_reducible exact Below.refl _ _) | (with_reducible refine Below.allocS ?_ _) | (with_reducible refine Below.moreS ?_ _) | (with_reducible refine Below.drew ?_) | (with_reducible refine below_drewN ?_ _)))⟩
  · have HS : Hid (∀ n W, Calls Tryz.prog 18 #[.int .i64 n] W fun e w' => e = .returned (bstr (scopeW n)) ∧ W = w') := faults_scope
    go_enter Tryz.func6, Tryz.ntmps6
    go_wp2_with (first
      | (go_at_call 20; (with_reducible refine (HC.out _ (HE.out.below (by repeat (first | (with_reducible exact Below.refl _ _) | (with_reducible refine Below.allocS ?_ _) | (with_reducible refine Below.moreS ?_ _) | (with_reducible refine Below.drew ?_) | (with_reducible refine below_drewN ?_ _))))).mono ?_); rintro e w' ⟨rfl, j, rfl⟩)
      | (go_at_call 21; (with_reducible refine (HD.out _ (HE.out.below (by repeat (first | (with_reducible exact Below.refl _ _) | (with_reducible refine Below.allocS ?_ _) | (with_reducible refine Below.moreS ?_ _) | (with_reducible refine Below.drew ?_) | (with_reducible refine below_drewN ?_ _)))) (HN.out.below (by repeat (first | (with_reducible exact Below.refl _ _) | (with_reducible refine Below.allocS ?_ _) | (with_reducible refine Below.moreS ?_ _) | (with_reducible refine Below.drew ?_) | (with_reducible refine below_drewN ?_ _))))).mono ?_); rintro e w' ⟨rfl, j, rfl⟩))
    go_loopg [9] 2 (fun g i wr => ∃ k q : Nat, q = g ∧ k + q = 2 ∧ i = .int .i64 ((k : Int) + 1) ∧ Hid (1 ≤ k → a ≠ [115, 116, 114, 101, 97, 109]) ∧ Hid (2 ≤ k → a ≠ [99, 111, 110, 110, 101, 99, 116, 105, 111, 110]) ∧ ∃ j, wr = (w.alloc (.cells #[.int .i64 0, .int .i64 0] 23)).more j)
    case atStart => exact ⟨0, 2, rfl, rfl, rfl, fun h => absurd h (by omega), fun h => absurd h (by omega), _, rfl⟩
    case round =>
      obtain ⟨k, q, hq, hkq, rfl, HA, HB, j, rfl⟩ := hrel
      have HQ := Lib.hid hq
      clear hq
      rcases (by omega : k = 0 ∨ k = 1 ∨ k = 2) with rfl | rfl | rfl
      · have HS1 : Hid (∀ W, Calls Tryz.prog 18 #[.int .i64 1] W fun e w' => e = .returned (bstr [115, 116, 114, 101, 97, 109]) ∧ W = w') := HS.out 1
        cases e1 : (([115, 116, 114, 101, 97, 109] : List UInt8) == a)
        · have HA2 : Hid (1 ≤ 1 → a ≠ [115, 116, 114, 101, 97, 109]) := fun _ h => by rw [h] at e1; simp at e1
          go_wp2_with (go_at_call 18; (with_reducible refine (HS1.out _).mono ?_); rintro e w' ⟨rfl, rfl⟩)
          go_roundg 1
          case measure => have := HQ.out; omega
          case rel => exact ⟨1, 1, rfl, by omega, by go_num, HA2, fun h => absurd h (by omega), _, rfl⟩
        · have hr : R = (⟨1, cd⟩, true) := by rw [HR2.out, if_pos ⟨trivial, (eq_of_beq e1).symm⟩]
          subst hr
          clear HR2
          go_wp2_with (go_at_call 18; (with_reducible refine (HS1.out _).mono ?_); rintro e w' ⟨rfl, rfl⟩)
          refine bodyPost_ret (res_cell_tmp (cs := #[.int .i64 1, .int .i64 cd]) rfl st_Fl rfl (by repeat (first | ((with_reducible apply Blk.at_); (simp; done)) | (with_reducible apply Blk.alloc) | (with_reducible apply Blk.more) | (with_reducible apply Blk.drew))) rfl rfl) rfl ⟨rfl, Below.junk (by repeat (first | (with_reducible exact Below.refl _ _) | (with_reducible refine Below.allocS ?_ _) | (with_reducible refine Below.moreS ?_ _) | (with_reducible refine Below.drew ?_) | (with_reducible refine below_drewN ?_ _)))⟩
      · have HS1 : Hid (∀ W, Calls Tryz.prog 18 #[.int .i64 2] W fun e w' => e = .returned (bstr [99, 111, 110, 110, 101, 99, 116, 105, 111, 110]) ∧ W = w') := HS.out 2
        cases e1 : (([99, 111, 110, 110, 101, 99, 116, 105, 111, 110] : List UInt8) == a)
        · have HA2 : Hid (2 ≤ 2 → a ≠ [99, 111, 110, 110, 101, 99, 116, 105, 111, 110]) := fun _ h => by rw [h] at e1; simp at e1
          have HA3 : Hid (1 ≤ 2 → a ≠ [115, 116, 114, 101, 97, 109]) := fun _ => HA.out (by omega)
          go_wp2_with (go_at_call 18; (with_reducible refine (HS1.out _).mono ?_); rintro e w' ⟨rfl, rfl⟩)
          go_roundg 0
          case measure => have := HQ.out; omega
          case rel => exact ⟨2, 0, rfl, by omega, by go_num, HA3, HA2, _, rfl⟩
        · have hr : R = (⟨2, cd⟩, true) := by rw [HR2.out, if_neg (fun h => HA.out (by omega) h.2), if_pos ⟨trivial, (eq_of_beq e1).symm⟩]
          subst hr
          clear HR2
          go_wp2_with (go_at_call 18; (with_reducible refine (HS1.out _).mono ?_); rintro e w' ⟨rfl, rfl⟩)
          refine bodyPost_ret (res_cell_tmp (cs := #[.int .i64 2, .int .i64 cd]) rfl st_Fl rfl (by repeat (first | ((with_reducible apply Blk.at_); (simp; done)) | (with_reducible apply Blk.alloc) | (with_reducible apply Blk.more) | (with_reducible apply Blk.drew))) rfl rfl) rfl ⟨rfl, Below.junk (by repeat (first | (with_reducible exact Below.refl _ _) | (with_reducible refine Below.allocS ?_ _) | (with_reducible refine Below.moreS ?_ _) | (with_reducible refine Below.drew ?_) | (with_reducible refine below_drewN ?_ _)))⟩
      · have hr : R = (⟨0, 0⟩, false) := by rw [HR2.out, if_neg (fun h => HA.out (by omega) h.2), if_neg (fun h => HB.out (by omega) h.2)]
        subst hr
        clear HR2
        go_wp2_with fail
        refine bodyPost_ret (res_cell_tmp (cs := #[.int .i64 0, .int .i64 0]) rfl st_Fl rfl (by repeat (first | ((with_reducible apply Blk.at_); (simp; done)) | (with_reducible apply Blk.alloc) | (with_reducible apply Blk.more) | (with_reducible apply Blk.drew))) rfl rfl) rfl ⟨rfl, Below.junk (by repeat (first | (with_reducible exact Below.refl _ _) | (with_reducible refine Below.allocS ?_ _) | (with_reducible refine Below.moreS ?_ _) | (with_reducible refine Below.drew ?_) | (with_reducible refine below_drewN ?_ _)))⟩
end Go.Proofs.YtamklaehaadiaaaGreatDoor
