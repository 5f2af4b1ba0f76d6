/-
  Parts of the proof, one behind the other: contracts of the program and plain laws; no condition of their own.
-/
import Derived.Test.YtfcklbiejlkafaaGreatDoorMb
import Derived.Test.YtfcklbiejlkafaaGreatDoorMa
import Derived.Deep.LoopGhost
import Derived.Deep.Draws
import Derived.BigGuardPart
import Derived.Test.YtfcklbiejlkafaaGreatDoorRows
/-
  Faults: their texts, and sets' texts: the document's.
-/
namespace Go.Proofs.YtfcklbiejlkafaaGreatDoor
set_option linter.unusedSimpArgs false
set_option linter.unusedVariables false
set_option linter.unusedSectionVars false
open Go.ChangeShapes Go.WideShapes Go.ChangeAt Go.RowKit Go.Deep Go.Shelf

set_option maxHeartbeats 2000000 in
set_option maxRecDepth 100000 in
theorem ref09_Text (s c : Int) (w : World) : Calls Tryz.prog 35 #[.agg #[.int .i64 s, .int .i64 c]] w fun e w' => e = .returned (bstr (textW ⟨s, c⟩)) ∧ ∃ j, w' = w.more j := by
  have HQ : Hid (∀ W, Calls Tryz.prog 48 #[.agg #[.int .i64 s, .int .i64 c]] W fun e w' => e = .returned (.bool (flR ⟨s, c⟩)) ∧ ∃ j, w' = W.more j) := ref09_Right s c
  have HC : Hid (∀ W, Calls Tryz.prog 51 #[.int .i64 c] W fun e w' => e = .returned (bstr (codeN c)) ∧ ∃ j, w' = W.more j) := ref09_CodeName c
  have HW : Hid (textW ⟨s, c⟩ = if flR ⟨s, c⟩ = true then scopeW s ++ 58 :: codeN c else []) := rfl
  have hl2 := codeN_len c
  generalize textW ⟨s, c⟩ = T at HW ⊢
  generalize flR ⟨s, c⟩ = r at HQ HW
  cases r
  · have HR : Hid (T = []) := by show _ = _; rw [HW.out, if_neg (by simp)]
    clear HW HC
    go_enter Tryz.func35, Tryz.ntmps35
    go_wp2_with fail
    refine (HQ.out _).mono ?_
    rintro e w' ⟨rfl, j, rfl⟩
    go_wp2_with fail
    go_ret
    exact ⟨by rw [HR.out]; rfl, Below.junk (by repeat (first | (with_reducible exact Below.refl _ _) | (with_reducible refine Below.allocS ?_ _) | (with_reducible refine Below.moreS ?_ _) | (with_reducible refine Below.drew ?_) | (with_reducible refine below_drewN ?_ _)))⟩
  · have HR : Hid (T = scopeW s ++ 58 :: codeN c) := by show _ = _; rw [HW.out, if_pos rfl]
    clear HW
    generalize codeN c = Q at HR HC hl2
    cases h1 : (s == 1)
    · have hs : ¬ s = 1 := by simpa using h1
      have HR2 : Hid (T = [99, 111, 110, 110, 101, 99, 116, 105, 111, 110, 58] ++ Q) := by show _ = _; rw [HR.out]; unfold scopeW; rw [if_neg hs]; rfl
      clear HR hs
      go_enter Tryz.func35, Tryz.ntmps35
      go_wp2_with fail
      refine (HQ.out _).mono ?_
      rintro e w' ⟨rfl, j, rfl⟩
      go_wp2_with (go_at_call 51; (with_reducible refine (HC.out _).mono ?_); rintro e w' ⟨rfl, j, rfl⟩)
      go_ret
      exact ⟨by rw [HR2.out]; rfl, Below.junk (by repeat (first | (with_reducible exact Below.refl _ _) | (with_reducible refine Below.allocS ?_ _) | (with_reducible refine Below.moreS ?_ _) | (with_reducible refine Below.drew ?_) | (with_reducible refine below_drewN ?_ _)))⟩
    · obtain rfl : s = 1 := by simpa using h1
      have HR2 : Hid (T = [115, 116, 114, 101, 97, 109, 58] ++ Q) := by show _ = _; rw [HR.out]; rfl
      clear HR h1
      go_enter Tryz.func35, Tryz.ntmps35
      go_wp2_with fail
      refine (HQ.out _).mono ?_
      rintro e w' ⟨rfl, j, rfl⟩
      go_wp2_with (go_at_call 51; (with_reducible refine (HC.out _).mono ?_); rintro e w' ⟨rfl, j, rfl⟩)
      go_ret
      exact ⟨by rw [HR2.out]; rfl, Below.junk (by repeat (first | (with_reducible exact Below.refl _ _) | (with_reducible refine Below.allocS ?_ _) | (with_reducible refine Below.moreS ?_ _) | (with_reducible refine Below.drew ?_) | (with_reducible refine below_drewN ?_ _)))⟩

theorem show_step (S : List Fl) (k : Nat) (hk : k < S.length) (h0 : 0 < k) : Lib.join ((S.take (k + 1)).map textW) [44] = Lib.join ((S.take k).map textW) [44] ++ [44] ++ textW S[k] := by
  rw [List.map_take, List.map_take, take_join_c 44 _ k (by simpa using hk), if_neg (by omega)]
  simp
set_option maxHeartbeats 8000000 in
set_option maxRecDepth 100000 in
theorem ref09_Show (a : Option Addr) (l : List Fl) (cap : Nat) (hl : l.length ≤ 1000) (w : World) (hS : SlFl w w.heap.size a l) :
    Calls Tryz.prog 21 #[.slice a l.length cap] w fun e w' => e = .returned (bstr (showW l)) ∧ ∃ j, w' = w.more j := by
  have HO := Lib.hid (ref09_Of a l cap (by omega) w hS)
  have hlen := ofF_len l
  have HW : Hid (showW l = if ofF l = [] then [45] else Lib.join ((ofF l).map textW) [44]) := rfl
  generalize ofF l = S at HO HW hlen
  generalize showW l = R at HW ⊢
  clear hS
  go_enter Tryz.func21, Tryz.ntmps21
  go_wp2_with fail
  refine HO.out.mono ?_
  rintro e w1 ⟨a1, cap1, rfl, hcap1, hs1, hb1⟩
  have HS1 := Lib.hid hs1
  have HB1 := Lib.hid hb1
  have HL := Lib.hid hlen
  clear hs1 hb1 hcap1
  cases hS : S with
  | nil =>
    have hr : R = [45] := by rw [HW.out, if_pos hS]
    subst hS hr
    clear HW HS1 HL
    go_wp2_with fail
    go_ret
    exact ⟨rfl, HB1.out.junk⟩
  | cons x0 r0 =>
  have h0 : 0 < S.length := by rw [hS]; simp
  have hR : R = Lib.join ((S.take S.length).map textW) [44] := by rw [HW.out, if_neg (by rw [hS]; simp), List.take_length]
  have HR := Lib.hid hR
  rw [← hS]
  have HZ : Hid (textW S[0] = Lib.join ((S.take 1).map textW) [44]) := by
    show _ = _
    rw [show S.take 1 = S.take 0 ++ [S[0]] from List.take_succ_eq_append_getElem h0]
    simp [Lib.join_one]
  obtain ⟨b, off, ha, hbb, c00, c01⟩ := SlR.atFl HS1.out h0
  subst ha
  simp only [Nat.zero_mul, Nat.add_zero] at c00 c01
  have HT0 : Hid (∀ W, Calls Tryz.prog 35 #[.agg #[.int .i64 S[0].scope, .int .i64 S[0].code]] W fun e w' => e = .returned (bstr (textW S[0])) ∧ ∃ j, w' = W.more j) := fun W => ref09_Text _ _ W
  have hlen0 := textW_len S[0]
  have hne : ¬ S.length = 0 := by omega
  have hnb : ((S.length : Int) == 0) = false := by rw [beq_eq_false_iff_ne]; omega
  generalize textW S[0] = t0 at HZ HT0 hlen0
  generalize S[0] = x at c00 c01 HT0
  obtain ⟨xs, xc⟩ := x
  clear HW hR hS
  go_wp2_with fail
  refine (HT0.out _).mono ?_
  rintro e w2 ⟨rfl, j0, rfl⟩
  go_wp2_with fail
  go_loopg [4, 5] S.length (fun g v i wr => ∃ (k : Nat) (acc : List UInt8), k + g = S.length + 1 ∧ 1 ≤ k ∧ k ≤ S.length ∧ i = .int .i64 k ∧ v = bstr acc ∧ acc.length ≤ 32 * k ∧ Hid (acc = Lib.join ((S.take k).map textW) [44]) ∧ ∃ j, wr = w1.more j)
  case atStart => exact ⟨1, t0, by omega, Nat.le_refl _, h0, rfl, rfl, by omega, HZ, ⟨j0, rfl⟩⟩
  case round =>
    obtain ⟨k, acc, hkg, hk1, hk2, rfl, rfl, hacc, HA, j, rfl⟩ := hrel
    have HK := Lib.hid hkg
    by_cases hlt : k < S.length
    · obtain ⟨b', off', ha, hbb2, d0, d1⟩ := SlR.atFl HS1.out hlt
      injection ha with ha
      injection ha with ha1 ha2
      subst ha1 ha2
      have HT : Hid (∀ W, Calls Tryz.prog 35 #[.agg #[.int .i64 S[k].scope, .int .i64 S[k].code]] W fun e w' => e = .returned (bstr (textW S[k])) ∧ ∃ j, w' = W.more j) := fun W => ref09_Text _ _ W
      have hlk := textW_len S[k]
      have HU : Hid (acc ++ [44] ++ textW S[k] = Lib.join ((S.take (k + 1)).map textW) [44]) := by show _ = _; rw [HA.out, ← show_step S k hlt hk1]
      generalize textW S[k] = t at HT HU hlk
      generalize S[k] = x at d0 d1 HT
      obtain ⟨xs, xc⟩ := x
      clear HA hkg
      go_wp2_with fail
      refine (HT.out _).mono ?_
      rintro e w3 ⟨rfl, j3, rfl⟩
      go_wp2_with fail
      go_roundg (S.length - k)
      case measure => have := HK.out; omega
      case rel => exact ⟨k + 1, acc ++ [44] ++ t, by have := HK.out; omega, by omega, by omega, by go_num, by simp, by simp; omega, HU, Below.junk (by repeat (first | (with_reducible exact Below.refl _ _) | (with_reducible refine Below.allocS ?_ _) | (with_reducible refine Below.moreS ?_ _) | (with_reducible refine Below.drew ?_) | (with_reducible refine below_drewN ?_ _)))⟩
    · have hr : R = acc := by rw [HR.out, HA.out, show k = S.length by omega]
      subst hr
      clear HA hkg
      go_wp2_with fail
      go_ret
      exact ⟨rfl, (HB1.out.trans ((Below.refl w1.heap.size w1).moreS j |>.mono HB1.out.size)).junk⟩
end Go.Proofs.YtfcklbiejlkafaaGreatDoor
/-
  Rules: the chapter's examples.
-/
namespace Go.Proofs.YtfcklbiejlkafaaGreatDoor
set_option linter.unusedSimpArgs false
set_option linter.unusedVariables false
set_option linter.unusedSectionVars false
open Go.ChangeShapes Go.WideShapes Go.ChangeAt Go.RowKit Go.Deep Go.Shelf

theorem slFl_one {w : World} {g : Nat} {t : TypeId} {s c : Int} (h : Blk w g t #[.int .i64 s, .int .i64 c]) : SlFl w w.heap.size (some ⟨g, 0, none⟩) [⟨s, c⟩] :=
  (SlR.of_blk (c := Fl.cells) (size := 2) (R := fun x cs => cs = Fl.cells x) (l := [⟨s, c⟩]) h rfl (fun _ _ => rfl) (fun x hx => rfl)).mono h.lt (fun _ _ _ h => h)
def OneP (s c : Int) (w : World) (e : Ending) (w' : World) : Prop := ∃ g, e = .returned (.slice (some ⟨g, 0, none⟩) 1 1) ∧ SlFl w' w'.heap.size (some ⟨g, 0, none⟩) [⟨s, c⟩] ∧ Below w.heap.size w w'
set_option maxRecDepth 100000 in
theorem rules_one_conn (k : Int) (w : World) : Calls Tryz.prog 36 #[.bool true, .int .i64 k] w (OneP 2 k w) := by
  go_enter Tryz.func36, Tryz.ntmps36
  go_wp2_with fail
  go_ret
  exact ⟨_, rfl, slFl_one (s := 2) (c := k) (by repeat (first | ((with_reducible apply Blk.at_); (simp; done)) | (with_reducible apply Blk.alloc) | (with_reducible apply Blk.more) | (with_reducible apply Blk.drew))), (by repeat (first | (with_reducible exact Below.refl _ _) | (with_reducible refine Below.allocS ?_ _) | (with_reducible refine Below.moreS ?_ _) | (with_reducible refine Below.drew ?_) | (with_reducible refine below_drewN ?_ _)))⟩
set_option maxRecDepth 100000 in
theorem rules_one_stream (k : Int) (w : World) : Calls Tryz.prog 36 #[.bool false, .int .i64 k] w (OneP 1 k w) := by
  go_enter Tryz.func36, Tryz.ntmps36
  go_wp2_with fail
  go_ret
  exact ⟨_, rfl, slFl_one (s := 1) (c := k) (by repeat (first | ((with_reducible apply Blk.at_); (simp; done)) | (with_reducible apply Blk.alloc) | (with_reducible apply Blk.more) | (with_reducible apply Blk.drew))), (by repeat (first | (with_reducible exact Below.refl _ _) | (with_reducible refine Below.allocS ?_ _) | (with_reducible refine Below.moreS ?_ _) | (with_reducible refine Below.drew ?_) | (with_reducible refine below_drewN ?_ _)))⟩
def TwoP (l : List Fl) (w : World) (e : Ending) (w' : World) : Prop := ∃ a cap, e = .returned (.slice a l.length cap) ∧ SlFl w' w'.heap.size a l ∧ Below w.heap.size w w'
set_option maxHeartbeats 4000000 in
set_option maxRecDepth 100000 in
theorem rules_few14 (w : World) : Calls Tryz.prog 41 #[.int .i64 14] w (TwoP [⟨1, 5⟩, ⟨2, 5⟩] w) := by
  have H1 : Hid (∀ W, Calls Tryz.prog 36 #[.bool true, .int .i64 5] W (OneP 2 5 W)) := rules_one_conn 5
  have H2 : Hid (∀ W, Calls Tryz.prog 36 #[.bool false, .int .i64 5] W (OneP 1 5 W)) := rules_one_stream 5
  have hof : ofF ([⟨2, 5⟩] ++ [⟨1, 5⟩]) = [⟨1, 5⟩, ⟨2, 5⟩] := by decide +kernel
  go_enter Tryz.func41, Tryz.ntmps41
  go_wp2_with fail
  refine (H1.out _).mono ?_
  rintro e w1 ⟨g1, rfl, hs1, hb1⟩
  have HS1 := Lib.hid hs1
  have HB1 := Lib.hid hb1
  clear hs1 hb1
  go_wp2_with fail
  refine (H2.out _).mono ?_
  rintro e w2 ⟨g2, rfl, hs2, hb2⟩
  have HU := Lib.hid (faults_Union (some ⟨g1, 0, none⟩) (some ⟨g2, 0, none⟩) [⟨2, 5⟩] [⟨1, 5⟩] 1 1 (by simp) (by simp) w2 (SlFl.keep HS1.out hb2) hs2)
  have HB2 := Lib.hid (HB1.out.trans (hb2.mono HB1.out.size))
  rw [hof] at HU
  clear hs2 hb2 HS1 hof
  go_wp2_with fail
  refine HU.out.mono ?_
  rintro e w3 ⟨a3, c3, rfl, _, hs3, hb3⟩
  have HS3 := Lib.hid hs3
  have HB3 := Lib.hid (HB2.out.trans (hb3.mono HB2.out.size))
  clear hs3 hb3
  go_wp2_with fail
  go_ret
  exact ⟨_, _, rfl, HS3.out, HB3.out⟩
def rawZ : Value := .agg #[.int .i64 0, .int .i64 0, .int .i64 0, .int .i64 0, .bool false, .slice none 0 0]
set_option maxHeartbeats 4000000 in
set_option maxRecDepth 100000 in
theorem rules_Faults14 (w : World) : Calls Tryz.prog 22 #[.int .i64 14, .agg #[.int .i64 0, .int .i64 0, .int .i64 0, .int .i64 0, .bool false, .slice none 0 0]] w (TwoP [⟨1, 5⟩, ⟨2, 5⟩] w) := by
  have H1 : Hid (∀ W, Calls Tryz.prog 41 #[.int .i64 14] W (TwoP [⟨1, 5⟩, ⟨2, 5⟩] W)) := rules_few14
  go_enter Tryz.func22, Tryz.ntmps22
  go_wp2_with fail
  refine (H1.out _).mono ?_
  rintro e w1 ⟨a1, c1, rfl, hs1, hb1⟩
  have HS1 := Lib.hid hs1
  have HB1 : Hid (Below w.heap.size w w1) := by
    have h2 : Below w.heap.size _ w1 := hb1.mono (by simp)
    refine Below.trans ?_ h2
    exact (by repeat (first | (with_reducible exact Below.refl _ _) | (with_reducible refine Below.allocS ?_ _) | (with_reducible refine Below.moreS ?_ _) | (with_reducible refine Below.drew ?_) | (with_reducible refine below_drewN ?_ _)))
  clear hs1 hb1
  go_wp2_with fail
  go_ret
  exact ⟨_, _, rfl, HS1.out, HB1.out⟩
theorem show_two : showW [⟨1, 5⟩, ⟨2, 5⟩] = [115, 116, 114, 101, 97, 109, 58, 83, 84, 82, 69, 65, 77, 95, 67, 76, 79, 83, 69, 68, 44, 99, 111, 110, 110, 101, 99, 116, 105, 111, 110, 58, 83, 84, 82, 69, 65, 77, 95, 67, 76, 79, 83, 69, 68] := by decide +kernel
theorem show_rules : showR [19, 3] = [115, 105, 122, 101, 44, 99, 111, 110, 110] := by decide +kernel
theorem slI_new {w : World} {g : Nat} {t : TypeId} {x y : Int} (h : Blk w g t #[.int .i64 x, .int .i64 y]) : SlI w w.heap.size (some ⟨g, 0, none⟩) [x, y] :=
  (SlR.of_blk (c := fun n => [.int .i64 n]) (size := 1) (R := intIs) (l := [x, y]) h rfl (fun _ _ => rfl) (fun x hx => rfl)).mono h.lt (fun _ _ _ h => h)
set_option maxHeartbeats 4000000 in
set_option maxRecDepth 100000 in
theorem law38_alive (m : Int) (w : World) (hM : w.cell? MaxA = some (.int .i64 m)) : Calls Tryz.prog 5 #[] w fun e w' => e = .returned (.bool true) ∧ ∃ j, w' = w.more j := by
  have H1 := Lib.hid (rules_Faults14 w)
  have H2 : Hid (∀ W a c, SlFl W W.heap.size a [⟨1, 5⟩, ⟨2, 5⟩] → Calls Tryz.prog 21 #[.slice a 2 c] W fun e w' => e = .returned (bstr [115, 116, 114, 101, 97, 109, 58, 83, 84, 82, 69, 65, 77, 95, 67, 76, 79, 83, 69, 68, 44, 99, 111, 110, 110, 101, 99, 116, 105, 111, 110, 58, 83, 84, 82, 69, 65, 77, 95, 67, 76, 79, 83, 69, 68]) ∧ ∃ j, w' = W.more j) := fun W a c h => by
    have := ref09_Show a [⟨1, 5⟩, ⟨2, 5⟩] c (by simp) W h
    rw [show_two] at this
    exact this
  have H3 : Hid (∀ W g, Below w.heap.size w W → Blk W g 3 #[.int .i64 19, .int .i64 3] → Calls Tryz.prog 7 #[.slice (some ⟨g, 0, none⟩) 2 2] W fun e w' => e = .returned (bstr [115, 105, 122, 101, 44, 99, 111, 110, 110]) ∧ ∃ j, w' = W.more j) := fun W g hW hb => by
    have := rules_Show (some ⟨g, 0, none⟩) [19, 3] 2 (by simp) m W (max_keep hM hW) (slI_new hb)
    rw [show_rules] at this
    exact this
  clear hM
  go_enter Tryz.func5, Tryz.ntmps5
  go_wp2_with fail
  refine H1.out.mono ?_
  rintro e w1 ⟨a1, c1, rfl, hs1, hb1⟩
  have HS2 := Lib.hid (H2.out w1 a1 c1 hs1)
  have HB1 := Lib.hid hb1
  clear hs1 hb1
  go_wp2_with fail
  refine HS2.out.mono ?_
  rintro e w2 ⟨rfl, j, rfl⟩
  go_wp2_with fail
  refine (H3.out _ _ (HB1.out.trans (Below.mono (B := w1.heap.size) (by repeat (first | (with_reducible exact Below.refl _ _) | (with_reducible refine Below.allocS ?_ _) | (with_reducible refine Below.moreS ?_ _) | (with_reducible refine Below.drew ?_) | (with_reducible refine below_drewN ?_ _))) HB1.out.size)) (by repeat (first | ((with_reducible apply Blk.at_); (simp; done)) | (with_reducible apply Blk.alloc) | (with_reducible apply Blk.more) | (with_reducible apply Blk.drew)))).mono ?_
  rintro e w3 ⟨rfl, j3, rfl⟩
  go_wp2_with fail
  go_ret
  exact ⟨rfl, (HB1.out.trans (Below.mono (B := w1.heap.size) (by repeat (first | (with_reducible exact Below.refl _ _) | (with_reducible refine Below.allocS ?_ _) | (with_reducible refine Below.moreS ?_ _) | (with_reducible refine Below.drew ?_) | (with_reducible refine below_drewN ?_ _))) HB1.out.size)).junk⟩
end Go.Proofs.YtfcklbiejlkafaaGreatDoor
/-
  Two rows of numbers compared: the document's.
-/
namespace Go.Proofs.YtfcklbiejlkafaaGreatDoor
set_option linter.unusedSimpArgs false
set_option linter.unusedVariables false
set_option linter.unusedSectionVars false
open Go.ChangeShapes Go.WideShapes Go.ChangeAt Go.RowKit Go.Deep

def sameI (a b : List Int) : Bool := a == b
set_option maxHeartbeats 4000000 in
set_option maxRecDepth 100000 in
theorem ref03_Same (a a' : Option Addr) (cap cap' : Nat) (l l' : List Int) (w0 w : World) (hm : l.length ≤ 1048576) (hm' : l'.length ≤ 1048576) (hb : Below w0.heap.size w0 w) (hs0 : SlI w0 w0.heap.size a l) (hs0' : SlI w0 w0.heap.size a' l') :
    Calls Tryz.prog 10 #[.slice a l.length cap, .slice a' l'.length cap'] w fun e w' => e = .returned (.bool (sameI l l')) ∧ ∃ j, w' = w.more j := by
  have hs := hs0.below hb (Nat.le_refl _)
  have hs' := hs0'.below hb (Nat.le_refl _)
  have hz := hb.size
  clear hb hs0 hs0'
  cases hne : ((l.length : Int) == (l'.length : Int)) with
  | false =>
    have hn2 : ((l.length : Int) != (l'.length : Int)) = true := by unfold bne; rw [hne]; rfl
    have hR : sameI l l' = false := by
      cases h : sameI l l' with
      | false => rfl
      | true => have : l = l' := by simpa [sameI] using h
                subst this; simp at hne
    rw [hR]
    go_enter Tryz.func10, Tryz.ntmps10
    go_wp2_with fail
    go_ret
    exact ⟨rfl, Below.junk (by repeat (first | (with_reducible exact Below.refl _ _) | (with_reducible refine Below.allocS ?_ _) | (with_reducible refine Below.moreS ?_ _) | (with_reducible refine Below.drew ?_) | (with_reducible refine below_drewN ?_ _)))⟩
  | true =>
    have hn2 : ((l.length : Int) != (l'.length : Int)) = false := by unfold bne; rw [hne]; rfl
    have hll : l.length = l'.length := by rw [beq_iff_eq] at hne; omega
    have HL := Lib.hid hll
    clear hll
    have HS : Hid (∀ k (h : k < l.length) (h' : k < l'.length), ¬ l[k] = l'[k] → sameI l l' = false) := fun k h h' hd => by
      cases hq : sameI l l' with
      | false => rfl
      | true => have : l = l' := by simpa [sameI] using hq
                subst this; exact absurd rfl hd
    have HT : Hid ((∀ k (h : k < l.length) (h' : k < l'.length), l[k] = l'[k]) → sameI l l' = true) := fun h => by
      have : l = l' := List.ext_getElem HL.out h
      simp [sameI, this]
    generalize sameI l l' = R at HS HT ⊢
    go_enter Tryz.func10, Tryz.ntmps10
    go_wp2_with fail
    go_loopw [5] (fun i wr => ∃ k : Nat, k ≤ l.length ∧ i = .int .i64 k ∧ (∃ j, wr = w.more j) ∧ Hid (∀ q (h : q < l.length) (h' : q < l'.length), q < k → l[q] = l'[q])) (fun i _ => l.length - (intOf i).toNat)
    case atStart => exact ⟨0, by omega, rfl, ⟨_, more_self w⟩, fun q _ _ h => absurd h (by omega)⟩
    case round =>
      obtain ⟨k, hk, rfl, ⟨j, rfl⟩, HQ⟩ := hrel
      by_cases hlt : k < l.length
      · have hlt' : k < l'.length := by have := HL.out; omega
        obtain ⟨b, off, rfl, hb, c0⟩ := hs.atI hlt
        obtain ⟨b', off', rfl, hb', c0'⟩ := hs'.atI hlt'
        have HD := Lib.hid (HS.out k hlt hlt')
        have HE : Hid (l[k] = l'[k] → ∀ q (h : q < l.length) (h' : q < l'.length), q < k + 1 → l[q] = l'[q]) := fun he q h h' hq => by
          by_cases hqk : q = k
          · subst hqk; exact he
          · exact HQ.out q h h' (by omega)
        clear HS HQ HT
        obtain ⟨x, ex⟩ : ∃ x, l[k] = x := ⟨_, rfl⟩
        obtain ⟨y, ey⟩ : ∃ y, l'[k] = y := ⟨_, rfl⟩
        rw [ex] at c0
        rw [ey] at c0'
        rw [ex, ey] at HD HE
        clear ex ey
        cases hq : (x == y)
        · have hq2 : (x != y) = true := by unfold bne; rw [hq]; rfl
          have hR := HD.out (by simpa using hq)
          subst hR
          have d0 : (w.more j).cell? ⟨b, off + k, none⟩ = some (.int .i64 x) := by rw [World.cell?_more _ _ _ (by omega)]; exact c0
          have d1 : (w.more j).cell? ⟨b', off' + k, none⟩ = some (.int .i64 y) := by rw [World.cell?_more _ _ _ (by omega)]; exact c0'
          have i1 : (k : Int) < l.length := by omega
          have i2 : (k : Int) < l'.length := by omega
          go_wp2_with fail
          go_quiet (fail)
          go_wp2_with fail
          go_ret
          exact ⟨rfl, Below.junk (by repeat (first | (with_reducible exact Below.refl _ _) | (with_reducible refine Below.allocS ?_ _) | (with_reducible refine Below.moreS ?_ _) | (with_reducible refine Below.drew ?_) | (with_reducible refine below_drewN ?_ _)))⟩
        · have hq2 : (x != y) = false := by unfold bne; rw [hq]; rfl
          have HE2 := Lib.hid (HE.out (by simpa using hq))
          have d0 : (w.more j).cell? ⟨b, off + k, none⟩ = some (.int .i64 x) := by rw [World.cell?_more _ _ _ (by omega)]; exact c0
          have d1 : (w.more j).cell? ⟨b', off' + k, none⟩ = some (.int .i64 y) := by rw [World.cell?_more _ _ _ (by omega)]; exact c0'
          have i1 : (k : Int) < l.length := by omega
          have i2 : (k : Int) < l'.length := by omega
          clear HE
          go_wp2_with fail
          go_quiet (fail)
          go_wp2_with fail
          go_roundw
          case rel => exact ⟨k + 1, hlt, by go_num, Below.junk (by repeat (first | (with_reducible exact Below.refl _ _) | (with_reducible refine Below.allocS ?_ _) | (with_reducible refine Below.moreS ?_ _) | (with_reducible refine Below.drew ?_) | (with_reducible refine below_drewN ?_ _))), HE2.out⟩
          case measure => simp [intOf]; omega
      · have hR := HT.out (fun q h h' => HQ.out q h h' (by omega))
        subst hR
        clear HS HT HQ
        go_wp2_with fail
        go_ret
        exact ⟨rfl, Below.junk (by repeat (first | (with_reducible exact Below.refl _ _) | (with_reducible refine Below.allocS ?_ _) | (with_reducible refine Below.moreS ?_ _) | (with_reducible refine Below.drew ?_) | (with_reducible refine below_drewN ?_ _)))⟩
end Go.Proofs.YtfcklbiejlkafaaGreatDoor
/-
  The statements RulesNames and RulesSets.
-/
namespace Go.Proofs.YtfcklbiejlkafaaGreatDoor
set_option linter.unusedSimpArgs false
set_option linter.unusedVariables false
set_option linter.unusedSectionVars false
open Go.ChangeShapes Go.WideShapes Go.ChangeAt Go.RowKit Go.Deep Go.Shelf

theorem alive38 {m : Int} {w : World} (hM : w.cell? MaxA = some (.int .i64 m)) : Alive38 w := fun W hW => law38_alive m W (max_keep hM hW)
theorem rulesNames_law (rule : Int) (s : List UInt8) (m : Int) (w : World) (h0 : -9223372036854775808 ≤ rule) (h1 : rule ≤ 9223372036854775807) (hms : s.length ≤ maxLen) (hM : w.cell? MaxA = some (.int .i64 m)) :
    Calls Tryz.prog 4 #[.int .i64 rule, bstr s] w fun e w' => e = .returned (.bool true) ∧ ∃ j, w' = w.more j := rulesNames_at rule s m w h0 h1 hms hM (alive38 hM)

theorem SlI.keep {w w' : World} {a : Option Addr} {l : List Int} (h : SlI w w.heap.size a l) (hb : Below w.heap.size w w') : SlI w' w'.heap.size a l := (h.below hb (Nat.le_refl _)).mono hb.size (fun _ _ _ h => h)
def TwoI (L : List Int) (w : World) (e : Ending) (w' : World) : Prop := ∃ a cap, e = .returned (.slice a L.length cap) ∧ SlI w' w'.heap.size a L ∧ Below w.heap.size w w'
def TwoB (L : List Int) (b : Bool) (w : World) (e : Ending) (w' : World) : Prop := ∃ a cap, e = .returned (.tuple #[.slice a L.length cap, .bool b]) ∧ SlI w' w'.heap.size a L ∧ Below w.heap.size w w'
theorem twoI_of {P : Program} {f : FuncId} {vs : Array Value} {w : World} {L : List Int} (h : Calls P f vs w fun e w' => ∃ v, e = .returned v ∧ OwnI w.heap.size w' v L ∧ Below w.heap.size w w') : Calls P f vs w (TwoI L w) :=
  h.mono fun e w' ⟨v, he, ho, hb⟩ => by
    obtain ⟨a, cap, rfl, hs⟩ := ho.readI
    exact ⟨a, cap, he, hs, hb⟩
theorem sameI_self (l : List Int) : sameI l l = true := by unfold sameI; exact beq_self_eq_true l
set_option maxHeartbeats 8000000 in
set_option maxRecDepth 100000 in
theorem rulesSets_law (a : Option Addr) (cap : Nat) (l : List Int) (s : List UInt8) (m : Int) (w : World) (hl63 : l.length ≤ maxLen) (_hg : ∀ n ∈ l, goodI n) (hS : SlI w w.heap.size a l) (hms : s.length ≤ maxLen) (hM : w.cell? MaxA = some (.int .i64 m)) :
    Calls Tryz.prog 3 #[.slice a l.length cap, bstr s] w fun e w' => e = .returned (.bool true) ∧ ∃ j, w' = w.more j := by
  have HAL : Hid (Alive38 w) := alive38 hM
  unfold maxLen at hms hl63
  by_cases g : 100 < l.length ∨ 500 < s.length
  · have hb : (100 : Int) < l.length ∨ (500 : Int) < s.length := by omega
    clear hM hS g _hg
    rcases hb with g1 | g1
    · go_enter Tryz.func3, Tryz.ntmps3
      go_wp2_with (go_at_call 5; (with_reducible refine (HAL.out _ (by repeat (first | (with_reducible exact Below.refl _ _) | (with_reducible refine Below.allocS ?_ _) | (with_reducible refine Below.moreS ?_ _) | (with_reducible refine Below.drew ?_) | (with_reducible refine below_drewN ?_ _)))).mono ?_); rintro e w' ⟨rfl, j, rfl⟩)
      all_goals
        go_ret
        exact ⟨rfl, Below.junk (by repeat (first | (with_reducible exact Below.refl _ _) | (with_reducible refine Below.allocS ?_ _) | (with_reducible refine Below.moreS ?_ _) | (with_reducible refine Below.drew ?_) | (with_reducible refine below_drewN ?_ _)))⟩
    · by_cases g2 : (100 : Int) < l.length
      all_goals
        go_enter Tryz.func3, Tryz.ntmps3
        go_wp2_with (go_at_call 5; (with_reducible refine (HAL.out _ (by repeat (first | (with_reducible exact Below.refl _ _) | (with_reducible refine Below.allocS ?_ _) | (with_reducible refine Below.moreS ?_ _) | (with_reducible refine Below.drew ?_) | (with_reducible refine below_drewN ?_ _)))).mono ?_); rintro e w' ⟨rfl, j, rfl⟩)
        all_goals
          go_ret
          exact ⟨rfl, Below.junk (by repeat (first | (with_reducible exact Below.refl _ _) | (with_reducible refine Below.allocS ?_ _) | (with_reducible refine Below.moreS ?_ _) | (with_reducible refine Below.drew ?_) | (with_reducible refine below_drewN ?_ _)))⟩
  have g1 : ¬ (100 : Int) < l.length := by omega
  have g2 : ¬ (500 : Int) < s.length := by omega
  have hl : l.length ≤ 100 := by omega
  have hs5 : s.length ≤ 500 := by omega
  have hF := ofR_len l
  have hY := setRD_len s
  have hT : (showR l).length ≤ 200000 := by
    unfold showR
    split
    · simp
    · have := join_leC 44 ((ofR l).map nameR) (fun x hx => by obtain ⟨n, _, rfl⟩ := List.mem_map.1 hx; exact Nat.le_trans (nameR_len n) (by omega))
      rw [List.length_map] at this
      omega
  have HOF : Hid (∀ W, Below w.heap.size w W → Calls Tryz.prog 6 #[.slice a l.length cap] W (TwoI (ofR l) W)) := fun W hW => twoI_of (rules_Of a l cap (by omega) m W (max_keep hM hW) (SlI.keep hS hW))
  have HOD : Hid (∀ W, Below w.heap.size w W → Calls Tryz.prog 11 #[.slice a l.length cap] W (TwoI (ofR l) W)) := fun W hW => twoI_of (ref38_Of a l cap (by omega) W (SlI.keep hS hW))
  have HSF : Hid (∀ W, Below w.heap.size w W → Calls Tryz.prog 7 #[.slice a l.length cap] W fun e w' => e = .returned (bstr (showR l)) ∧ ∃ j, w' = W.more j) := fun W hW => rules_Show a l cap (by omega) m W (max_keep hM hW) (SlI.keep hS hW)
  have HSD : Hid (∀ W, Below w.heap.size w W → Calls Tryz.prog 12 #[.slice a l.length cap] W fun e w' => e = .returned (bstr (showR l)) ∧ ∃ j, w' = W.more j) := fun W hW => ref38_Show a l cap (by omega) W (SlI.keep hS hW)
  have HR1 : Hid (∀ W, Below w.heap.size w W → Calls Tryz.prog 8 #[bstr (showR l)] W (TwoB (ofR l) true W)) := fun W hW => by
    have := rules_ReadSet (showR l) hT m W (max_keep hM hW)
    rw [setR_show] at this
    exact this
  have HR2 : Hid (∀ W, Below w.heap.size w W → Calls Tryz.prog 8 #[bstr s] W (TwoB (setRD s).1 (setRD s).2 W)) := fun W hW => by
    have := rules_ReadSet s (by omega) m W (max_keep hM hW)
    rw [setR_eq] at this
    exact this
  have HR3 : Hid (∀ W, Calls Tryz.prog 9 #[bstr s] W (TwoB (setRD s).1 (setRD s).2 W)) := fun W => ref38_ReadSet s (by omega) W
  generalize (setRD s).1 = Y at HR2 HR3 hY
  generalize (setRD s).2 = b at HR2 HR3
  generalize showR l = T at HSF HSD HR1
  generalize ofR l = F at HOF HOD HR1 hF
  have HSM1 : Hid (∀ W a1 c1 a2 c2, SlI W W.heap.size a1 F → SlI W W.heap.size a2 F → Calls Tryz.prog 10 #[.slice a1 F.length c1, .slice a2 F.length c2] W fun e w' => e = .returned (.bool true) ∧ ∃ j, w' = W.more j) := fun W a1 c1 a2 c2 h1 h2 => by
    have := ref03_Same a1 a2 c1 c2 F F W W (by omega) (by omega) (Below.refl _ _) h1 h2
    rw [sameI_self] at this
    exact this
  have HSM2 : Hid (∀ W a1 c1 a2 c2, SlI W W.heap.size a1 Y → SlI W W.heap.size a2 Y → Calls Tryz.prog 10 #[.slice a1 Y.length c1, .slice a2 Y.length c2] W fun e w' => e = .returned (.bool true) ∧ ∃ j, w' = W.more j) := fun W a1 c1 a2 c2 h1 h2 => by
    have := ref03_Same a1 a2 c1 c2 Y Y W W (by omega) (by omega) (Below.refl _ _) h1 h2
    rw [sameI_self] at this
    exact this
  clear hM hS g hms hT hF hY hl hs5 hl63 _hg
  go_enter Tryz.func3, Tryz.ntmps3
  go_wp2_with fail
  refine (HOF.out _ (Below.refl _ _)).mono ?_
  rintro e w1 ⟨a1, c1, rfl, hs1, hb1⟩
  have HS1 := Lib.hid hs1
  have HB1 := Lib.hid hb1
  clear hs1 hb1 HOF
  go_wp2_with fail
  refine (HSF.out _ HB1.out).mono ?_
  rintro e w2 ⟨rfl, j2, rfl⟩
  have HB2 : Hid (Below w.heap.size w (w1.more j2)) := HB1.out.trans (Below.mono (B := w1.heap.size) (by repeat (first | (with_reducible exact Below.refl _ _) | (with_reducible refine Below.allocS ?_ _) | (with_reducible refine Below.moreS ?_ _) | (with_reducible refine Below.drew ?_) | (with_reducible refine below_drewN ?_ _))) HB1.out.size)
  clear HSF
  go_wp2_with fail
  refine (HR1.out _ HB2.out).mono ?_
  rintro e w3 ⟨a3, c3, rfl, hs3, hb3⟩
  have HS3 := Lib.hid hs3
  have HB13 : Hid (Below w1.heap.size w1 w3) := by
    have h2 : Below w1.heap.size _ w3 := hb3.mono (by simp)
    refine Below.trans ?_ h2
    exact (by repeat (first | (with_reducible exact Below.refl _ _) | (with_reducible refine Below.allocS ?_ _) | (with_reducible refine Below.moreS ?_ _) | (with_reducible refine Below.drew ?_) | (with_reducible refine below_drewN ?_ _)))
  have HB3 : Hid (Below w.heap.size w w3) := HB1.out.trans (HB13.out.mono HB1.out.size)
  clear hs3 hb3 HR1 HB2
  go_wp2_with fail
  refine (HR2.out _ HB3.out).mono ?_
  rintro e w4 ⟨a4, c4, rfl, hs4, hb4⟩
  have HS4 := Lib.hid hs4
  have HB34 := Lib.hid hb4
  have HB4 : Hid (Below w.heap.size w w4) := HB3.out.trans (hb4.mono HB3.out.size)
  clear hs4 hb4 HR2
  go_wp2_with fail
  refine (HR3.out _).mono ?_
  rintro e w5 ⟨a5, c5, rfl, hs5, hb5⟩
  have HS5 := Lib.hid hs5
  have HB45 := Lib.hid hb5
  have HB5 : Hid (Below w.heap.size w w5) := HB4.out.trans (hb5.mono HB4.out.size)
  have HS45 := Lib.hid (SlI.keep HS4.out HB45.out)
  have HB35 : Hid (Below w3.heap.size w3 w5) := HB34.out.trans (HB45.out.mono HB34.out.size)
  have HS35 := Lib.hid (SlI.keep HS3.out HB35.out)
  have HB15 : Hid (Below w1.heap.size w1 w5) := HB13.out.trans (HB35.out.mono HB13.out.size)
  have HS15 := Lib.hid (SlI.keep HS1.out HB15.out)
  clear hs5 hb5 HR3 HS1 HS3 HS4 HB34 HB45 HB35 HB13
  go_wp2_with fail
  refine (HOD.out _ HB5.out).mono ?_
  rintro e w6 ⟨a6, c6, rfl, hs6, hb6⟩
  have HS6 := Lib.hid hs6
  have HB56 := Lib.hid hb6
  have HB6 : Hid (Below w.heap.size w w6) := HB5.out.trans (hb6.mono HB5.out.size)
  have HS16 := Lib.hid (SlI.keep HS15.out hb6)
  clear hs6 hb6
  go_wp2_with fail
  refine (HSM1.out _ _ _ _ _ HS16.out HS6.out).mono ?_
  rintro e w7 ⟨rfl, j7, rfl⟩
  have HB7 : Hid (Below w.heap.size w (w6.more j7)) := HB6.out.trans (Below.mono (B := w6.heap.size) (by repeat (first | (with_reducible exact Below.refl _ _) | (with_reducible refine Below.allocS ?_ _) | (with_reducible refine Below.moreS ?_ _) | (with_reducible refine Below.drew ?_) | (with_reducible refine below_drewN ?_ _))) HB6.out.size)
  have HB57 : Hid (Below w5.heap.size w5 (w6.more j7)) := HB56.out.trans (Below.mono (B := w6.heap.size) (by repeat (first | (with_reducible exact Below.refl _ _) | (with_reducible refine Below.allocS ?_ _) | (with_reducible refine Below.moreS ?_ _) | (with_reducible refine Below.drew ?_) | (with_reducible refine below_drewN ?_ _))) HB56.out.size)
  go_wp2_with fail
  refine (HSD.out _ HB7.out).mono ?_
  rintro e w8 ⟨rfl, j8, rfl⟩
  obtain ⟨w9, hw9⟩ : ∃ w9, w9 = (w6.more j7).more j8 := ⟨_, rfl⟩
  have HB9 : Hid (Below w.heap.size w w9) := by show Below _ _ _; rw [hw9]; exact HB7.out.trans (Below.mono (B := (w6.more j7).heap.size) (by repeat (first | (with_reducible exact Below.refl _ _) | (with_reducible refine Below.allocS ?_ _) | (with_reducible refine Below.moreS ?_ _) | (with_reducible refine Below.drew ?_) | (with_reducible refine below_drewN ?_ _))) HB7.out.size)
  have HB59 : Hid (Below w5.heap.size w5 w9) := by show Below _ _ _; rw [hw9]; exact HB57.out.trans (Below.mono (B := (w6.more j7).heap.size) (by repeat (first | (with_reducible exact Below.refl _ _) | (with_reducible refine Below.allocS ?_ _) | (with_reducible refine Below.moreS ?_ _) | (with_reducible refine Below.drew ?_) | (with_reducible refine below_drewN ?_ _))) HB57.out.size)
  rw [← hw9]
  clear hw9
  have HS39 := Lib.hid (SlI.keep HS35.out HB59.out)
  have HS19 := Lib.hid (SlI.keep HS15.out HB59.out)
  have HS49 := Lib.hid (SlI.keep HS45.out HB59.out)
  have HS59 := Lib.hid (SlI.keep HS5.out HB59.out)
  clear HSD HB7 HB57 HS16 HS6 HB56 HS35 HS15 HS45 HS5 HB59 HOD
  go_wp2_with fail
  refine (HSM1.out _ _ _ _ _ HS39.out HS19.out).mono ?_
  rintro e w10 ⟨rfl, j10, rfl⟩
  have HK1 := Lib.hid (SlI.keep HS49.out (Below.moreS (Below.refl w9.heap.size w9) j10))
  have HK2 := Lib.hid (SlI.keep HS59.out (Below.moreS (Below.refl w9.heap.size w9) j10))
  clear HS39 HS19 HSM1 HS49 HS59
  go_wp2_with fail
  refine (HSM2.out _ _ _ _ _ HK1.out HK2.out).mono ?_
  rintro e w11 ⟨rfl, j11, rfl⟩
  clear HK1 HK2 HSM2
  go_wp2_with fail
  refine (HAL.out _ (HB9.out.trans (Below.mono (B := w9.heap.size) (by repeat (first | (with_reducible exact Below.refl _ _) | (with_reducible refine Below.allocS ?_ _) | (with_reducible refine Below.moreS ?_ _) | (with_reducible refine Below.drew ?_) | (with_reducible refine below_drewN ?_ _))) HB9.out.size))).mono ?_
  rintro e w12 ⟨rfl, j12, rfl⟩
  go_wp2_with fail
  go_ret
  exact ⟨rfl, (HB9.out.trans (Below.mono (B := w9.heap.size) (by repeat (first | (with_reducible exact Below.refl _ _) | (with_reducible refine Below.allocS ?_ _) | (with_reducible refine Below.moreS ?_ _) | (with_reducible refine Below.drew ?_) | (with_reducible refine below_drewN ?_ _))) HB9.out.size)).junk⟩
end Go.Proofs.YtfcklbiejlkafaaGreatDoor
/-
  How the arguments of the laws read: bytes, texts.
-/
namespace Go.Proofs.YtfcklbiejlkafaaGreatDoor
set_option linter.unusedSimpArgs false
set_option linter.unusedVariables false
set_option linter.unusedSectionVars false
open Go.ChangeShapes Go.WideShapes Go.ChangeAt Go.RowKit Go.Deep
open Go.ChangeMaps (open_string shut_string)

theorem bounds_u8 {n : Int} (h : (Lit.int .u8 n).wf = true) : 0 ≤ n ∧ n ≤ 255 := by
  simp [Lit.wf, IntKind.min, IntKind.max, IntKind.signed, IntKind.bits] at h
  omega
theorem cells_u8 : Tryz.prog.cellsOf 5 = 1 := by kernel_rfl
theorem cells_text : Tryz.prog.cellsOf 9 = 1 := by kernel_rfl
section
variable {H : Type} {enc : TypeId × Value → H} {W : World} {sp : Nat → Bool}
set_option maxRecDepth 100000 in
theorem open_bytes {v : Value} {d : DataW H} {p : List MemPlace} {r : Reach} {base : Nat} (hv : Value.okWide Tryz.prog W r base 38 v) (h : DataW.Trod enc Tryz.prog W 0 sp true 38 v d p) :
    ∃ (a : Option Addr) (cap : Nat) (l : List UInt8), v = .slice a l.length cap ∧ l.length ≤ maxLen ∧ SlB W W.heap.size a l := by
  obtain ⟨a, len, cap, rfl⟩ := okWide_slice Tryz.underlying38 hv
  obtain ⟨fuel, hf⟩ := h
  obtain ⟨a', len', cap', l, hcs, hl, hc, hm, hs⟩ := slr_of_trod (R := byteIs) Tryz.underlying38 (by rw [cells_u8]; omega) (fun n cs y hl hy => by
    obtain ⟨x, f, _, hx⟩ := DataW.trod_int Tryz.underlying5 hy
    have hb := bounds_u8 hx
    refine ⟨UInt8.ofNat x.toNat, ?_⟩
    unfold byteIs
    rw [f]
    have : ((UInt8.ofNat x.toNat).toNat : Int) = x := by rw [UInt8.toNat_ofNat']; omega
    rw [this]) hf
  simp only [Value.cells, List.cons.injEq, Value.slice.injEq, and_true] at hcs
  obtain ⟨rfl, rfl, rfl⟩ := hcs
  rw [cells_u8] at hs
  exact ⟨a, cap, l, by rw [hl], by omega, hs⟩
set_option maxRecDepth 100000 in
theorem open_texts {v : Value} {d : DataW H} {p : List MemPlace} {r : Reach} {base : Nat} (hv : Value.okWide Tryz.prog W r base 42 v) (h : DataW.Trod enc Tryz.prog W 0 sp true 42 v d p) :
    ∃ (a : Option Addr) (cap : Nat) (l : List (List UInt8)), v = .slice a l.length cap ∧ l.length ≤ cap ∧ l.length ≤ maxLen ∧ SlX W W.heap.size a l := by
  obtain ⟨a, len, cap, rfl⟩ := okWide_slice Tryz.underlying42 hv
  obtain ⟨fuel, hf⟩ := h
  obtain ⟨a', len', cap', l, hcs, hl, hc, hm, hs⟩ := slr_of_trod (R := txtIs) Tryz.underlying42 (by rw [cells_text]; omega) (fun n cs y hl hy => by
    obtain ⟨s, f, _, hx⟩ := DataW.trod_string Tryz.underlying9 hy
    exact ⟨s.data.toList, f, by rw [Array.length_toList]; exact hx⟩) hf
  simp only [Value.cells, List.cons.injEq, Value.slice.injEq, and_true] at hcs
  obtain ⟨rfl, rfl, rfl⟩ := hcs
  rw [cells_text] at hs
  exact ⟨a, cap, l, by rw [hl], by omega, by omega, hs⟩
end
end Go.Proofs.YtfcklbiejlkafaaGreatDoor
/-
  How the arguments of the laws read: numbers.
-/
namespace Go.Proofs.YtfcklbiejlkafaaGreatDoor
set_option linter.unusedSimpArgs false
set_option linter.unusedVariables false
set_option linter.unusedSectionVars false
open Go.ChangeShapes Go.WideShapes Go.ChangeAt Go.RowKit Go.Deep
open Go.ChangeMaps (open_string shut_string)

theorem cells_int : Tryz.prog.cellsOf 3 = 1 := by kernel_rfl
section
variable {H : Type} {enc : TypeId × Value → H} {W : World} {sp : Nat → Bool}
set_option maxRecDepth 100000 in
theorem open_ints {v : Value} {d : DataW H} {p : List MemPlace} {r : Reach} {base : Nat} (hv : Value.okWide Tryz.prog W r base 22 v) (h : DataW.Trod enc Tryz.prog W 0 sp true 22 v d p) :
    ∃ (a : Option Addr) (cap : Nat) (l : List Int), v = .slice a l.length cap ∧ l.length ≤ cap ∧ l.length ≤ maxLen ∧ (∀ n ∈ l, goodI n) ∧ SlI W W.heap.size a l := by
  obtain ⟨a, len, cap, rfl⟩ := okWide_slice Tryz.underlying22 hv
  obtain ⟨fuel, hf⟩ := h
  obtain ⟨a', len', cap', l, hcs, hl, hc, hm, hs⟩ := slr_of_trod (R := fun x cs => intIs x cs ∧ goodI x) Tryz.underlying22 (by rw [cells_int]; omega) (fun n cs y hl hy => by
    obtain ⟨x, f, _, hx⟩ := DataW.trod_int Tryz.underlying3 hy
    exact ⟨x, f, bounds_i64 hx⟩) hf
  simp only [Value.cells, List.cons.injEq, Value.slice.injEq, and_true] at hcs
  obtain ⟨rfl, rfl, rfl⟩ := hcs
  rw [cells_int] at hs
  refine ⟨a, cap, l, by rw [hl], by omega, by omega, fun n hn => ?_, hs.mono (Nat.le_refl _) (fun _ _ _ h => h.1)⟩
  obtain ⟨k, hk, rfl⟩ := List.getElem_of_mem hn
  obtain ⟨_, _, _, _, _, hr, _⟩ := hs k hk
  exact hr.2
end
end Go.Proofs.YtfcklbiejlkafaaGreatDoor
