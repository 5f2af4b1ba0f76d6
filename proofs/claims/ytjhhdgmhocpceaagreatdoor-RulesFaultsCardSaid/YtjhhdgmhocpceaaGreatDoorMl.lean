/-
  Parts of the proof, one behind the other: contracts of the program and plain laws; no condition of their own.
-/
import Derived.Test.YtjhhdgmhocpceaaGreatDoorMk
import Derived.Test.YtjhhdgmhocpceaaGreatDoorMc
import Derived.Test.YtjhhdgmhocpceaaGreatDoorMd
import Derived.Test.YtjhhdgmhocpceaaGreatDoorMi
import Derived.Test.YtjhhdgmhocpceaaGreatDoorMh
import Derived.Test.YtjhhdgmhocpceaaGreatDoorMg
/-
  Faults: codes and their names, both roads.
-/
namespace Go.Proofs.YtjhhdgmhocpceaaGreatDoor
set_option linter.unusedSimpArgs false
set_option linter.unusedVariables false
set_option linter.unusedSectionVars false
open Go.ChangeShapes Go.WideShapes Go.ChangeAt Go.RowKit Go.Deep Go.Shelf

def NamesM (n : Nat) (f : Nat → List UInt8) (w : World) (e : Ending) (w' : World) : Prop := ∃ g j, e = .returned (.slice (some ⟨g, 0, none⟩) n n) ∧ (∀ k, k < n → w'.cell? ⟨g, k, none⟩ = some (bstr (f k))) ∧ g < w'.heap.size ∧ w' = w.more j
theorem names_more {n : Nat} {f : Nat → List UInt8} {w : World} {t : TypeId} {cs : Array Value} (h : ∀ k, k < n → cs[k]? = some (bstr (f k))) : NamesM n f w (.returned (.slice (some ⟨w.heap.size, 0, none⟩) n n)) (w.alloc (.cells cs t)) := by
  obtain ⟨j, hj⟩ : ∃ j, w.alloc (.cells cs t) = w.more j := Below.junk bel
  exact ⟨_, j, rfl, fun k hk => (Blk.new w t cs).cell k |>.trans (h k hk), by simp, hj⟩
set_option maxRecDepth 100000 in
theorem ref09_names (w : World) : Calls Tryz.prog 62 #[] w (NamesM 14 cdName w) := by
  go_enter Tryz.func62, Tryz.ntmps62
  go_wp2_with fail
  go_ret
  refine names_more (cs := (cdNames.map bstr).toArray) fun k hk => ?_
  simp [cdName_lit ⟨k, hk⟩]

set_option maxHeartbeats 2000000 in
set_option maxRecDepth 100000 in
theorem ref09_CodeName (t : Int) (w : World) : Calls Tryz.prog 37 #[.int .i64 t] w fun e w' => e = .returned (bstr (codeN t)) ∧ ∃ j, w' = w.more j := by
  by_cases h : t < 0 ∨ 4294967295 < t
  · rw [codeN_out h]
    rcases h with h | h
    · go_enter Tryz.func37, Tryz.ntmps37
      go_wp2_with fail
      go_ret
      exact ⟨rfl, Below.junk bel⟩
    · have h1 : 4294967296 ≤ t := by omega
      have h2 : ¬ t < 0 := by omega
      go_enter Tryz.func37, Tryz.ntmps37
      go_wp2_with fail
      go_ret
      exact ⟨rfl, Below.junk bel⟩
  · have h0 : ¬ t < 0 := by omega
    have h1 : ¬ 4294967296 ≤ t := by omega
    by_cases h14 : t < 14
    · obtain ⟨k, rfl⟩ : ∃ k : Nat, t = (k : Int) := ⟨t.toNat, by omega⟩
      rw [codeN_lo (by omega) h14]
      generalize hT : cdAt (k : Int) = T
      have HN := Lib.hid (ref09_names w)
      have hk : k < 14 := by omega
      clear h
      go_enter Tryz.func37, Tryz.ntmps37
      go_wp2_with fail
      refine HN.out.mono ?_
      rintro e w' ⟨g, j, rfl, hc, hg, rfl⟩
      have c0 : (w.more j).cell? ⟨g, k, none⟩ = some (bstr T) := by rw [← hT]; exact hc k hk
      clear hc hk hT
      go_wp2_with fail
      go_ret
      exact ⟨rfl, Below.junk bel⟩
    · rw [codeN_hi (by omega) (by omega)]
      have HT : Hid (∀ W, Calls Tryz.prog 63 #[.int .i64 t] W fun e w' => e = .returned (bstr (Lib.itoa t)) ∧ W = w') := fun W => ref03_Text t (by omega) (by omega) W
      generalize Lib.itoa t = T at HT ⊢
      clear h
      go_enter Tryz.func37, Tryz.ntmps37
      go_wp2_with (go_at_call 63; (with_reducible refine (HT.out _).mono ?_); rintro e w' ⟨rfl, rfl⟩)
      go_ret
      exact ⟨rfl, Below.junk bel⟩
theorem scan_stepC (f : Int → List UInt8) (s : List UInt8) (g : Nat) (t : Int) : scanF f s (g + 1) t = if f t = s then (t, true) else scanF f s g (t + 1) := rfl
theorem code_hit {s : List UInt8} {t : Int} (h : scanF cdAt s 14 0 = (t, true)) : codeOf s = (t, true) := by unfold codeOf; rw [h, if_pos rfl]
theorem code_miss {s : List UInt8} (h : scanF cdAt s 14 0 = (0, false)) : codeOf s = if (readF s).2 = true ∧ 14 ≤ (readF s).1 ∧ (readF s).1 ≤ 4294967295 then ((readF s).1, true) else (0, false) := by unfold codeOf; rw [h, if_neg (by simp)]

end Go.Proofs.YtjhhdgmhocpceaaGreatDoor
/-
  Faults: their texts, and sets' texts: the document's.
-/
namespace Go.Proofs.YtjhhdgmhocpceaaGreatDoor
set_option linter.unusedSimpArgs false
set_option linter.unusedVariables false
set_option linter.unusedSectionVars false
open Go.ChangeShapes Go.WideShapes Go.ChangeAt Go.RowKit Go.Deep Go.Shelf

set_option maxHeartbeats 2000000 in
set_option maxRecDepth 100000 in
theorem ref09_Text (s c : Int) (w : World) : Calls Tryz.prog 23 #[.agg #[.int .i64 s, .int .i64 c]] w fun e w' => e = .returned (bstr (textW ⟨s, c⟩)) ∧ ∃ j, w' = w.more j := by
  have HQ : Hid (∀ W, Calls Tryz.prog 20 #[.agg #[.int .i64 s, .int .i64 c]] W fun e w' => e = .returned (.bool (flR ⟨s, c⟩)) ∧ ∃ j, w' = W.more j) := ref09_Right s c
  have HC : Hid (∀ W, Calls Tryz.prog 37 #[.int .i64 c] W fun e w' => e = .returned (bstr (codeN c)) ∧ ∃ j, w' = W.more j) := ref09_CodeName c
  have HW : Hid (textW ⟨s, c⟩ = if flR ⟨s, c⟩ = true then scopeW s ++ 58 :: codeN c else []) := rfl
  have hl2 := codeN_len c
  generalize textW ⟨s, c⟩ = T at HW ⊢
  generalize flR ⟨s, c⟩ = r at HQ HW
  cases r
  · have HR : Hid (T = []) := by show _ = _; rw [HW.out, if_neg (by simp)]
    clear HW HC
    go_enter Tryz.func23, Tryz.ntmps23
    go_wp2_with fail
    refine (HQ.out _).mono ?_
    rintro e w' ⟨rfl, j, rfl⟩
    go_wp2_with fail
    go_ret
    exact ⟨by rw [HR.out]; rfl, Below.junk bel⟩
  · have HR : Hid (T = scopeW s ++ 58 :: codeN c) := by show _ = _; rw [HW.out, if_pos rfl]
    clear HW
    generalize codeN c = Q at HR HC hl2
    cases h1 : (s == 1)
    · have hs : ¬ s = 1 := by simpa using h1
      have HR2 : Hid (T = [99, 111, 110, 110, 101, 99, 116, 105, 111, 110, 58] ++ Q) := by show _ = _; rw [HR.out]; unfold scopeW; rw [if_neg hs]; rfl
      clear HR hs
      go_enter Tryz.func23, Tryz.ntmps23
      go_wp2_with fail
      refine (HQ.out _).mono ?_
      rintro e w' ⟨rfl, j, rfl⟩
      go_wp2_with (go_at_call 37; (with_reducible refine (HC.out _).mono ?_); rintro e w' ⟨rfl, j, rfl⟩)
      go_ret
      exact ⟨by rw [HR2.out]; rfl, Below.junk bel⟩
    · obtain rfl : s = 1 := by simpa using h1
      have HR2 : Hid (T = [115, 116, 114, 101, 97, 109, 58] ++ Q) := by show _ = _; rw [HR.out]; rfl
      clear HR h1
      go_enter Tryz.func23, Tryz.ntmps23
      go_wp2_with fail
      refine (HQ.out _).mono ?_
      rintro e w' ⟨rfl, j, rfl⟩
      go_wp2_with (go_at_call 37; (with_reducible refine (HC.out _).mono ?_); rintro e w' ⟨rfl, j, rfl⟩)
      go_ret
      exact ⟨by rw [HR2.out]; rfl, Below.junk bel⟩

theorem show_step (S : List Fl) (k : Nat) (hk : k < S.length) (h0 : 0 < k) : Lib.join ((S.take (k + 1)).map textW) [44] = Lib.join ((S.take k).map textW) [44] ++ [44] ++ textW S[k] := by
  rw [List.map_take, List.map_take, take_join_c 44 _ k (by simpa using hk), if_neg (by omega)]
  simp
set_option maxHeartbeats 8000000 in
set_option maxRecDepth 100000 in
theorem ref09_Show (a : Option Addr) (l : List Fl) (cap : Nat) (hl : l.length ≤ 100000) (w : World) (hS : SlFl w w.heap.size a l) :
    Calls Tryz.prog 9 #[.slice a l.length cap] w fun e w' => e = .returned (bstr (showW l)) ∧ ∃ j, w' = w.more j := by
  have HO := Lib.hid (ref09_Of a l cap (by omega) w hS)
  have hlen := ofF_len l
  have HW : Hid (showW l = if ofF l = [] then [45] else Lib.join ((ofF l).map textW) [44]) := rfl
  generalize ofF l = S at HO HW hlen
  generalize showW l = R at HW ⊢
  clear hS
  go_enter Tryz.func9, Tryz.ntmps9
  go_wp2_with fail
  refine HO.out.mono ?_
  rintro e w1 ⟨a1, cap1, rfl, hcap1, hs1, hb1⟩
  have HS1 := Lib.hid hs1
  have HB1 := Lib.hid hb1
  have HL := Lib.hid hlen
  clear hs1 hb1 hcap1
  cases hS : S with
  | nil =>
    have hr : R = [45] := by rw [HW.out, if_pos hS]
    subst hS hr
    clear HW HS1 HL
    go_wp2_with fail
    go_ret
    exact ⟨rfl, HB1.out.junk⟩
  | cons x0 r0 =>
  have h0 : 0 < S.length := by rw [hS]; simp
  have hR : R = Lib.join ((S.take S.length).map textW) [44] := by rw [HW.out, if_neg (by rw [hS]; simp), List.take_length]
  have HR := Lib.hid hR
  rw [← hS]
  have HZ : Hid (textW S[0] = Lib.join ((S.take 1).map textW) [44]) := by
    show _ = _
    rw [show S.take 1 = S.take 0 ++ [S[0]] from List.take_succ_eq_append_getElem h0]
    simp [Lib.join_one]
  obtain ⟨b, off, ha, hbb, c00, c01⟩ := SlR.atFl HS1.out h0
  subst ha
  simp only [Nat.zero_mul, Nat.add_zero] at c00 c01
  have HT0 : Hid (∀ W, Calls Tryz.prog 23 #[.agg #[.int .i64 S[0].scope, .int .i64 S[0].code]] W fun e w' => e = .returned (bstr (textW S[0])) ∧ ∃ j, w' = W.more j) := fun W => ref09_Text _ _ W
  have hlen0 := textW_len S[0]
  have hne : ¬ S.length = 0 := by omega
  have hnb : ((S.length : Int) == 0) = false := by rw [beq_eq_false_iff_ne]; omega
  generalize textW S[0] = t0 at HZ HT0 hlen0
  generalize S[0] = x at c00 c01 HT0
  obtain ⟨xs, xc⟩ := x
  clear HW hR hS
  go_wp2_with fail
  refine (HT0.out _).mono ?_
  rintro e w2 ⟨rfl, j0, rfl⟩
  go_wp2_with fail
  go_loopg [4, 5] S.length (fun g v i wr => ∃ (k : Nat) (acc : List UInt8), k + g = S.length + 1 ∧ 1 ≤ k ∧ k ≤ S.length ∧ i = .int .i64 k ∧ v = bstr acc ∧ acc.length ≤ 32 * k ∧ Hid (acc = Lib.join ((S.take k).map textW) [44]) ∧ ∃ j, wr = w1.more j)
  case atStart => exact ⟨1, t0, by omega, Nat.le_refl _, h0, rfl, rfl, by omega, HZ, ⟨j0, rfl⟩⟩
  case round =>
    obtain ⟨k, acc, hkg, hk1, hk2, rfl, rfl, hacc, HA, j, rfl⟩ := hrel
    have HK := Lib.hid hkg
    by_cases hlt : k < S.length
    · obtain ⟨b', off', ha, hbb2, d0, d1⟩ := SlR.atFl HS1.out hlt
      injection ha with ha
      injection ha with ha1 ha2
      subst ha1 ha2
      have HT : Hid (∀ W, Calls Tryz.prog 23 #[.agg #[.int .i64 S[k].scope, .int .i64 S[k].code]] W fun e w' => e = .returned (bstr (textW S[k])) ∧ ∃ j, w' = W.more j) := fun W => ref09_Text _ _ W
      have hlk := textW_len S[k]
      have HU : Hid (acc ++ [44] ++ textW S[k] = Lib.join ((S.take (k + 1)).map textW) [44]) := by show _ = _; rw [HA.out, ← show_step S k hlt hk1]
      generalize textW S[k] = t at HT HU hlk
      generalize S[k] = x at d0 d1 HT
      obtain ⟨xs, xc⟩ := x
      clear HA hkg
      go_wp2_with fail
      refine (HT.out _).mono ?_
      rintro e w3 ⟨rfl, j3, rfl⟩
      go_wp2_with fail
      go_roundg (S.length - k)
      case measure => have := HK.out; omega
      case rel => exact ⟨k + 1, acc ++ [44] ++ t, by have := HK.out; omega, by omega, by omega, by go_num, by simp, by simp; omega, HU, Below.junk bel⟩
    · have hr : R = acc := by rw [HR.out, HA.out, show k = S.length by omega]
      subst hr
      clear HA hkg
      go_wp2_with fail
      go_ret
      exact ⟨rfl, (HB1.out.trans ((Below.refl w1.heap.size w1).moreS j |>.mono HB1.out.size)).junk⟩
end Go.Proofs.YtjhhdgmhocpceaaGreatDoor
/-
  Rules: the chapter's examples.
-/
namespace Go.Proofs.YtjhhdgmhocpceaaGreatDoor
set_option linter.unusedSimpArgs false
set_option linter.unusedVariables false
set_option linter.unusedSectionVars false
open Go.ChangeShapes Go.WideShapes Go.ChangeAt Go.RowKit Go.Deep Go.Shelf

theorem slFl_one {w : World} {g : Nat} {t : TypeId} {s c : Int} (h : Blk w g t #[.int .i64 s, .int .i64 c]) : SlFl w w.heap.size (some ⟨g, 0, none⟩) [⟨s, c⟩] :=
  (SlR.of_blk (c := Fl.cells) (size := 2) (R := fun x cs => cs = Fl.cells x) (l := [⟨s, c⟩]) h rfl (fun _ _ => rfl) (fun x hx => rfl)).mono h.lt (fun _ _ _ h => h)
def OneP (s c : Int) (w : World) (e : Ending) (w' : World) : Prop := ∃ g, e = .returned (.slice (some ⟨g, 0, none⟩) 1 1) ∧ SlFl w' w'.heap.size (some ⟨g, 0, none⟩) [⟨s, c⟩] ∧ Below w.heap.size w w'
set_option maxRecDepth 100000 in
theorem rules_one_conn (k : Int) (w : World) : Calls Tryz.prog 11 #[.bool true, .int .i64 k] w (OneP 2 k w) := by
  go_enter Tryz.func11, Tryz.ntmps11
  go_wp2_with fail
  go_ret
  exact ⟨_, rfl, slFl_one (s := 2) (c := k) blk, bel⟩
set_option maxRecDepth 100000 in
theorem rules_one_stream (k : Int) (w : World) : Calls Tryz.prog 11 #[.bool false, .int .i64 k] w (OneP 1 k w) := by
  go_enter Tryz.func11, Tryz.ntmps11
  go_wp2_with fail
  go_ret
  exact ⟨_, rfl, slFl_one (s := 1) (c := k) blk, bel⟩
def TwoP (l : List Fl) (w : World) (e : Ending) (w' : World) : Prop := ∃ a cap, e = .returned (.slice a l.length cap) ∧ SlFl w' w'.heap.size a l ∧ Below w.heap.size w w'
set_option maxHeartbeats 4000000 in
set_option maxRecDepth 100000 in
theorem rules_few14 (w : World) : Calls Tryz.prog 16 #[.int .i64 14] w (TwoP [⟨1, 5⟩, ⟨2, 5⟩] w) := by
  have H1 : Hid (∀ W, Calls Tryz.prog 11 #[.bool true, .int .i64 5] W (OneP 2 5 W)) := rules_one_conn 5
  have H2 : Hid (∀ W, Calls Tryz.prog 11 #[.bool false, .int .i64 5] W (OneP 1 5 W)) := rules_one_stream 5
  have hof : ofF ([⟨2, 5⟩] ++ [⟨1, 5⟩]) = [⟨1, 5⟩, ⟨2, 5⟩] := by decide +kernel
  go_enter Tryz.func16, Tryz.ntmps16
  go_wp2_with fail
  refine (H1.out _).mono ?_
  rintro e w1 ⟨g1, rfl, hs1, hb1⟩
  have HS1 := Lib.hid hs1
  have HB1 := Lib.hid hb1
  clear hs1 hb1
  go_wp2_with fail
  refine (H2.out _).mono ?_
  rintro e w2 ⟨g2, rfl, hs2, hb2⟩
  have HU := Lib.hid (faults_Union (some ⟨g1, 0, none⟩) (some ⟨g2, 0, none⟩) [⟨2, 5⟩] [⟨1, 5⟩] 1 1 (by simp) (by simp) w2 (SlFl.keep HS1.out hb2) hs2)
  have HB2 := Lib.hid (HB1.out.trans (hb2.mono HB1.out.size))
  rw [hof] at HU
  clear hs2 hb2 HS1 hof
  go_wp2_with fail
  refine HU.out.mono ?_
  rintro e w3 ⟨a3, c3, rfl, _, hs3, hb3⟩
  have HS3 := Lib.hid hs3
  have HB3 := Lib.hid (HB2.out.trans (hb3.mono HB2.out.size))
  clear hs3 hb3
  go_wp2_with fail
  go_ret
  exact ⟨_, _, rfl, HS3.out, HB3.out⟩
def rawZ : Value := .agg #[.int .i64 0, .int .i64 0, .int .i64 0, .int .i64 0, .bool false, .slice none 0 0]
set_option maxHeartbeats 4000000 in
set_option maxRecDepth 100000 in
theorem rules_Faults14 (w : World) : Calls Tryz.prog 5 #[.int .i64 14, .agg #[.int .i64 0, .int .i64 0, .int .i64 0, .int .i64 0, .bool false, .slice none 0 0]] w (TwoP [⟨1, 5⟩, ⟨2, 5⟩] w) := by
  have H1 : Hid (∀ W, Calls Tryz.prog 16 #[.int .i64 14] W (TwoP [⟨1, 5⟩, ⟨2, 5⟩] W)) := rules_few14
  go_enter Tryz.func5, Tryz.ntmps5
  go_wp2_with fail
  refine (H1.out _).mono ?_
  rintro e w1 ⟨a1, c1, rfl, hs1, hb1⟩
  have HS1 := Lib.hid hs1
  have HB1 : Hid (Below w.heap.size w w1) := by
    have h2 : Below w.heap.size _ w1 := hb1.mono (by simp)
    refine Below.trans ?_ h2
    exact bel
  clear hs1 hb1
  go_wp2_with fail
  go_ret
  exact ⟨_, _, rfl, HS1.out, HB1.out⟩
theorem show_two : showW [⟨1, 5⟩, ⟨2, 5⟩] = [115, 116, 114, 101, 97, 109, 58, 83, 84, 82, 69, 65, 77, 95, 67, 76, 79, 83, 69, 68, 44, 99, 111, 110, 110, 101, 99, 116, 105, 111, 110, 58, 83, 84, 82, 69, 65, 77, 95, 67, 76, 79, 83, 69, 68] := by decide +kernel
theorem show_rules : showR [19, 3] = [115, 105, 122, 101, 44, 99, 111, 110, 110] := by decide +kernel
theorem slI_new {w : World} {g : Nat} {t : TypeId} {x y : Int} (h : Blk w g t #[.int .i64 x, .int .i64 y]) : SlI w w.heap.size (some ⟨g, 0, none⟩) [x, y] :=
  (SlR.of_blk (c := fun n => [.int .i64 n]) (size := 1) (R := intIs) (l := [x, y]) h rfl (fun _ _ => rfl) (fun x hx => rfl)).mono h.lt (fun _ _ _ h => h)
set_option maxHeartbeats 4000000 in
set_option maxRecDepth 100000 in
theorem law38_alive (m : Int) (w : World) (hM : w.cell? MaxA = some (.int .i64 m)) : Calls Tryz.prog 4 #[] w fun e w' => e = .returned (.bool true) ∧ ∃ j, w' = w.more j := by
  have H1 := Lib.hid (rules_Faults14 w)
  have H2 : Hid (∀ W a c, SlFl W W.heap.size a [⟨1, 5⟩, ⟨2, 5⟩] → Calls Tryz.prog 9 #[.slice a 2 c] W fun e w' => e = .returned (bstr [115, 116, 114, 101, 97, 109, 58, 83, 84, 82, 69, 65, 77, 95, 67, 76, 79, 83, 69, 68, 44, 99, 111, 110, 110, 101, 99, 116, 105, 111, 110, 58, 83, 84, 82, 69, 65, 77, 95, 67, 76, 79, 83, 69, 68]) ∧ ∃ j, w' = W.more j) := fun W a c h => by
    have := ref09_Show a [⟨1, 5⟩, ⟨2, 5⟩] c (by simp) W h
    rw [show_two] at this
    exact this
  have H3 : Hid (∀ W g, Below w.heap.size w W → Blk W g 3 #[.int .i64 19, .int .i64 3] → Calls Tryz.prog 10 #[.slice (some ⟨g, 0, none⟩) 2 2] W fun e w' => e = .returned (bstr [115, 105, 122, 101, 44, 99, 111, 110, 110]) ∧ ∃ j, w' = W.more j) := fun W g hW hb => by
    have := rules_Show (some ⟨g, 0, none⟩) [19, 3] 2 (by simp) m W (max_keep hM hW) (slI_new hb)
    rw [show_rules] at this
    exact this
  clear hM
  go_enter Tryz.func4, Tryz.ntmps4
  go_wp2_with fail
  refine H1.out.mono ?_
  rintro e w1 ⟨a1, c1, rfl, hs1, hb1⟩
  have HS2 := Lib.hid (H2.out w1 a1 c1 hs1)
  have HB1 := Lib.hid hb1
  clear hs1 hb1
  go_wp2_with fail
  refine HS2.out.mono ?_
  rintro e w2 ⟨rfl, j, rfl⟩
  go_wp2_with fail
  refine (H3.out _ _ (HB1.out.trans (Below.mono (B := w1.heap.size) bel HB1.out.size)) blk).mono ?_
  rintro e w3 ⟨rfl, j3, rfl⟩
  go_wp2_with fail
  go_ret
  exact ⟨rfl, (HB1.out.trans (Below.mono (B := w1.heap.size) bel HB1.out.size)).junk⟩
end Go.Proofs.YtjhhdgmhocpceaaGreatDoor
/-
  How it may be told that a rule is broken: the program's looks at the frame itself.
-/
namespace Go.Proofs.YtjhhdgmhocpceaaGreatDoor
set_option linter.unusedSimpArgs false
set_option linter.unusedVariables false
set_option linter.unusedSectionVars false
open Go.ChangeShapes Go.WideShapes Go.ChangeAt Go.RowKit Go.Deep Go.Shelf

/-- A parsed frame's cells, the world grown. -/
def FmM (w : World) (f : Fm) (q : Int × Int) (v : Int) (e : Ending) (w' : World) : Prop := ∃ da dc sa sc, e = .returned (.tuple #[.agg (fmC f.ty f.fl f.st f.pad da f.data.length dc sa f.sets.length sc f.wt f.pa f.al f.pr f.la f.co f.sp), fuV q, .int .i64 v]) ∧ SlG w' w'.heap.size sa f.sets ∧ ∃ j, w' = w.more j
theorem frame_ParseM (fr ty fl st : Int) (rs : Bool) (a : Option Addr) (c : Nat) (l : List UInt8) (hl : l.length ≤ 1048576) (w : World) (h : SlB w w.heap.size a l) :
    Calls Tryz.prog 30 #[rawV fr ty fl st rs a l.length c] w (FmM w (parseF ty fl st l).1.1 (parseF ty fl st l).1.2 (parseF ty fl st l).2) :=
  (frame_Parse fr ty fl st rs a c l hl w h).mono fun e w' ⟨cs, he, ⟨da, dc, sa, sc, hcs, h1, h2, h3, h4, h5, h6⟩, hb⟩ => ⟨da, dc, sa, sc, by rw [he, hcs], h4, hb.junk⟩
set_option maxRecDepth 100000 in
theorem rules_form (fr ty fl st : Int) (rs : Bool) (a : Option Addr) (c : Nat) (l : List UInt8) (hl : l.length ≤ 1048576) (w : World) (h : SlB w w.heap.size a l) :
    Calls Tryz.prog 14 #[rawV fr ty fl st rs a l.length c] w (FauP (parseF ty fl st l).1.2 w) := by
  have HP : Hid (∀ W, Below w.heap.size w W → Calls Tryz.prog 30 #[rawV fr ty fl st rs a l.length c] W (FmM W (parseF ty fl st l).1.1 (parseF ty fl st l).1.2 (parseF ty fl st l).2)) := fun W hW => frame_ParseM fr ty fl st rs a c l hl W (h.grow hW)
  unfold FauP
  generalize parseF ty fl st l = R at HP ⊢
  obtain ⟨⟨⟨ty', fl', st', pad, data, sets, wt, pa, al, pr, la, co, sp⟩, q1, q2⟩, ev⟩ := R
  unfold FmM at HP
  simp only at HP ⊢
  clear h
  go_enter Tryz.func14, Tryz.ntmps14
  go_wp2_with fail
  refine (HP.out _ bel).mono ?_
  rintro e w' ⟨da, dc, sa, sc, rfl, -, j, rfl⟩
  go_wp2_with fail
  refine bodyPost_ret (res_cell rfl st_Fu rfl blk rfl) rfl ⟨rfl, Below.junk bel⟩
/-- The settings' fault of a frame. -/
def valF (fr ty fl st : Int) (l : List UInt8) : Int × Int := if (parseF ty fl st l).2 = 0 then (scopeOf (chkS fr (parseF ty fl st l).1.1.sets), chkS fr (parseF ty fl st l).1.1.sets) else (0, 0)
theorem ins_sets {ty fl st : Int} {l : List UInt8} : (insF ty fl st l).1.sets.length ≤ l.length := by
  unfold insF
  dsimp only
  repeat' split
  all_goals first | exact Nat.zero_le _ | (show (setsF l).length ≤ _; unfold setsF setsK; simp; omega)
theorem parse_sets {ty fl st : Int} {l : List UInt8} : (parseF ty fl st l).1.1.sets.length ≤ l.length := by
  unfold parseF
  repeat' split
  all_goals first | exact Nat.zero_le _ | exact ins_sets
set_option maxRecDepth 100000 in
theorem rules_value (fr ty fl st : Int) (rs : Bool) (a : Option Addr) (c : Nat) (l : List UInt8) (hl : l.length ≤ 1048576) (w : World) (h : SlB w w.heap.size a l) :
    Calls Tryz.prog 15 #[rawV fr ty fl st rs a l.length c] w (FauP (valF fr ty fl st l) w) := by
  have HP : Hid (∀ W, Below w.heap.size w W → Calls Tryz.prog 30 #[rawV fr ty fl st rs a l.length c] W (FmM W (parseF ty fl st l).1.1 (parseF ty fl st l).1.2 (parseF ty fl st l).2)) := fun W hW => frame_ParseM fr ty fl st rs a c l hl W (h.grow hW)
  have hs := parse_sets (ty := ty) (fl := fl) (st := st) (l := l)
  have HV : Hid (valF fr ty fl st l = if (parseF ty fl st l).2 = 0 then (scopeOf (chkS fr (parseF ty fl st l).1.1.sets), chkS fr (parseF ty fl st l).1.1.sets) else (0, 0)) := rfl
  unfold FauP
  generalize valF fr ty fl st l = V at HV ⊢
  generalize parseF ty fl st l = R at HP HV hs
  obtain ⟨⟨⟨ty', fl', st', pad, data, sets, wt, pa, al, pr, la, co, sp⟩, q1, q2⟩, ev⟩ := R
  unfold FmM at HP
  simp only at HP HV hs
  have HC : Hid (∀ W sa sc, SlG W W.heap.size sa sets → Calls Tryz.prog 31 #[.slice sa sets.length sc, .int .i64 fr] W (ChkP fr sets W)) := fun W sa sc hW => setting_Check sa sc fr sets (by omega) W hW
  unfold ChkP at HC
  clear h
  by_cases hz : ev = 0
  · subst hz
    have HV2 : Hid (V = (scopeOf (chkS fr sets), chkS fr sets)) := by show _ = _; rw [HV.out, if_pos rfl]
    generalize chkS fr sets = C at HC HV2
    generalize scopeOf C = SC at HC HV2
    clear HV
    go_enter Tryz.func15, Tryz.ntmps15
    go_wp2_with fail
    refine (HP.out _ bel).mono ?_
    rintro e w' ⟨da, dc, sa, sc, rfl, hs4, j, rfl⟩
    have HS4 := Lib.hid hs4
    clear hs4
    go_wp2_with fail
    refine (HC.out _ sa sc (SlR.grow' HS4.out bel)).mono ?_
    rintro e w' ⟨rfl, j2, rfl⟩
    go_wp2_with fail
    refine bodyPost_ret (res_cell rfl st_Fu rfl blk rfl) rfl ⟨by rw [HV2.out], Below.junk bel⟩
  · have hz2 : (ev == 0) = false := by simpa using hz
    have hz3 : (ev != 0) = true := by simpa using hz
    have HV2 : Hid (V = (0, 0)) := by show _ = _; rw [HV.out, if_neg hz]
    clear HV
    go_enter Tryz.func15, Tryz.ntmps15
    go_wp2_with fail
    refine (HP.out _ bel).mono ?_
    rintro e w' ⟨da, dc, sa, sc, rfl, -, j, rfl⟩
    go_wp2_with fail
    refine bodyPost_ret (res_cell rfl st_Fu rfl blk rfl) rfl ⟨by rw [HV2.out], Below.junk bel⟩
def wholeF (ty st : Int) : Bool := decide (ty = 1 ∨ ty = 4 ∨ ty = 5 ∨ ty = 9 ∨ st = 0)
set_option maxRecDepth 100000 in
theorem rules_whole (fr ty fl st : Int) (rs : Bool) (a : Option Addr) (n c : Nat) (w : World) : Calls Tryz.prog 12 #[rawV fr ty fl st rs a n c] w fun e w' => e = .returned (.bool (wholeF ty st)) ∧ ∃ j, w' = w.more j := by
  obtain ⟨R, hR⟩ : ∃ R, R = wholeF ty st := ⟨_, rfl⟩
  rw [← hR]
  have HR : Hid (R = decide (ty = 1 ∨ ty = 4 ∨ ty = 5 ∨ ty = 9 ∨ st = 0)) := hR
  clear hR
  by_cases h1 : ty = 1
  · have HR1 : Hid (R = true) := by show _ = _; rw [HR.out]; simp [h1]
    clear HR
    subst h1
    go_enter Tryz.func12, Tryz.ntmps12
    go_wp2_with fail
    go_ret
    exact ⟨by rw [HR1.out]; rfl, Below.junk bel⟩
  by_cases h2 : ty = 4
  · have HR1 : Hid (R = true) := by show _ = _; rw [HR.out]; simp [h2]
    clear HR
    subst h2
    go_enter Tryz.func12, Tryz.ntmps12
    go_wp2_with fail
    go_ret
    exact ⟨by rw [HR1.out]; rfl, Below.junk bel⟩
  by_cases h3 : ty = 5
  · have HR1 : Hid (R = true) := by show _ = _; rw [HR.out]; simp [h3]
    clear HR
    subst h3
    go_enter Tryz.func12, Tryz.ntmps12
    go_wp2_with fail
    go_ret
    exact ⟨by rw [HR1.out]; rfl, Below.junk bel⟩
  by_cases h4 : ty = 9
  · have HR1 : Hid (R = true) := by show _ = _; rw [HR.out]; simp [h4]
    clear HR
    subst h4
    go_enter Tryz.func12, Tryz.ntmps12
    go_wp2_with fail
    go_ret
    exact ⟨by rw [HR1.out]; rfl, Below.junk bel⟩
  have HR1 : Hid (R = (st == 0)) := by
    show _ = _
    rw [HR.out]
    by_cases h5 : st = 0 <;> simp [h1, h2, h3, h4, h5]
  clear HR
  have b1 : (ty == 1) = false := by simpa using h1
  have b2 : (ty == 4) = false := by simpa using h2
  have b3 : (ty == 5) = false := by simpa using h3
  have b4 : (ty == 9) = false := by simpa using h4
  go_enter Tryz.func12, Tryz.ntmps12
  go_wp2_with fail
  go_ret
  exact ⟨by rw [HR1.out]; rfl, Below.junk bel⟩
end Go.Proofs.YtjhhdgmhocpceaaGreatDoor
