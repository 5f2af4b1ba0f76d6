/-
  Parts of the proof, one behind the other: contracts of the program and plain laws; no condition of their own.
-/
import Derived.Test.YtfcgdfcekpbliaaGreatDoorMi
import Derived.Test.YtfcgdfcekpbliaaGreatDoorMf
import Derived.Test.YtfcgdfcekpbliaaGreatDoorMh
import Derived.Test.YtfcgdfcekpbliaaGreatDoorMd
/-
  Scenarios: the document's text: a number's word, an end's word.
-/
namespace Go.Proofs.YtfcgdfcekpbliaaGreatDoor
set_option linter.unusedSimpArgs false
set_option linter.unusedVariables false
set_option linter.unusedSectionVars false
open Go.ChangeShapes Go.WideShapes Go.ChangeAt Go.RowKit Go.Deep Go.Shelf

set_option maxHeartbeats 4000000 in
set_option maxRecDepth 100000 in
theorem ref51_word (n : Int) (h : goodI n) (w : World) : Calls Tryz.prog 35 #[.int .i64 n] w fun e w' => e = .returned (bstr (32 :: Lib.itoa n)) ∧ w = w' := by
  have HT : Hid (∀ W, Calls Tryz.prog 61 #[.int .i64 n] W fun e w' => e = .returned (bstr (Lib.itoa n)) ∧ W = w') := fun W => ref03_Text n h.1 h.2 W
  have hl := itoa_len h.1 h.2
  generalize Lib.itoa n = T at HT hl ⊢
  clear h
  go_enter Tryz.func35, Tryz.ntmps35
  go_wp2_with (go_at_call 61; (with_reducible refine (HT.out _).mono ?_); rintro e w' ⟨rfl, rfl⟩)
  go_ret
  exact ⟨rfl, rfl⟩
set_option maxRecDepth 100000 in
theorem ref51_end (b : Bool) (w : World) : Calls Tryz.prog 59 #[.bool b] w fun e w' => e = .returned (bstr (32 :: endW b)) ∧ w = w' := by
  cases b
  all_goals
    go_enter Tryz.func59, Tryz.ntmps59
    go_wp2_with fail
    go_ret
    exact ⟨rfl, rfl⟩
end Go.Proofs.YtfcgdfcekpbliaaGreatDoor
/-
  Scenarios: the document's line of a step without rows. (Printed by mk_scd2.py.)
-/
namespace Go.Proofs.YtfcgdfcekpbliaaGreatDoor
set_option linter.unusedSimpArgs false
set_option linter.unusedVariables false
set_option linter.unusedSectionVars false
open Go.ChangeShapes Go.WideShapes Go.ChangeAt Go.RowKit Go.Deep Go.Shelf

abbrev StT : TypeId := 49
theorem join_sp : ∀ (ws : List (List UInt8)) (h : List UInt8), Lib.join (h :: ws) [32] = h ++ ws.flatMap (fun w => 32 :: w)
  | [], h => by simp [Lib.join_one]
  | w :: r, h => by
    rw [join_two, join_sp r w]
    simp
theorem lineS_eq (x : St) : lineW (wordsS x) = headW x.kd ++ (restS x).flatMap (fun w => 32 :: w) := join_sp _ _
set_option maxHeartbeats 8000000 in
set_option maxRecDepth 100000 in
theorem ref51_line_one (k n : Int) (hk : k = 6 ∨ k = 7 ∨ k = 8) (s : Int) (hn : goodI n) (fa sa : Option Addr) (fc sc : Nat) (w : World) :
    Calls Tryz.prog 33 #[.agg #[.int .i64 k, .int .i64 s, .int .i64 n, .bool false, .slice fa 0 fc, .slice sa 0 sc]] w fun e w' => e = .returned (bstr (headW k ++ (32 :: Lib.itoa n))) ∧ ∃ j, w' = w.more j := by
  have HN : Hid (∀ W, Calls Tryz.prog 35 #[.int .i64 n] W fun e w' => e = .returned (bstr (32 :: Lib.itoa n)) ∧ W = w') := fun W => ref51_word n hn W
  have hl := itoa_len hn.1 hn.2
  generalize Lib.itoa n = T at HN hl ⊢
  rcases hk with rfl | rfl | rfl
  all_goals
    go_enter Tryz.func33, Tryz.ntmps33
    go_wp2_with (go_at_call 35; (with_reducible refine (HN.out _).mono ?_); rintro e w' ⟨rfl, rfl⟩)
    go_ret
    exact ⟨rfl, Below.junk bel⟩
set_option maxHeartbeats 8000000 in
set_option maxRecDepth 100000 in
theorem ref51_line_two (k s n : Int) (hk : k = 4 ∨ k = 5) (hs : goodI s) (hn : goodI n) (fa sa : Option Addr) (fc sc : Nat) (w : World) :
    Calls Tryz.prog 33 #[.agg #[.int .i64 k, .int .i64 s, .int .i64 n, .bool false, .slice fa 0 fc, .slice sa 0 sc]] w fun e w' => e = .returned (bstr (headW k ++ (32 :: Lib.itoa s) ++ (32 :: Lib.itoa n))) ∧ ∃ j, w' = w.more j := by
  have HS : Hid (∀ W, Calls Tryz.prog 35 #[.int .i64 s] W fun e w' => e = .returned (bstr (32 :: Lib.itoa s)) ∧ W = w') := fun W => ref51_word s hs W
  have HN : Hid (∀ W, Calls Tryz.prog 35 #[.int .i64 n] W fun e w' => e = .returned (bstr (32 :: Lib.itoa n)) ∧ W = w') := fun W => ref51_word n hn W
  have hl := itoa_len hn.1 hn.2
  have hl2 := itoa_len hs.1 hs.2
  generalize Lib.itoa n = T at HN hl ⊢
  generalize Lib.itoa s = U at HS hl2 ⊢
  rcases hk with rfl | rfl
  · go_enter Tryz.func33, Tryz.ntmps33
    go_wp2_with fail
    refine grown_start (by kernel_rfl) ?_
    obtain ⟨wd, hwd⟩ : ∃ wd, wd = (w.alloc (.cells #[.int .i64 4, .int .i64 s, .int .i64 n, .bool false, .slice fa 0 fc, .slice sa 0 sc] StT)).drew := ⟨_, rfl⟩
    rw [← hwd]
    have hbx : Blk wd w.heap.size StT #[.int .i64 4, .int .i64 s, .int .i64 n, .bool false, .slice fa 0 fc, .slice sa 0 sc] := by rw [hwd]; exact (Blk.new _ _ _).drew
    have HBW : Hid (Below w.heap.size w wd) := by show Below _ _ _; rw [hwd]; exact bel
    have hg1 := hbx.lt
    have b1 : wd.cell? ⟨w.heap.size, 1, none⟩ = some (.int .i64 s) := hbx.cell 1
    have b2 : wd.cell? ⟨w.heap.size, 2, none⟩ = some (.int .i64 n) := hbx.cell 2
    have b3 : wd.cell? ⟨w.heap.size, 3, none⟩ = some (.bool false) := hbx.cell 3
    clear hwd hbx
    refine tk 0 ?_
    refine tk 1 ?_
    refine tk 4 ?_
    refine tk 5 ?_
    refine grown_step 2 (by kernel_rfl) rfl (fun K hK => ?_)
    go_simp
    go_wp2_with (go_at_call 35; (with_reducible refine (HS.out _).mono ?_); rintro e w' ⟨rfl, rfl⟩)
    refine hK.out _ _ belg ?_
    clear hK K
    try simp only [Act.put, nfa, nfb, nfc, nfd, List.set_cons_zero, List.set_cons_succ]
    refine tkc 3 ?_
    refine grown_step 6 (by kernel_rfl) rfl (fun K hK => ?_)
    go_simp
    go_wp2_with (go_at_call 35; (with_reducible refine (HN.out _).mono ?_); rintro e w' ⟨rfl, rfl⟩)
    refine hK.out _ _ belg ?_
    clear hK K
    try simp only [Act.put, nfa, nfb, nfc, nfd, List.set_cons_zero, List.set_cons_succ]
    refine tkc 7 ?_
    refine tk 8 ?_
    refine wpAnyH_done (by kernel_rfl) ?_ _
    go_wp2_with fail
    go_ret
    exact ⟨rfl, Below.junk HBW.out⟩
  · go_enter Tryz.func33, Tryz.ntmps33
    go_wp2_with fail
    refine grown_start (by kernel_rfl) ?_
    obtain ⟨wd, hwd⟩ : ∃ wd, wd = (w.alloc (.cells #[.int .i64 5, .int .i64 s, .int .i64 n, .bool false, .slice fa 0 fc, .slice sa 0 sc] StT)).drew := ⟨_, rfl⟩
    rw [← hwd]
    have hbx : Blk wd w.heap.size StT #[.int .i64 5, .int .i64 s, .int .i64 n, .bool false, .slice fa 0 fc, .slice sa 0 sc] := by rw [hwd]; exact (Blk.new _ _ _).drew
    have HBW : Hid (Below w.heap.size w wd) := by show Below _ _ _; rw [hwd]; exact bel
    have hg1 := hbx.lt
    have b1 : wd.cell? ⟨w.heap.size, 1, none⟩ = some (.int .i64 s) := hbx.cell 1
    have b2 : wd.cell? ⟨w.heap.size, 2, none⟩ = some (.int .i64 n) := hbx.cell 2
    have b3 : wd.cell? ⟨w.heap.size, 3, none⟩ = some (.bool false) := hbx.cell 3
    clear hwd hbx
    refine tk 0 ?_
    refine tk 1 ?_
    refine tk 4 ?_
    refine tk 5 ?_
    refine grown_step 2 (by kernel_rfl) rfl (fun K hK => ?_)
    go_simp
    go_wp2_with (go_at_call 35; (with_reducible refine (HS.out _).mono ?_); rintro e w' ⟨rfl, rfl⟩)
    refine hK.out _ _ belg ?_
    clear hK K
    try simp only [Act.put, nfa, nfb, nfc, nfd, List.set_cons_zero, List.set_cons_succ]
    refine tkc 3 ?_
    refine grown_step 6 (by kernel_rfl) rfl (fun K hK => ?_)
    go_simp
    go_wp2_with (go_at_call 35; (with_reducible refine (HN.out _).mono ?_); rintro e w' ⟨rfl, rfl⟩)
    refine hK.out _ _ belg ?_
    clear hK K
    try simp only [Act.put, nfa, nfb, nfc, nfd, List.set_cons_zero, List.set_cons_succ]
    refine tkc 7 ?_
    refine tk 8 ?_
    refine wpAnyH_done (by kernel_rfl) ?_ _
    go_wp2_with fail
    go_ret
    exact ⟨rfl, Below.junk HBW.out⟩
set_option maxHeartbeats 8000000 in
set_option maxRecDepth 100000 in
theorem ref51_line_data (s n : Int) (b : Bool) (hs : goodI s) (hn : goodI n) (fa sa : Option Addr) (fc sc : Nat) (w : World) :
    Calls Tryz.prog 33 #[.agg #[.int .i64 2, .int .i64 s, .int .i64 n, .bool b, .slice fa 0 fc, .slice sa 0 sc]] w fun e w' => e = .returned (bstr ([100, 97, 116, 97] ++ (32 :: Lib.itoa s) ++ (32 :: Lib.itoa n) ++ (32 :: endW b))) ∧ ∃ j, w' = w.more j := by
  have HS : Hid (∀ W, Calls Tryz.prog 35 #[.int .i64 s] W fun e w' => e = .returned (bstr (32 :: Lib.itoa s)) ∧ W = w') := fun W => ref51_word s hs W
  have HN : Hid (∀ W, Calls Tryz.prog 35 #[.int .i64 n] W fun e w' => e = .returned (bstr (32 :: Lib.itoa n)) ∧ W = w') := fun W => ref51_word n hn W
  have HE : Hid (∀ W, Calls Tryz.prog 59 #[.bool b] W fun e w' => e = .returned (bstr (32 :: endW b)) ∧ W = w') := ref51_end b
  have hl := itoa_len hn.1 hn.2
  have hl2 := itoa_len hs.1 hs.2
  have hl3 : (endW b).length ≤ 4 := by cases b <;> decide
  generalize Lib.itoa n = T at HN hl ⊢
  generalize Lib.itoa s = U at HS hl2 ⊢
  generalize endW b = V at HE hl3 ⊢
  go_enter Tryz.func33, Tryz.ntmps33
  go_wp2_with fail
  refine grown_start (by kernel_rfl) ?_
  obtain ⟨wd, hwd⟩ : ∃ wd, wd = (w.alloc (.cells #[.int .i64 2, .int .i64 s, .int .i64 n, .bool b, .slice fa 0 fc, .slice sa 0 sc] StT)).drew := ⟨_, rfl⟩
  rw [← hwd]
  have hbx : Blk wd w.heap.size StT #[.int .i64 2, .int .i64 s, .int .i64 n, .bool b, .slice fa 0 fc, .slice sa 0 sc] := by rw [hwd]; exact (Blk.new _ _ _).drew
  have HBW : Hid (Below w.heap.size w wd) := by show Below _ _ _; rw [hwd]; exact bel
  have hg1 := hbx.lt
  have b1 : wd.cell? ⟨w.heap.size, 1, none⟩ = some (.int .i64 s) := hbx.cell 1
  have b2 : wd.cell? ⟨w.heap.size, 2, none⟩ = some (.int .i64 n) := hbx.cell 2
  have b3 : wd.cell? ⟨w.heap.size, 3, none⟩ = some (.bool b) := hbx.cell 3
  clear hwd hbx
  refine tk 0 ?_
  refine tk 1 ?_
  refine tk 4 ?_
  refine tk 5 ?_
  refine tk 8 ?_
  refine tk 9 ?_
  refine grown_step 2 (by kernel_rfl) rfl (fun K hK => ?_)
  go_simp
  go_wp2_with (go_at_call 35; (with_reducible refine (HS.out _).mono ?_); rintro e w' ⟨rfl, rfl⟩)
  refine hK.out _ _ belg ?_
  clear hK K
  try simp only [Act.put, nfa, nfb, nfc, nfd, List.set_cons_zero, List.set_cons_succ]
  refine tkc 3 ?_
  refine grown_step 6 (by kernel_rfl) rfl (fun K hK => ?_)
  go_simp
  go_wp2_with (go_at_call 35; (with_reducible refine (HN.out _).mono ?_); rintro e w' ⟨rfl, rfl⟩)
  refine hK.out _ _ belg ?_
  clear hK K
  try simp only [Act.put, nfa, nfb, nfc, nfd, List.set_cons_zero, List.set_cons_succ]
  refine tkc 7 ?_
  refine grown_step 10 (by kernel_rfl) rfl (fun K hK => ?_)
  go_simp
  go_wp2_with (go_at_call 59; (with_reducible refine (HE.out _).mono ?_); rintro e w' ⟨rfl, rfl⟩)
  refine hK.out _ _ belg ?_
  clear hK K
  try simp only [Act.put, nfa, nfb, nfc, nfd, List.set_cons_zero, List.set_cons_succ]
  refine tkc 11 ?_
  refine tk 12 ?_
  refine wpAnyH_done (by kernel_rfl) ?_ _
  go_wp2_with fail
  go_ret
  exact ⟨by simp, Below.junk HBW.out⟩
end Go.Proofs.YtfcgdfcekpbliaaGreatDoor
/-
  Scenarios: the document's line of a step of settings.
-/
namespace Go.Proofs.YtfcgdfcekpbliaaGreatDoor
set_option linter.unusedSimpArgs false
set_option linter.unusedVariables false
set_option linter.unusedSectionVars false
open Go.ChangeShapes Go.WideShapes Go.ChangeAt Go.RowKit Go.Deep Go.Shelf

def seIs (p : Int × Int) (cs : List Value) : Prop := cs = [.int .i64 p.1, .int .i64 p.2]
abbrev SlSe (w : World) (B : Nat) (a : Option Addr) (l : List (Int × Int)) : Prop := SlR w B 2 seIs a l
theorem SlR.atSe {w : World} {B : Nat} {a : Option Addr} {l : List (Int × Int)} (h : SlR w B 2 seIs a l) {k : Nat} (hk : k < l.length) :
    ∃ b off, a = some ⟨b, off, none⟩ ∧ b < B ∧ w.cell? ⟨b, off + k * 2, none⟩ = some (.int .i64 l[k].1) ∧ w.cell? ⟨b, off + k * 2 + 1, none⟩ = some (.int .i64 l[k].2) := by
  obtain ⟨b, off, cs, ha, hb, rfl, hc⟩ := h k hk
  exact ⟨b, off, ha, hb, hc 0 _ rfl, hc 1 _ rfl⟩
def spW (ws : List (List UInt8)) : List UInt8 := ws.flatMap (fun w => 32 :: w)
theorem setT_len : ∀ (ss : List (Int × Int)), (∀ p ∈ ss, goodI p.1 ∧ goodI p.2) → (spW (ss.flatMap seW)).length ≤ 42 * ss.length
  | [], _ => by simp [spW]
  | p :: r, h => by
    obtain ⟨h1, h2⟩ := h p (by simp)
    have l1 := itoa_len h1.1 h1.2
    have l2 := itoa_len h2.1 h2.2
    have ih := setT_len r (fun q hq => h q (by simp [hq]))
    unfold spW at ih ⊢
    simp only [List.flatMap_cons, seW, List.cons_append, List.nil_append, List.length_append, List.length_cons] at ih ⊢
    omega
set_option maxHeartbeats 8000000 in
set_option maxRecDepth 100000 in
theorem ref51_line_set (ss : List (Int × Int)) (hg : ∀ p ∈ ss, goodI p.1 ∧ goodI p.2) (hl : ss.length ≤ 1000) (s n : Int) (e : Bool) (fa sa : Option Addr) (fc sc : Nat) (w : World) (hS : SlSe w w.heap.size sa ss) :
    Calls Tryz.prog 33 #[.agg #[.int .i64 3, .int .i64 s, .int .i64 n, .bool e, .slice fa 0 fc, .slice sa ss.length sc]] w fun x w' => x = .returned (bstr ([115, 101, 116] ++ spW (ss.flatMap seW))) ∧ ∃ j, w' = w.more j := by
  have HG := Lib.hid hg
  have HS := Lib.hid hS
  have HF : Hid ([115, 101, 116] ++ spW (ss.flatMap seW) = [115, 101, 116] ++ spW ((ss.take ss.length).flatMap seW)) := by show _ = _; rw [List.take_length]
  have HL : Hid (∀ k, ([115, 101, 116] ++ spW ((ss.take k).flatMap seW)).length ≤ 50000) := fun k => by
    have := setT_len (ss.take k) (fun p hp => hg p (List.mem_of_mem_take hp))
    simp only [List.length_append, List.length_take, List.length_cons, List.length_nil] at this ⊢
    omega
  generalize [115, 101, 116] ++ spW (ss.flatMap seW) = R at HF ⊢
  clear hg hS
  go_enter Tryz.func33, Tryz.ntmps33
  go_wp2_with fail
  obtain ⟨w1, hw1⟩ : ∃ w1, w1 = w.alloc (.cells #[.int .i64 3, .int .i64 s, .int .i64 n, .bool e, .slice fa 0 fc, .slice sa ss.length sc] StT) := ⟨_, rfl⟩
  rw [← hw1]
  have hbx : Blk w1 w.heap.size StT #[.int .i64 3, .int .i64 s, .int .i64 n, .bool e, .slice fa 0 fc, .slice sa ss.length sc] := by rw [hw1]; exact Blk.new _ _ _
  have HBW : Hid (Below w.heap.size w w1) := by show Below _ _ _; rw [hw1]; exact bel
  have HBX := Lib.hid hbx
  have hg1 := hbx.lt
  have b5 : w1.cell? ⟨w.heap.size, 5, none⟩ = some (.slice sa ss.length sc) := hbx.cell 5
  clear hw1 hbx
  go_loopw [6, 7] (fun v i wr => ∃ k : Nat, k ≤ ss.length ∧ i = .int .i64 k ∧ v = bstr ([115, 101, 116] ++ spW ((ss.take k).flatMap seW)) ∧ ∃ j, wr = w1.more j) (fun _ i _ => ss.length - (intOf i).toNat)
  case atStart => exact ⟨0, Nat.zero_le _, rfl, by simp [spW], Below.junk bel⟩
  case round =>
    obtain ⟨k, hk, rfl, rfl, j, rfl⟩ := hrel
    have hacc := HL.out k
    by_cases hlt : k < ss.length
    · obtain ⟨b, off, ha, hbb, c0, c1⟩ := SlR.atSe HS.out hlt
      subst ha
      have hgk := HG.out _ (List.getElem_mem hlt)
      have HU : Hid ([115, 101, 116] ++ spW ((ss.take (k + 1)).flatMap seW) = [115, 101, 116] ++ spW ((ss.take k).flatMap seW) ++ (32 :: Lib.itoa ss[k].1) ++ (32 :: Lib.itoa ss[k].2)) := by
        show _ = _
        rw [List.take_succ_eq_append_getElem hlt]
        unfold spW
        rw [List.flatMap_append, List.flatMap_append]
        simp only [seW, List.flatMap_cons, List.flatMap_nil, List.append_nil, List.append_assoc, List.cons_append, List.nil_append]
      have l1 := itoa_len hgk.1.1 hgk.1.2
      have l2 := itoa_len hgk.2.1 hgk.2.2
      have H1 : Hid (∀ W, Calls Tryz.prog 35 #[.int .i64 ss[k].1] W fun e w' => e = .returned (bstr (32 :: Lib.itoa ss[k].1)) ∧ W = w') := fun W => ref51_word _ hgk.1 W
      have H2 : Hid (∀ W, Calls Tryz.prog 35 #[.int .i64 ss[k].2] W fun e w' => e = .returned (bstr (32 :: Lib.itoa ss[k].2)) ∧ W = w') := fun W => ref51_word _ hgk.2 W
      generalize [115, 101, 116] ++ spW ((ss.take k).flatMap seW) = ac at HU hacc ⊢
      generalize Lib.itoa ss[k].1 = t1 at H1 HU l1
      generalize Lib.itoa ss[k].2 = t2 at H2 HU l2
      generalize ss[k] = p at c0 c1 H1 H2
      obtain ⟨p1, p2⟩ := p
      simp only at c0 c1 H1 H2
      clear hgk
      go_wp2_with fail
      refine grown_start (by kernel_rfl) ?_
      obtain ⟨wd, hwd⟩ : ∃ wd, wd = (w1.more j).drew := ⟨_, rfl⟩
      rw [← hwd]
      have hd5 : wd.cell? ⟨w.heap.size, 5, none⟩ = some (.slice (some ⟨b, off, none⟩) ss.length sc) := by rw [hwd]; exact ((HBX.out.more j).drew).cell 5
      have hdg : w.heap.size < wd.heap.size := by rw [hwd]; exact ((HBX.out.more j).drew).lt
      have hdb : Below w.heap.size w wd := by rw [hwd]; exact (by repeat (first | exact HBW.out | (with_reducible refine Below.allocS ?_ _) | (with_reducible refine Below.moreS ?_ _) | (with_reducible refine Below.drew ?_)))
      have d0 := (hdb.cell (p := ⟨b, off + k * 2, none⟩) hbb).trans c0
      have d1 := (hdb.cell (p := ⟨b, off + k * 2 + 1, none⟩) hbb).trans c1
      have hdz : b < wd.heap.size := Nat.lt_of_lt_of_le hbb hdb.size
      have HWD := Lib.hid hwd
      clear hwd hdb c0 c1 b5
      refine tk 0 ?_
      refine tk 1 ?_
      refine tk 2 ?_
      refine tk 3 ?_
      refine tk 4 ?_
      refine tk 5 ?_
      refine tk 6 ?_
      refine tk 9 ?_
      refine tk 10 ?_
      refine tk 11 ?_
      refine tk 12 ?_
      refine tk 13 ?_
      refine tk 14 ?_
      refine grown_step 7 (by kernel_rfl) rfl (fun K hK => ?_)
      go_simp
      go_wp2_with (go_at_call 35; (with_reducible refine (H1.out _).mono ?_); rintro e w' ⟨rfl, rfl⟩)
      refine hK.out _ _ belg ?_
      clear hK K
      try simp only [Act.put, nfa, nfb, nfc, nfd, List.set_cons_zero, List.set_cons_succ]
      refine tkc 8 ?_
      refine grown_step 15 (by kernel_rfl) rfl (fun K hK => ?_)
      go_simp
      go_wp2_with (go_at_call 35; (with_reducible refine (H2.out _).mono ?_); rintro e w' ⟨rfl, rfl⟩)
      refine hK.out _ _ belg ?_
      clear hK K
      try simp only [Act.put, nfa, nfb, nfc, nfd, List.set_cons_zero, List.set_cons_succ]
      refine tkc 16 ?_
      refine tk 17 ?_
      refine wpAnyH_done (by kernel_rfl) ?_ _
      rw [HWD.out]
      go_wp2_with fail
      go_round
      case rel => exact ⟨k + 1, hlt, by go_num, by rw [HU.out]; simp, Below.junk bel⟩
      case measure => simp [intOf]; omega
    · obtain rfl : k = ss.length := by omega
      generalize [115, 101, 116] ++ spW ((ss.take ss.length).flatMap seW) = ac at HF hacc ⊢
      go_wp2_with fail
      go_ret
      exact ⟨by rw [HF.out]; rfl, Below.junk (by repeat (first | exact HBW.out | (with_reducible refine Below.allocS ?_ _) | (with_reducible refine Below.moreS ?_ _) | (with_reducible refine Below.drew ?_)))⟩
end Go.Proofs.YtfcgdfcekpbliaaGreatDoor
/-
  Scenarios: the document's line of a step of fields.
-/
namespace Go.Proofs.YtfcgdfcekpbliaaGreatDoor
set_option linter.unusedSimpArgs false
set_option linter.unusedVariables false
set_option linter.unusedSectionVars false
open Go.ChangeShapes Go.WideShapes Go.ChangeAt Go.RowKit Go.Deep Go.Shelf

abbrev FdT2 : TypeId := 87
theorem quB_le (c : UInt8) : (quB c).length ≤ 3 := by unfold quB pairB; split <;> simp
theorem quoteF_le (l : List UInt8) : (quoteF l).length ≤ 3 * l.length + 1 := by
  unfold quoteF
  split
  · simp
  · have : ∀ m : List UInt8, (m.flatMap quB).length ≤ 3 * m.length := by
      intro m
      induction m with
      | nil => simp
      | cons c r ih => have := quB_le c; simp only [List.flatMap_cons, List.length_append, List.length_cons]; omega
    have := this l
    omega
theorem fdT_len : ∀ (fs : List Fd), (∀ f ∈ fs, f.name.length ≤ 1000 ∧ f.value.length ≤ 1000) → (spW (fs.flatMap fdW)).length ≤ 7000 * fs.length
  | [], _ => by simp [spW]
  | f :: r, h => by
    obtain ⟨h1, h2⟩ := h f (by simp)
    have l1 := quoteF_le f.name
    have l2 := quoteF_le f.value
    have l3 : (nevW f.never).length = 1 := by cases f.never <;> rfl
    have ih := fdT_len r (fun q hq => h q (by simp [hq]))
    unfold spW at ih ⊢
    simp only [List.flatMap_cons, fdW, List.cons_append, List.nil_append, List.length_append, List.length_cons] at ih ⊢
    omega
set_option maxHeartbeats 8000000 in
set_option maxRecDepth 100000 in
theorem ref51_line_headers (fs : List Fd) (hg : ∀ f ∈ fs, f.name.length ≤ 1000 ∧ f.value.length ≤ 1000) (hl : fs.length ≤ 1000) (s n : Int) (hs : goodI s) (e : Bool) (fa sa : Option Addr) (fc sc : Nat) (w : World) (hS : SlF w w.heap.size fa fs) :
    Calls Tryz.prog 33 #[.agg #[.int .i64 1, .int .i64 s, .int .i64 n, .bool e, .slice fa fs.length fc, .slice sa 0 sc]] w fun x w' => x = .returned (bstr ([104, 101, 97, 100, 101, 114, 115] ++ (32 :: Lib.itoa s) ++ (32 :: endW e) ++ spW (fs.flatMap fdW))) ∧ ∃ j, w' = w.more j := by
  have HS1 : Hid (∀ W, Calls Tryz.prog 35 #[.int .i64 s] W fun e w' => e = .returned (bstr (32 :: Lib.itoa s)) ∧ W = w') := fun W => ref51_word s hs W
  have HE : Hid (∀ W, Calls Tryz.prog 59 #[.bool e] W fun x w' => x = .returned (bstr (32 :: endW e)) ∧ W = w') := ref51_end e
  have hl1 := itoa_len hs.1 hs.2
  have hl2 : (endW e).length ≤ 4 := by cases e <;> decide
  have HG := Lib.hid hg
  have HS := Lib.hid hS
  have HL : Hid (∀ k, (spW ((fs.take k).flatMap fdW)).length ≤ 7000000) := fun k => by
    have := fdT_len (fs.take k) (fun p hp => hg p (List.mem_of_mem_take hp))
    simp only [List.length_take] at this
    omega
  generalize Lib.itoa s = U at HS1 hl1 ⊢
  generalize endW e = V at HE hl2 ⊢
  have hh : ([104, 101, 97, 100, 101, 114, 115] ++ (32 :: U) ++ (32 :: V) : List UInt8).length ≤ 100 := by simp only [List.length_append, List.length_cons, List.length_nil]; omega
  have HF : Hid ([104, 101, 97, 100, 101, 114, 115] ++ (32 :: U) ++ (32 :: V) ++ spW (fs.flatMap fdW) = [104, 101, 97, 100, 101, 114, 115] ++ (32 :: U) ++ (32 :: V) ++ spW ((fs.take fs.length).flatMap fdW)) := by show _ = _; rw [List.take_length]
  generalize [104, 101, 97, 100, 101, 114, 115] ++ (32 :: U) ++ (32 :: V) ++ spW (fs.flatMap fdW) = R at HF ⊢
  clear hg hS hs
  go_enter Tryz.func33, Tryz.ntmps33
  go_wp2_with fail
  refine grown_start (by kernel_rfl) ?_
  obtain ⟨wb, hwd⟩ : ∃ wb, wb = (w.alloc (.cells #[.int .i64 1, .int .i64 s, .int .i64 n, .bool e, .slice fa fs.length fc, .slice sa 0 sc] StT)).drew := ⟨_, rfl⟩
  rw [← hwd]
  have hbx : Blk wb w.heap.size StT #[.int .i64 1, .int .i64 s, .int .i64 n, .bool e, .slice fa fs.length fc, .slice sa 0 sc] := by rw [hwd]; exact (Blk.new _ _ _).drew
  have HBW : Hid (Below w.heap.size w wb) := by show Below _ _ _; rw [hwd]; exact bel
  have hg1 := hbx.lt
  have b1 : wb.cell? ⟨w.heap.size, 1, none⟩ = some (.int .i64 s) := hbx.cell 1
  have b3 : wb.cell? ⟨w.heap.size, 3, none⟩ = some (.bool e) := hbx.cell 3
  have b4 : wb.cell? ⟨w.heap.size, 4, none⟩ = some (.slice fa fs.length fc) := hbx.cell 4
  clear hwd hbx
  refine tk 0 ?_
  refine tk 1 ?_
  refine tk 4 ?_
  refine tk 5 ?_
  refine grown_step 2 (by kernel_rfl) rfl (fun K hK => ?_)
  go_simp
  go_wp2_with (go_at_call 35; (with_reducible refine (HS1.out _).mono ?_); rintro e w' ⟨rfl, rfl⟩)
  refine hK.out _ _ belg ?_
  clear hK K
  try simp only [Act.put, nfa, nfb, nfc, nfd, List.set_cons_zero, List.set_cons_succ]
  refine tkc 3 ?_
  refine grown_step 6 (by kernel_rfl) rfl (fun K hK => ?_)
  go_simp
  go_wp2_with (go_at_call 59; (with_reducible refine (HE.out _).mono ?_); rintro e w' ⟨rfl, rfl⟩)
  refine hK.out _ _ belg ?_
  clear hK K
  try simp only [Act.put, nfa, nfb, nfc, nfd, List.set_cons_zero, List.set_cons_succ]
  refine tkc 7 ?_
  refine tk 8 ?_
  refine wpAnyH_done (by kernel_rfl) ?_ _
  clear b1 b3 HS1 HE
  have HH : Hid (∀ t, [104, 101, 97, 100, 101, 114, 115] ++ (32 :: U) ++ (32 :: V) ++ t = (104 :: 101 :: 97 :: 100 :: 101 :: 114 :: 115 :: 32 :: (U ++ 32 :: V)) ++ t) := fun t => by simp
  have hh2 : (104 :: 101 :: 97 :: 100 :: 101 :: 114 :: 115 :: 32 :: (U ++ 32 :: V) : List UInt8).length ≤ 100 := by simp only [List.length_append, List.length_cons, List.length_nil]; omega
  have HF2 : Hid (R = (104 :: 101 :: 97 :: 100 :: 101 :: 114 :: 115 :: 32 :: (U ++ 32 :: V)) ++ spW ((fs.take fs.length).flatMap fdW)) := by show _ = _; rw [HF.out, HH.out]
  clear HF HH hh
  generalize (104 :: 101 :: 97 :: 100 :: 101 :: 114 :: 115 :: 32 :: (U ++ 32 :: V) : List UInt8) = H at HF2 hh2 ⊢
  go_wp2_with fail
  go_loopw [3, 4] (fun v i wr => ∃ k : Nat, k ≤ fs.length ∧ i = .int .i64 k ∧ v = bstr (H ++ spW ((fs.take k).flatMap fdW)) ∧ ∃ j, wr = wb.more j) (fun _ i _ => fs.length - (intOf i).toNat)
  case atStart => exact ⟨0, Nat.zero_le _, rfl, by simp [spW], Below.junk bel⟩
  case round =>
    obtain ⟨k, hk, rfl, rfl, j, rfl⟩ := hrel
    have hac0 := HL.out k
    have hacc : (H ++ spW ((fs.take k).flatMap fdW)).length ≤ 7000100 := by simp only [List.length_append]; omega
    by_cases hlt : k < fs.length
    · obtain ⟨b, off, ha, hbb, c0, c1, c2, _⟩ := SlR.atF HS.out hlt
      subst ha
      have hgk := HG.out _ (List.getElem_mem hlt)
      have HU : Hid (H ++ spW ((fs.take (k + 1)).flatMap fdW) = H ++ spW ((fs.take k).flatMap fdW) ++ (32 :: nevW fs[k].never) ++ (32 :: quoteF fs[k].name) ++ (32 :: quoteF fs[k].value)) := by
        show _ = _
        rw [List.take_succ_eq_append_getElem hlt]
        unfold spW
        rw [List.flatMap_append, List.flatMap_append]
        simp only [fdW, List.flatMap_cons, List.flatMap_nil, List.append_nil, List.append_assoc, List.cons_append, List.nil_append]
      have d0 := (HBW.out.cell (p := ⟨b, off + k * 3, none⟩) hbb).trans c0
      have d1 := (HBW.out.cell (p := ⟨b, off + k * 3 + 1, none⟩) hbb).trans c1
      have d2 := (HBW.out.cell (p := ⟨b, off + k * 3 + 2, none⟩) hbb).trans c2
      have hbz : b < wb.heap.size := Nat.lt_of_lt_of_le hbb HBW.out.size
      have l1 := quoteF_le fs[k].name
      have l2 := quoteF_le fs[k].value
      generalize H ++ spW ((fs.take k).flatMap fdW) = ac at HU hacc ⊢
      generalize fs[k] = f at d0 d1 d2 HU hgk l1 l2
      obtain ⟨nm, vl, nv⟩ := f
      simp only at d0 d1 d2 hgk l1 l2
      have H1 : Hid (∀ W, Calls Tryz.prog 60 #[bstr nm] W fun e w' => e = .returned (bstr (quoteF nm)) ∧ ∃ j, w' = W.more j) := fun W => ref04_Quote nm (by omega) W
      have H2 : Hid (∀ W, Calls Tryz.prog 60 #[bstr vl] W fun e w' => e = .returned (bstr (quoteF vl)) ∧ ∃ j, w' = W.more j) := fun W => ref04_Quote vl (by omega) W
      have HU2 : Hid (H ++ spW ((fs.take (k + 1)).flatMap fdW) = ac ++ (32 :: nevW nv) ++ (32 :: quoteF nm) ++ (32 :: quoteF vl)) := HU.out
      generalize quoteF nm = q1 at H1 HU2 l1
      generalize quoteF vl = q2 at H2 HU2 l2
      clear c0 c1 c2 HU hac0
      cases nv
      case false =>
        go_wp2_with fail
        refine grown_start (by kernel_rfl) ?_
        obtain ⟨wd, hwd⟩ : ∃ wd, wd = ((wb.more j).alloc (.cells #[bstr nm, bstr vl, .bool false] FdT2)).drew := ⟨_, rfl⟩
        rw [← hwd]
        have hfb : Blk wd (wb.heap.size + j.heap.size) FdT2 #[bstr nm, bstr vl, .bool false] := by rw [hwd]; exact (Blk.at_ _ _ _ (by simp)).drew
        have f0 : wd.cell? ⟨wb.heap.size + j.heap.size, 0, none⟩ = some (bstr nm) := hfb.cell 0
        have f1 : wd.cell? ⟨wb.heap.size + j.heap.size, 1, none⟩ = some (bstr vl) := hfb.cell 1
        have hfl := hfb.lt
        have HWD := Lib.hid hwd
        clear hwd hfb
        refine tk 0 ?_
        refine tkc 1 ?_
        refine tk 2 ?_
        refine tk 3 ?_
        refine tk 7 ?_
        refine tk 8 ?_
        refine grown_step 4 (by kernel_rfl) rfl (fun K hK => ?_)
        go_simp
        go_wp2_with (go_at_call 60; (with_reducible refine (H1.out _).mono ?_); rintro e w' ⟨rfl, j, rfl⟩)
        refine hK.out _ _ belg ?_
        clear hK K
        try simp only [Act.put, nfa, nfb, nfc, nfd, List.set_cons_zero, List.set_cons_succ]
        refine tkc 5 ?_
        refine tkc 6 ?_
        refine grown_step 9 (by kernel_rfl) rfl (fun K hK => ?_)
        go_simp
        go_wp2_with (go_at_call 60; (with_reducible refine (H2.out _).mono ?_); rintro e w' ⟨rfl, j, rfl⟩)
        refine hK.out _ _ belg ?_
        clear hK K
        try simp only [Act.put, nfa, nfb, nfc, nfd, List.set_cons_zero, List.set_cons_succ]
        refine tkc 10 ?_
        refine tk 11 ?_
        refine wpAnyH_done (by kernel_rfl) ?_ _
        rw [HWD.out]
        go_wp2_with fail
        go_round
        case rel => exact ⟨k + 1, hlt, by go_num, by rw [HU2.out]; simp [nevW], Below.junk bel⟩
        case measure => simp [intOf]; omega
      case true =>
        go_wp2_with fail
        refine grown_start (by kernel_rfl) ?_
        obtain ⟨wd, hwd⟩ : ∃ wd, wd = ((wb.more j).alloc (.cells #[bstr nm, bstr vl, .bool true] FdT2)).drew := ⟨_, rfl⟩
        rw [← hwd]
        have hfb : Blk wd (wb.heap.size + j.heap.size) FdT2 #[bstr nm, bstr vl, .bool true] := by rw [hwd]; exact (Blk.at_ _ _ _ (by simp)).drew
        have f0 : wd.cell? ⟨wb.heap.size + j.heap.size, 0, none⟩ = some (bstr nm) := hfb.cell 0
        have f1 : wd.cell? ⟨wb.heap.size + j.heap.size, 1, none⟩ = some (bstr vl) := hfb.cell 1
        have hfl := hfb.lt
        have HWD := Lib.hid hwd
        clear hwd hfb
        refine tk 0 ?_
        refine tkc 1 ?_
        refine tk 2 ?_
        refine tk 3 ?_
        refine tk 7 ?_
        refine tk 8 ?_
        refine grown_step 4 (by kernel_rfl) rfl (fun K hK => ?_)
        go_simp
        go_wp2_with (go_at_call 60; (with_reducible refine (H1.out _).mono ?_); rintro e w' ⟨rfl, j, rfl⟩)
        refine hK.out _ _ belg ?_
        clear hK K
        try simp only [Act.put, nfa, nfb, nfc, nfd, List.set_cons_zero, List.set_cons_succ]
        refine tkc 5 ?_
        refine tkc 6 ?_
        refine grown_step 9 (by kernel_rfl) rfl (fun K hK => ?_)
        go_simp
        go_wp2_with (go_at_call 60; (with_reducible refine (H2.out _).mono ?_); rintro e w' ⟨rfl, j, rfl⟩)
        refine hK.out _ _ belg ?_
        clear hK K
        try simp only [Act.put, nfa, nfb, nfc, nfd, List.set_cons_zero, List.set_cons_succ]
        refine tkc 10 ?_
        refine tk 11 ?_
        refine wpAnyH_done (by kernel_rfl) ?_ _
        rw [HWD.out]
        go_wp2_with fail
        go_round
        case rel => exact ⟨k + 1, hlt, by go_num, by rw [HU2.out]; simp [nevW], Below.junk bel⟩
        case measure => simp [intOf]; omega
    · obtain rfl : k = fs.length := by omega
      have HF3 := HF2
      generalize H ++ spW ((fs.take fs.length).flatMap fdW) = ac at HF3 hacc ⊢
      go_wp2_with fail
      go_ret
      exact ⟨by rw [HF3.out]; rfl, Below.junk (by repeat (first | exact HBW.out | (with_reducible refine Below.allocS ?_ _) | (with_reducible refine Below.moreS ?_ _) | (with_reducible refine Below.drew ?_)))⟩
end Go.Proofs.YtfcgdfcekpbliaaGreatDoor
/-
  Scenarios: the document's line of any step that may be.
-/
namespace Go.Proofs.YtfcgdfcekpbliaaGreatDoor
set_option linter.unusedSimpArgs false
set_option linter.unusedVariables false
set_option linter.unusedSectionVars false
open Go.ChangeShapes Go.WideShapes Go.ChangeAt Go.RowKit Go.Deep Go.Shelf

theorem ref51_line (x : St) (h : StOk x) (fa sa : Option Addr) (fc sc : Nat) (w : World) (hF : SlF w w.heap.size fa x.fs) (hS : SlSe w w.heap.size sa x.ss) :
    Calls Tryz.prog 33 #[.agg #[.int .i64 x.kd, .int .i64 x.sm, .int .i64 x.nn, .bool x.fin, .slice fa x.fs.length fc, .slice sa x.ss.length sc]] w fun e w' => e = .returned (bstr (lineS x)) ∧ ∃ j, w' = w.more j := by
  have he := lineS_eq x
  unfold lineS
  rw [he]
  cases h with
  | headers s e fs h hf hl =>
    have hb : ∀ f ∈ fs, f.name.length ≤ 1000 ∧ f.value.length ≤ 1000 := fun f hm => by
      have := hf f hm
      simp only [fdR, Bool.and_eq_true, decide_eq_true_eq] at this
      omega
    refine (ref51_line_headers fs hb (by omega) s 0 h e fa sa fc sc w hF).mono fun x w' hx => ?_
    obtain ⟨rfl, hj⟩ := hx
    exact ⟨by simp [headW, restS, spW], hj⟩
  | data s n e h h2 =>
    refine (ref51_line_data s n e h h2 fa sa fc sc w).mono fun x w' hx => ?_
    obtain ⟨rfl, hj⟩ := hx
    exact ⟨by simp [headW, restS], hj⟩
  | set ss h hl =>
    refine (ref51_line_set ss h (by omega) 0 0 false fa sa fc sc w hS).mono fun x w' hx => ?_
    obtain ⟨rfl, hj⟩ := hx
    exact ⟨by simp [headW, restS, spW], hj⟩
  | two k s n hk h h2 =>
    refine (ref51_line_two k s n hk h h2 fa sa fc sc w).mono fun x w' hx => ?_
    obtain ⟨rfl, hj⟩ := hx
    exact ⟨by rcases hk with rfl | rfl <;> simp [headW, restS], hj⟩
  | one k n hk h2 =>
    refine (ref51_line_one k n hk 0 h2 fa sa fc sc w).mono fun x w' hx => ?_
    obtain ⟨rfl, hj⟩ := hx
    exact ⟨by rcases hk with rfl | rfl | rfl <;> simp [headW, restS], hj⟩
/-- A step's cells in a row. -/
def stIs (W : World) (x : St) (cs : List Value) : Prop :=
  ∃ fa fc sa sc, cs = [.int .i64 x.kd, .int .i64 x.sm, .int .i64 x.nn, .bool x.fin, .slice fa x.fs.length fc, .slice sa x.ss.length sc] ∧ SlF W W.heap.size fa x.fs ∧ SlSe W W.heap.size sa x.ss
abbrev SlSt (W w : World) (B : Nat) (a : Option Addr) (l : List St) : Prop := SlR w B 6 (stIs W) a l
theorem SlR.atSt {W w : World} {B : Nat} {a : Option Addr} {l : List St} (h : SlR w B 6 (stIs W) a l) {k : Nat} (hk : k < l.length) :
    ∃ b off fa fc sa sc, a = some ⟨b, off, none⟩ ∧ b < B ∧ w.cell? ⟨b, off + k * 6, none⟩ = some (.int .i64 l[k].kd) ∧ w.cell? ⟨b, off + k * 6 + 1, none⟩ = some (.int .i64 l[k].sm) ∧ w.cell? ⟨b, off + k * 6 + 2, none⟩ = some (.int .i64 l[k].nn) ∧
      w.cell? ⟨b, off + k * 6 + 3, none⟩ = some (.bool l[k].fin) ∧ w.cell? ⟨b, off + k * 6 + 4, none⟩ = some (.slice fa l[k].fs.length fc) ∧ w.cell? ⟨b, off + k * 6 + 5, none⟩ = some (.slice sa l[k].ss.length sc) ∧ SlF W W.heap.size fa l[k].fs ∧ SlSe W W.heap.size sa l[k].ss := by
  obtain ⟨b, off, cs, ha, hb, ⟨fa, fc, sa, sc, rfl, h1, h2⟩, hc⟩ := h k hk
  exact ⟨b, off, fa, fc, sa, sc, ha, hb, hc 0 _ rfl, hc 1 _ rfl, hc 2 _ rfl, hc 3 _ rfl, hc 4 _ rfl, hc 5 _ rfl, h1, h2⟩
end Go.Proofs.YtfcgdfcekpbliaaGreatDoor
/-
  Scenarios: the document's text.
-/
namespace Go.Proofs.YtfcgdfcekpbliaaGreatDoor
set_option linter.unusedSimpArgs false
set_option linter.unusedVariables false
set_option linter.unusedSectionVars false
open Go.ChangeShapes Go.WideShapes Go.ChangeAt Go.RowKit Go.Deep Go.Shelf

theorem headW_len (k : Int) : (headW k).length ≤ 7 := by unfold headW; repeat' split
                                                         all_goals decide
theorem lineS_len {x : St} (h : StOk x) : (lineS x).length ≤ 150000 := by
  have he := lineS_eq x
  unfold lineS
  rw [he]
  have hh := headW_len x.kd
  have h4 : ∀ b, (endW b).length ≤ 4 := by decide
  cases h with
  | headers s e fs h hf hl =>
    have hb := fdT_len fs (fun f hm => by
      have := hf f hm
      simp only [fdR, Bool.and_eq_true, decide_eq_true_eq] at this
      omega)
    have l1 := itoa_len h.1 h.2
    have l2 := h4 e
    unfold spW at hb
    simp only [restS, reduceIte, List.flatMap_cons, List.length_append, List.length_cons] at hh ⊢
    omega
  | data s n e h h2 =>
    have l1 := itoa_len h.1 h.2
    have l2 := itoa_len h2.1 h2.2
    have l3 := h4 e
    simp [restS] at hh ⊢
    omega
  | set ss h hl =>
    have hb := setT_len ss h
    unfold spW at hb
    show (headW 3 ++ (ss.flatMap seW).flatMap (fun w => 32 :: w)).length ≤ 150000
    rw [List.length_append]
    simp only at hh
    omega
  | two k s n hk h h2 =>
    have l1 := itoa_len h.1 h.2
    have l2 := itoa_len h2.1 h2.2
    rcases hk with rfl | rfl <;> (simp [restS] at hh ⊢; omega)
  | one k n hk h2 =>
    have l2 := itoa_len h2.1 h2.2
    rcases hk with rfl | rfl | rfl <;> (simp [restS] at hh ⊢; omega)
def stsT (xs : List St) : List UInt8 := xs.flatMap fun x => lineS x ++ [10]
theorem stsT_len : ∀ xs : List St, (∀ x ∈ xs, StOk x) → (stsT xs).length ≤ 150001 * xs.length
  | [], _ => by simp [stsT]
  | x :: r, h => by
    have h1 := lineS_len (h x (by simp))
    have ih := stsT_len r (fun y hy => h y (by simp [hy]))
    unfold stsT at ih ⊢
    simp only [List.flatMap_cons, List.length_append, List.length_cons, List.length_nil] at ih ⊢
    omega
theorem text_scn (s : Scn) : textScn s = (firstS s.sd ++ [10]) ++ stsT s.xs ++ (lastS s.wk s.ws ++ [10]) := by
  unfold textScn linesScn stsT flatL
  simp [List.flatMap_map]
theorem last_eq (k n : Int) : lastS k n = [119, 114, 111, 110, 103] ++ (32 :: injN k) ++ (32 :: Lib.itoa n) := by
  unfold lastS lineW
  rw [join_sp]
  simp
abbrev ScT2 : TypeId := 26
theorem injN_len (k : Int) : (injN k).length ≤ 8 := by
  have : ∀ i : Fin 26, (injW.getD i.val []).length ≤ 8 := by decide +kernel
  unfold injN
  split
  · simp
  · exact this ⟨(k - 1).toNat, by omega⟩
set_option maxHeartbeats 16000000 in
set_option maxRecDepth 100000 in
theorem ref51_Text (sd wk ws : Int) (xs : List St) (h : ScnOk ⟨sd, xs, wk, ws⟩) (hl : xs.length ≤ 1000) (a : Option Addr) (c : Nat) (w : World) (hS : SlSt w w w.heap.size a xs) :
    Calls Tryz.prog 11 #[.agg #[.int .i64 sd, .slice a xs.length c, .int .i64 wk, .int .i64 ws]] w fun e w' => e = .returned (bstr (textScn ⟨sd, xs, wk, ws⟩)) ∧ ∃ j, w' = w.more j := by
  obtain ⟨hsd, hxs, hwk, hws⟩ := h
  simp only at hsd hxs hwk hws
  obtain ⟨q, hq, rfl⟩ : ∃ q : Nat, q < 26 ∧ wk = (q : Int) + 1 := ⟨(wk - 1).toNat, by omega, by omega⟩
  have HT := Lib.hid (text_scn ⟨sd, xs, (q : Int) + 1, ws⟩)
  rw [last_eq] at HT
  simp only at HT
  have hN : injN ((q : Int) + 1) = injW.getD q [] := by
    unfold injN
    rw [if_neg (by omega), show ((q : Int) + 1 - 1).toNat = q by omega]
  rw [hN] at HT
  have hNl : (injW.getD q []).length ≤ 8 := by rw [← hN]; exact injN_len _
  have HNM : Hid (∀ W, Calls Tryz.prog 34 #[] W fun e w' => ∃ g j, e = .returned (.slice (some ⟨g, 0, none⟩) 26 26) ∧ w'.cell? ⟨g, q, none⟩ = some (bstr (injW.getD q [])) ∧ g < w'.heap.size ∧ w' = W.more j) := fun W => (ref46_Names W).mono fun e w' hx => by
    obtain ⟨g, j, h1, h2, h3, h4⟩ := hx
    exact ⟨g, j, h1, h2 q hq, h3, h4⟩
  have HWS : Hid (∀ W, Calls Tryz.prog 35 #[.int .i64 ws] W fun e w' => e = .returned (bstr (32 :: Lib.itoa ws)) ∧ W = w') := fun W => ref51_word ws hws W
  have hwl := itoa_len hws.1 hws.2
  have HLN : Hid (∀ x ∈ xs, StOk x) := hxs
  have HL : Hid (∀ k, (stsT (xs.take k)).length ≤ 160000000) := fun k => by
    have := stsT_len (xs.take k) (fun x hx => hxs x (List.mem_of_mem_take hx))
    simp only [List.length_take] at this
    omega
  have HSX := Lib.hid hS
  obtain ⟨H, hH⟩ : ∃ H, H = firstS sd ++ [10] := ⟨_, rfl⟩
  rw [← hH] at HT
  have HH := Lib.hid hH
  have hHl : H.length ≤ 100 := by rw [hH]; rcases hsd with rfl | rfl <;> decide
  generalize textScn ⟨sd, xs, (q : Int) + 1, ws⟩ = T at HT ⊢
  generalize Lib.itoa ws = U at HWS hwl HT
  have sq : IntKind.i64.wrap (q : Int) = q := IntWalk.i64_in _ (by omega)
  have i2 : (q : Int) < 26 := by omega
  clear hxs hwk hws hN hS hH
  rcases hsd with rfl | rfl
  · go_enter Tryz.func11, Tryz.ntmps11
    go_wp2_with fail
    obtain ⟨w1, hw1⟩ : ∃ w1, w1 = w.alloc (.cells #[.int .i64 0, .slice a xs.length c, .int .i64 ((q : Int) + 1), .int .i64 ws] ScT2) := ⟨_, rfl⟩
    rw [← hw1]
    have hbx : Blk w1 w.heap.size ScT2 #[.int .i64 0, .slice a xs.length c, .int .i64 ((q : Int) + 1), .int .i64 ws] := by rw [hw1]; exact Blk.new _ _ _
    have HBW : Hid (Below w.heap.size w w1) := by show Below _ _ _; rw [hw1]; exact bel
    have HBX := Lib.hid hbx
    have hg1 := hbx.lt
    have b1 : w1.cell? ⟨w.heap.size, 1, none⟩ = some (.slice a xs.length c) := hbx.cell 1
    clear hw1 hbx
    go_loopw [3, 4] (fun v i wr => ∃ k : Nat, k ≤ xs.length ∧ i = .int .i64 k ∧ v = bstr (H ++ stsT (xs.take k)) ∧ ∃ j, wr = w1.more j) (fun _ i _ => xs.length - (intOf i).toNat)
    case atStart => exact ⟨0, Nat.zero_le _, rfl, by rw [HH.out]; rfl, Below.junk bel⟩
    case round =>
      obtain ⟨k, hk, rfl, rfl, j, rfl⟩ := hrel
      have hac0 := HL.out k
      have hacc : (H ++ stsT (xs.take k)).length ≤ 160000100 := by simp only [List.length_append]; omega
      by_cases hlt : k < xs.length
      · obtain ⟨b, off, fa, fc, sa, sc, ha, hbb, c0, c1, c2, c3, c4, c5, hF, hSe⟩ := SlR.atSt HSX.out hlt
        subst ha
        have d0 := (HBW.out.cell (p := ⟨b, off + k * 6, none⟩) hbb).trans c0
        have d1 := (HBW.out.cell (p := ⟨b, off + k * 6 + 1, none⟩) hbb).trans c1
        have d2 := (HBW.out.cell (p := ⟨b, off + k * 6 + 2, none⟩) hbb).trans c2
        have d3 := (HBW.out.cell (p := ⟨b, off + k * 6 + 3, none⟩) hbb).trans c3
        have d4 := (HBW.out.cell (p := ⟨b, off + k * 6 + 4, none⟩) hbb).trans c4
        have d5 := (HBW.out.cell (p := ⟨b, off + k * 6 + 5, none⟩) hbb).trans c5
        have hbz : b < w1.heap.size := Nat.lt_of_lt_of_le hbb HBW.out.size
        have hok := HLN.out _ (List.getElem_mem hlt)
        have hll := lineS_len hok
        have HU : Hid (H ++ stsT (xs.take (k + 1)) = H ++ stsT (xs.take k) ++ lineS xs[k] ++ [10]) := by
          show _ = _
          rw [List.take_succ_eq_append_getElem hlt]
          unfold stsT
          rw [List.flatMap_append]
          simp only [List.flatMap_cons, List.flatMap_nil, List.append_nil, List.append_assoc]
        have HLI : Hid (∀ W, Below w.heap.size w W → Calls Tryz.prog 33 #[.agg #[.int .i64 xs[k].kd, .int .i64 xs[k].sm, .int .i64 xs[k].nn, .bool xs[k].fin, .slice fa xs[k].fs.length fc, .slice sa xs[k].ss.length sc]] W fun e w' => e = .returned (bstr (lineS xs[k])) ∧ ∃ j, w' = W.more j) := fun W hW =>
          ref51_line xs[k] hok fa sa fc sc W ((hF.below hW (Nat.le_refl _)).mono hW.size (fun _ _ _ h => h)) ((hSe.below hW (Nat.le_refl _)).mono hW.size (fun _ _ _ h => h))
        generalize H ++ stsT (xs.take k) = ac at HU hacc ⊢
        generalize lineS xs[k] = L at HU HLI hll
        generalize xs[k].fs.length = nf at HLI d4
        generalize xs[k].ss.length = ns at HLI d5
        generalize xs[k].kd = y0 at HLI d0
        generalize xs[k].sm = y1 at HLI d1
        generalize xs[k].nn = y2 at HLI d2
        generalize xs[k].fin = y3 at HLI d3
        clear c0 c1 c2 c3 c4 c5 hF hSe hok hac0
        go_wp2_with (go_at_call 33; (with_reducible refine (HLI.out _ (by repeat (first | exact HBW.out | (with_reducible refine Below.allocS ?_ _) | (with_reducible refine Below.moreS ?_ _) | (with_reducible refine Below.drew ?_)))).mono ?_); rintro e w' ⟨rfl, j, rfl⟩)
        go_round
        case rel => exact ⟨k + 1, hlt, by go_num, by rw [HU.out]; simp, _, rfl⟩
        case measure => simp [intOf]; omega
      · obtain rfl : k = xs.length := by omega
        rw [List.take_length] at hacc ⊢
        have HT2 : Hid (T = (H ++ stsT xs) ++ ([119, 114, 111, 110, 103] ++ (32 :: injW.getD q []) ++ (32 :: U) ++ [10])) := HT.out
        generalize H ++ stsT xs = ac at HT2 hacc ⊢
        generalize injW.getD q [] = NM at HT2 hNl HNM
        clear hac0 HL HLN HSX HH
        go_wp2_with fail
        refine grown_start (by kernel_rfl) ?_
        obtain ⟨wd, hwd⟩ : ∃ wd, wd = (w1.more j).drew := ⟨_, rfl⟩
        rw [← hwd]
        have hbd := (HBX.out.more j).drew
        rw [← hwd] at hbd
        have HBD : Hid (Below w.heap.size w wd) := by show Below _ _ _; rw [hwd]; exact (by repeat (first | exact HBW.out | (with_reducible refine Below.allocS ?_ _) | (with_reducible refine Below.moreS ?_ _) | (with_reducible refine Below.drew ?_)))
        have b2 : wd.cell? ⟨w.heap.size, 2, none⟩ = some (.int .i64 ((q : Int) + 1)) := hbd.cell 2
        have b3 : wd.cell? ⟨w.heap.size, 3, none⟩ = some (.int .i64 ws) := hbd.cell 3
        have hgd := hbd.lt
        clear hwd hbd b1 HBX HBW hg1
        refine tk 0 ?_
        refine tkc 1 ?_
        refine tk 3 ?_
        refine tk 4 ?_
        refine tk 5 ?_
        refine tk 6 ?_
        refine tk 10 ?_
        refine tk 11 ?_
        refine tk 12 ?_
        refine grown_step 2 (by kernel_rfl) rfl (fun K hK => ?_)
        go_simp
        go_wp2_with fail
        refine (HNM.out _).mono ?_
        rintro e w' ⟨g, j1, rfl, hc, hg, rfl⟩
        simp only [World.size_more] at hg
        go_wp2_with fail
        refine hK.out _ _ belg ?_
        clear hK K
        try simp only [Act.put, nfa, nfb, nfc, nfd, List.set_cons_zero, List.set_cons_succ]
        refine tk 7 ?_
        refine tk 8 ?_
        refine tkc 9 ?_
        refine grown_step 13 (by kernel_rfl) rfl (fun K hK => ?_)
        go_simp
        go_wp2_with (go_at_call 35; (with_reducible refine (HWS.out _).mono ?_); rintro e w' ⟨rfl, rfl⟩)
        refine hK.out _ _ belg ?_
        clear hK K
        try simp only [Act.put, nfa, nfb, nfc, nfd, List.set_cons_zero, List.set_cons_succ]
        refine tkc 14 ?_
        refine tkc 15 ?_
        refine tk 16 ?_
        refine wpAnyH_done (by kernel_rfl) ?_ _
        go_wp2_with fail
        go_ret
        exact ⟨by rw [HT2.out]; simp, Below.junk (by repeat (first | exact HBD.out | (with_reducible refine Below.allocS ?_ _) | (with_reducible refine Below.moreS ?_ _) | (with_reducible refine Below.drew ?_)))⟩
  · go_enter Tryz.func11, Tryz.ntmps11
    go_wp2_with fail
    obtain ⟨w1, hw1⟩ : ∃ w1, w1 = w.alloc (.cells #[.int .i64 1, .slice a xs.length c, .int .i64 ((q : Int) + 1), .int .i64 ws] ScT2) := ⟨_, rfl⟩
    rw [← hw1]
    have hbx : Blk w1 w.heap.size ScT2 #[.int .i64 1, .slice a xs.length c, .int .i64 ((q : Int) + 1), .int .i64 ws] := by rw [hw1]; exact Blk.new _ _ _
    have HBW : Hid (Below w.heap.size w w1) := by show Below _ _ _; rw [hw1]; exact bel
    have HBX := Lib.hid hbx
    have hg1 := hbx.lt
    have b1 : w1.cell? ⟨w.heap.size, 1, none⟩ = some (.slice a xs.length c) := hbx.cell 1
    clear hw1 hbx
    go_loopw [3, 4] (fun v i wr => ∃ k : Nat, k ≤ xs.length ∧ i = .int .i64 k ∧ v = bstr (H ++ stsT (xs.take k)) ∧ ∃ j, wr = w1.more j) (fun _ i _ => xs.length - (intOf i).toNat)
    case atStart => exact ⟨0, Nat.zero_le _, rfl, by rw [HH.out]; rfl, Below.junk bel⟩
    case round =>
      obtain ⟨k, hk, rfl, rfl, j, rfl⟩ := hrel
      have hac0 := HL.out k
      have hacc : (H ++ stsT (xs.take k)).length ≤ 160000100 := by simp only [List.length_append]; omega
      by_cases hlt : k < xs.length
      · obtain ⟨b, off, fa, fc, sa, sc, ha, hbb, c0, c1, c2, c3, c4, c5, hF, hSe⟩ := SlR.atSt HSX.out hlt
        subst ha
        have d0 := (HBW.out.cell (p := ⟨b, off + k * 6, none⟩) hbb).trans c0
        have d1 := (HBW.out.cell (p := ⟨b, off + k * 6 + 1, none⟩) hbb).trans c1
        have d2 := (HBW.out.cell (p := ⟨b, off + k * 6 + 2, none⟩) hbb).trans c2
        have d3 := (HBW.out.cell (p := ⟨b, off + k * 6 + 3, none⟩) hbb).trans c3
        have d4 := (HBW.out.cell (p := ⟨b, off + k * 6 + 4, none⟩) hbb).trans c4
        have d5 := (HBW.out.cell (p := ⟨b, off + k * 6 + 5, none⟩) hbb).trans c5
        have hbz : b < w1.heap.size := Nat.lt_of_lt_of_le hbb HBW.out.size
        have hok := HLN.out _ (List.getElem_mem hlt)
        have hll := lineS_len hok
        have HU : Hid (H ++ stsT (xs.take (k + 1)) = H ++ stsT (xs.take k) ++ lineS xs[k] ++ [10]) := by
          show _ = _
          rw [List.take_succ_eq_append_getElem hlt]
          unfold stsT
          rw [List.flatMap_append]
          simp only [List.flatMap_cons, List.flatMap_nil, List.append_nil, List.append_assoc]
        have HLI : Hid (∀ W, Below w.heap.size w W → Calls Tryz.prog 33 #[.agg #[.int .i64 xs[k].kd, .int .i64 xs[k].sm, .int .i64 xs[k].nn, .bool xs[k].fin, .slice fa xs[k].fs.length fc, .slice sa xs[k].ss.length sc]] W fun e w' => e = .returned (bstr (lineS xs[k])) ∧ ∃ j, w' = W.more j) := fun W hW =>
          ref51_line xs[k] hok fa sa fc sc W ((hF.below hW (Nat.le_refl _)).mono hW.size (fun _ _ _ h => h)) ((hSe.below hW (Nat.le_refl _)).mono hW.size (fun _ _ _ h => h))
        generalize H ++ stsT (xs.take k) = ac at HU hacc ⊢
        generalize lineS xs[k] = L at HU HLI hll
        generalize xs[k].fs.length = nf at HLI d4
        generalize xs[k].ss.length = ns at HLI d5
        generalize xs[k].kd = y0 at HLI d0
        generalize xs[k].sm = y1 at HLI d1
        generalize xs[k].nn = y2 at HLI d2
        generalize xs[k].fin = y3 at HLI d3
        clear c0 c1 c2 c3 c4 c5 hF hSe hok hac0
        go_wp2_with (go_at_call 33; (with_reducible refine (HLI.out _ (by repeat (first | exact HBW.out | (with_reducible refine Below.allocS ?_ _) | (with_reducible refine Below.moreS ?_ _) | (with_reducible refine Below.drew ?_)))).mono ?_); rintro e w' ⟨rfl, j, rfl⟩)
        go_round
        case rel => exact ⟨k + 1, hlt, by go_num, by rw [HU.out]; simp, _, rfl⟩
        case measure => simp [intOf]; omega
      · obtain rfl : k = xs.length := by omega
        rw [List.take_length] at hacc ⊢
        have HT2 : Hid (T = (H ++ stsT xs) ++ ([119, 114, 111, 110, 103] ++ (32 :: injW.getD q []) ++ (32 :: U) ++ [10])) := HT.out
        generalize H ++ stsT xs = ac at HT2 hacc ⊢
        generalize injW.getD q [] = NM at HT2 hNl HNM
        clear hac0 HL HLN HSX HH
        go_wp2_with fail
        refine grown_start (by kernel_rfl) ?_
        obtain ⟨wd, hwd⟩ : ∃ wd, wd = (w1.more j).drew := ⟨_, rfl⟩
        rw [← hwd]
        have hbd := (HBX.out.more j).drew
        rw [← hwd] at hbd
        have HBD : Hid (Below w.heap.size w wd) := by show Below _ _ _; rw [hwd]; exact (by repeat (first | exact HBW.out | (with_reducible refine Below.allocS ?_ _) | (with_reducible refine Below.moreS ?_ _) | (with_reducible refine Below.drew ?_)))
        have b2 : wd.cell? ⟨w.heap.size, 2, none⟩ = some (.int .i64 ((q : Int) + 1)) := hbd.cell 2
        have b3 : wd.cell? ⟨w.heap.size, 3, none⟩ = some (.int .i64 ws) := hbd.cell 3
        have hgd := hbd.lt
        clear hwd hbd b1 HBX HBW hg1
        refine tk 0 ?_
        refine tkc 1 ?_
        refine tk 3 ?_
        refine tk 4 ?_
        refine tk 5 ?_
        refine tk 6 ?_
        refine tk 10 ?_
        refine tk 11 ?_
        refine tk 12 ?_
        refine grown_step 2 (by kernel_rfl) rfl (fun K hK => ?_)
        go_simp
        go_wp2_with fail
        refine (HNM.out _).mono ?_
        rintro e w' ⟨g, j1, rfl, hc, hg, rfl⟩
        simp only [World.size_more] at hg
        go_wp2_with fail
        refine hK.out _ _ belg ?_
        clear hK K
        try simp only [Act.put, nfa, nfb, nfc, nfd, List.set_cons_zero, List.set_cons_succ]
        refine tk 7 ?_
        refine tk 8 ?_
        refine tkc 9 ?_
        refine grown_step 13 (by kernel_rfl) rfl (fun K hK => ?_)
        go_simp
        go_wp2_with (go_at_call 35; (with_reducible refine (HWS.out _).mono ?_); rintro e w' ⟨rfl, rfl⟩)
        refine hK.out _ _ belg ?_
        clear hK K
        try simp only [Act.put, nfa, nfb, nfc, nfd, List.set_cons_zero, List.set_cons_succ]
        refine tkc 14 ?_
        refine tkc 15 ?_
        refine tk 16 ?_
        refine wpAnyH_done (by kernel_rfl) ?_ _
        go_wp2_with fail
        go_ret
        exact ⟨by rw [HT2.out]; simp, Below.junk (by repeat (first | exact HBD.out | (with_reducible refine Below.allocS ?_ _) | (with_reducible refine Below.moreS ?_ _) | (with_reducible refine Below.drew ?_)))⟩
end Go.Proofs.YtfcgdfcekpbliaaGreatDoor
/-
  Scenarios: the document's number of a word.
-/
namespace Go.Proofs.YtfcgdfcekpbliaaGreatDoor
set_option linter.unusedSimpArgs false
set_option linter.unusedVariables false
set_option linter.unusedSectionVars false
open Go.ChangeShapes Go.WideShapes Go.ChangeAt Go.RowKit Go.Deep Go.Shelf

set_option maxHeartbeats 4000000 in
set_option maxRecDepth 100000 in
theorem ref51_at (a : Option Addr) (cap : Nat) (l : List (List UInt8)) (i : Nat) (hl : l.length ≤ 1048576) (hll : ∀ x ∈ l, x.length ≤ 1048576) (hi : i ≤ 1000000) (w : World) (hS : SlX w w.heap.size a l) :
    Calls Tryz.prog 40 #[.slice a l.length cap, .int .i64 (i : Int)] w fun e w' => e = .returned (.int .i64 (nmR l i)) ∧ ∃ j, w' = w.more j := by
  by_cases hlt : i < l.length
  · obtain ⟨b, off, ha, hbb, c0, _⟩ := SlR.atX hS hlt
    subst ha
    have he : atD l i = l[i] := by unfold atD; rw [List.getD_eq_getElem?_getD, List.getElem?_eq_getElem hlt]; rfl
    have hn : ¬ (l.length : Int) ≤ (i : Int) := by omega
    unfold nmR
    rw [he]
    have hr0 := ref03_Read l[i] (hll _ (List.getElem_mem hlt)) w
    rw [← read_eq] at hr0
    have HR := Lib.hid hr0
    clear hr0
    generalize readF l[i] = p at HR ⊢
    generalize l[i] = x at c0 HR ⊢
    obtain ⟨n, is⟩ := p
    simp only at HR ⊢
    clear hS
    cases is
    all_goals
      go_enter Tryz.func40, Tryz.ntmps40
      go_wp2_with (go_at_call 67; refine HR.out.mono ?_; rintro e w' ⟨rfl, rfl⟩)
      go_ret
      exact ⟨rfl, Below.junk bel⟩
  · have he : atD l i = [] := by unfold atD; rw [List.getD_eq_getElem?_getD, List.getElem?_eq_none (by omega)]; rfl
    have hn : (l.length : Int) ≤ (i : Int) := by omega
    have hr : (readF ([] : List UInt8)).2 = false := by decide
    unfold nmR
    rw [he, if_neg (by rw [hr]; simp)]
    clear hS
    go_enter Tryz.func40, Tryz.ntmps40
    go_wp2_with fail
    go_ret
    exact ⟨rfl, Below.junk bel⟩
end Go.Proofs.YtfcgdfcekpbliaaGreatDoor
