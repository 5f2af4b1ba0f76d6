/-
  Reports: the document's small functions: numbers behind a word, a word of some, its number.
-/
import Derived.Test.YtbdmepidabnfkaaGreatDoorRepR
import Derived.Test.YtbdmepidabnfkaaGreatDoorRep7
import Derived.Test.YtbdmepidabnfkaaGreatDoorMf
namespace Go.Proofs.YtbdmepidabnfkaaGreatDoor
set_option linter.unusedSimpArgs false
set_option linter.unusedVariables false
set_option linter.unusedSectionVars false
open Go.ChangeShapes Go.WideShapes Go.ChangeAt Go.RowKit Go.Deep Go.Shelf

set_option maxHeartbeats 4000000 in
set_option maxRecDepth 100000 in
theorem ref43_numbers (h : List UInt8) (a : Option Addr) (cap : Nat) (ns : List Int) (hg : ∀ n ∈ ns, goodI n) (hn : ns.length ≤ 1000) (hh : h.length ≤ 10000000) (w : World) (hS : SlI w w.heap.size a ns) :
    Calls Tryz.prog 46 #[bstr h, .slice a ns.length cap] w fun e w' => e = .returned (bstr (lnW h ns)) ∧ ∃ j, w' = w.more j := by
  have HG := Lib.hid hg
  have HS := Lib.hid hS
  have HTl : Hid (∀ k, k ≤ ns.length → (h ++ (ns.take k).flatMap blN).length ≤ 10030000) := fun k hk => by
    have := blN_lens (ns.take k) (fun n hn => hg n (List.mem_of_mem_take hn))
    simp only [List.length_append, List.length_take] at this ⊢
    omega
  have HF : Hid (lnW h ns = h ++ (ns.take ns.length).flatMap blN ++ [10]) := by show _ = _; rw [List.take_length]; rfl
  generalize lnW h ns = L at HF ⊢
  clear hg hS
  go_enter Tryz.func46, Tryz.ntmps46
  go_wp2_with fail
  go_loopw [0, 5] (fun v i wr => ∃ k : Nat, k ≤ ns.length ∧ i = .int .i64 k ∧ v = bstr (h ++ (ns.take k).flatMap blN) ∧ ∃ j, wr = w.more j) (fun _ i _ => ns.length - (intOf i).toNat)
  case atStart => exact ⟨0, Nat.zero_le _, rfl, by rw [List.take_zero, List.flatMap_nil, List.append_nil], Below.junk (by repeat (first | (with_reducible exact Below.refl _ _) | (with_reducible refine Below.allocS ?_ _) | (with_reducible refine Below.moreS ?_ _) | (with_reducible refine Below.drew ?_) | (with_reducible refine below_drewN ?_ _)))⟩
  case round =>
    obtain ⟨k, hk, rfl, rfl, j, rfl⟩ := hrel
    have hacc := HTl.out k hk
    by_cases hlt : k < ns.length
    · obtain ⟨b, off, ha, hbb, c0⟩ := SlR.atI HS.out hlt
      subst ha
      have hgk := HG.out _ (List.getElem_mem hlt)
      have hlen := itoa_len hgk.1 hgk.2
      have HU : Hid (h ++ (ns.take (k + 1)).flatMap blN = h ++ (ns.take k).flatMap blN ++ [32] ++ Lib.itoa ns[k]) := by
        show _ = _
        rw [List.take_succ_eq_append_getElem hlt, List.flatMap_append]
        simp [blN]
      have HT : Hid (∀ W, Calls Tryz.prog 86 #[.int .i64 ns[k]] W fun e w' => e = .returned (bstr (Lib.itoa ns[k])) ∧ W = w') := fun W => ref03_Text _ hgk.1 hgk.2 W
      generalize h ++ (ns.take k).flatMap blN = ac at HU hacc ⊢
      generalize Lib.itoa ns[k] = tx at HT HU hlen
      generalize ns[k] = x at c0 HT
      clear hgk
      go_wp2_with (go_at_call 86; (with_reducible refine (HT.out _).mono ?_); rintro e w' ⟨rfl, rfl⟩)
      go_round
      case rel => exact ⟨k + 1, hlt, by go_num, by rw [HU.out]; simp, _, rfl⟩
      case measure => simp [intOf]; omega
    · obtain rfl : k = ns.length := by omega
      generalize h ++ (ns.take ns.length).flatMap blN = ac at HF hacc ⊢
      go_wp2_with fail
      go_ret
      exact ⟨by rw [HF.out]; rfl, _, rfl⟩
set_option maxHeartbeats 4000000 in
set_option maxRecDepth 100000 in
theorem ref43_word (a : Option Addr) (cap : Nat) (l : List (List UInt8)) (i : Nat) (hl : l.length ≤ 1048576) (hi : i ≤ 1000) (w : World) (hS : SlX w w.heap.size a l) :
    Calls Tryz.prog 55 #[.slice a l.length cap, .int .i64 (i : Int)] w fun e w' => e = .returned (bstr (atD l i)) ∧ w = w' := by
  by_cases hlt : i < l.length
  · obtain ⟨b, off, ha, hbb, c0, _⟩ := SlR.atX hS hlt
    subst ha
    have he : atD l i = l[i] := by unfold atD; rw [List.getD_eq_getElem?_getD, List.getElem?_eq_getElem hlt]; rfl
    have hn : ¬ (l.length : Int) ≤ (i : Int) := by omega
    rw [he]
    generalize l[i] = x at c0 ⊢
    clear hS
    go_enter Tryz.func55, Tryz.ntmps55
    go_wp2_with fail
    go_ret
    exact ⟨rfl, rfl⟩
  · have he : atD l i = [] := by unfold atD; rw [List.getD_eq_getElem?_getD, List.getElem?_eq_none (by omega)]; rfl
    have hn : (l.length : Int) ≤ (i : Int) := by omega
    rw [he]
    clear hS
    go_enter Tryz.func55, Tryz.ntmps55
    go_wp2_with fail
    go_ret
    exact ⟨rfl, rfl⟩
set_option maxHeartbeats 4000000 in
set_option maxRecDepth 100000 in
theorem ref43_number (a : Option Addr) (cap : Nat) (l : List (List UInt8)) (i : Nat) (hl : l.length ≤ 1048576) (hll : ∀ x ∈ l, x.length ≤ 1048576) (hi : i ≤ 1000) (w : World) (hS : SlX w w.heap.size a l) :
    Calls Tryz.prog 53 #[.slice a l.length cap, .int .i64 (i : Int)] w fun e w' => e = .returned (.int .i64 (nmR l i)) ∧ ∃ j, w' = w.more j := by
  by_cases hlt : i < l.length
  · obtain ⟨b, off, ha, hbb, c0, _⟩ := SlR.atX hS hlt
    subst ha
    have he : atD l i = l[i] := by unfold atD; rw [List.getD_eq_getElem?_getD, List.getElem?_eq_getElem hlt]; rfl
    have hn : ¬ (l.length : Int) ≤ (i : Int) := by omega
    unfold nmR
    rw [he]
    have hr0 := ref03_Read l[i] (hll _ (List.getElem_mem hlt)) w
    rw [← read_eq] at hr0
    have HR := Lib.hid hr0
    clear hr0
    generalize readF l[i] = p at HR ⊢
    generalize l[i] = x at c0 HR ⊢
    obtain ⟨n, is⟩ := p
    simp only at HR ⊢
    clear hS
    cases is
    all_goals
      go_enter Tryz.func53, Tryz.ntmps53
      go_wp2_with (go_at_call 93; refine HR.out.mono ?_; rintro e w' ⟨rfl, rfl⟩)
      go_ret
      exact ⟨rfl, Below.junk (by repeat (first | (with_reducible exact Below.refl _ _) | (with_reducible refine Below.allocS ?_ _) | (with_reducible refine Below.moreS ?_ _) | (with_reducible refine Below.drew ?_) | (with_reducible refine below_drewN ?_ _)))⟩
  · have he : atD l i = [] := by unfold atD; rw [List.getD_eq_getElem?_getD, List.getElem?_eq_none (by omega)]; rfl
    have hn : (l.length : Int) ≤ (i : Int) := by omega
    have hr : (readF ([] : List UInt8)).2 = false := by decide
    unfold nmR
    rw [he, if_neg (by rw [hr]; simp)]
    clear hS
    go_enter Tryz.func53, Tryz.ntmps53
    go_wp2_with fail
    go_ret
    exact ⟨rfl, Below.junk (by repeat (first | (with_reducible exact Below.refl _ _) | (with_reducible refine Below.allocS ?_ _) | (with_reducible refine Below.moreS ?_ _) | (with_reducible refine Below.drew ?_) | (with_reducible refine below_drewN ?_ _)))⟩
end Go.Proofs.YtbdmepidabnfkaaGreatDoor
