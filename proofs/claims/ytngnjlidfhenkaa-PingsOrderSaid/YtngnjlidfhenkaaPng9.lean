/-
  Pings: the chapter's example.
-/
import Derived.Test.YtngnjlidfhenkaaPng8
namespace Go.Proofs.Ytngnjlidfhenkaa
set_option linter.unusedSimpArgs false
set_option linter.unusedVariables false
set_option linter.unusedSectionVars false
open Go.ChangeShapes Go.WideShapes Go.ChangeAt Go.RowKit Go.Deep Go.ChangeMaps

theorem SlY.beside {w w' : World} {b mb : Nat} {a : Option Addr} {l : List UInt8} (h : SlY w w.heap.size a l) (hB : Beside b mb w w') (ha : ∀ g off, a = some ⟨g, off, none⟩ → g ≠ b ∧ g ≠ mb) : SlY w' w'.heap.size a l := by
  intro k hk
  obtain ⟨g, off, cs, e, hg, hR, hc⟩ := h k hk
  obtain ⟨h1, h2⟩ := ha g off e
  exact ⟨g, off, cs, e, Nat.lt_of_lt_of_le hg hB.size, hR, fun j u hu => (World.cell?_of_block (a := ⟨g, off + k * 1 + j, none⟩) (hB.block g hg h1 h2)).trans (hc j u hu)⟩
def kA : List UInt8 := [1, 2, 3, 4, 5, 6, 7, 8]
set_option maxHeartbeats 8000000 in
set_option maxRecDepth 100000 in
theorem law36_alive (w : World) : Calls Try.prog 6 #[] w fun e w' => e = .returned (.bool true) ∧ ∃ j, w' = w.more j := by
  have HN := Lib.hid (pings_New 5 w)
  go_enter Try.func6, Try.ntmps6
  go_wp2_with fail
  refine HN.out.mono ?_
  rintro e w1 ⟨b, mb, rfl, hP, hb, hmb, hbw⟩
  obtain ⟨w2, hw2⟩ : ∃ x, x = w1.alloc (.cells #[.int .u8 1, .int .u8 2, .int .u8 3, .int .u8 4, .int .u8 5, .int .u8 6, .int .u8 7, .int .u8 8] 5) := ⟨_, rfl⟩
  have hb2 : Below w1.heap.size w1 w2 := by rw [hw2]; exact (by repeat (first | (with_reducible exact Below.refl _ _) | (with_reducible refine Below.allocS ?_ _) | (with_reducible refine Below.moreS ?_ _) | (with_reducible refine Below.drew ?_) | (with_reducible refine below_drewN ?_ _)))
  have hs : SlY w2 w2.heap.size (some ⟨w1.heap.size, 0, none⟩) kA := by
    rw [hw2, World.size_alloc]
    exact SlR.of_blk (c := byC) (Blk.new w1 _ _) rfl (fun _ _ => rfl) (fun _ _ => rfl)
  have HG : Hid (∀ g off, (some ⟨w1.heap.size, 0, none⟩ : Option Addr) = some ⟨g, off, none⟩ → g ≠ b ∧ g ≠ mb) := fun g off e => by
    injection e with e
    injection e with e1 _
    have h1 := hP.blk.lt
    have h2 := hP.map.lt
    omega
  have HA := Lib.hid hs
  have HP2 := Lib.hid (hP.below hb2)
  have HBW := Lib.hid (hbw.trans (hb2.mono hbw.size))
  have HX : Hid (w.heap.size ≤ b ∧ w.heap.size ≤ mb) := ⟨hb, hmb⟩
  have HBS2 := Lib.hid (Beside.refl b mb w2)
  clear hs hP hb hmb hbw hb2
  go_wp2_with fail
  rw [← hw2]
  clear hw2
  refine (pings_Send8 b mb 0 5 ([] : List (List UInt8)) _ 8 kA rfl (by decide) (by omega) (by decide) w2 HP2.out HA.out).mono ?_
  rintro e w3 ⟨rfl, hP, hB⟩
  replace HA := Lib.hid (HA.out.beside hB HG.out)
  have HP3 := Lib.hid hP
  have HBS3 := Lib.hid (HBS2.out.trans hB)
  clear hP hB HP2 HBS2
  go_wp2_with fail
  refine (pings_Send8 b mb 1 5 (([] : List (List UInt8)) ++ [kA]) _ 8 kA rfl (by decide) (by omega) (by decide) w3 HP3.out HA.out).mono ?_
  rintro e w4 ⟨rfl, hP, hB⟩
  replace HA := Lib.hid (HA.out.beside hB HG.out)
  have HP4 := Lib.hid hP
  have HBS4 := Lib.hid (HBS3.out.trans hB)
  clear hP hB HP3 HBS3
  go_wp2_with fail
  refine (pings_Answer_yes b mb 2 5 ((([] : List (List UInt8)) ++ [kA]) ++ [kA]) _ 8 kA rfl (by decide) (by omega) (by decide) w4 HP4.out HA.out).mono ?_
  rintro e w5 ⟨rfl, hP, hB⟩
  replace HA := Lib.hid (HA.out.beside hB HG.out)
  have HP5 := Lib.hid hP
  have HBS5 := Lib.hid (HBS4.out.trans hB)
  clear hP hB HP4 HBS4
  go_wp2_with fail
  refine (pings_Answer_yes b mb 3 5 (((([] : List (List UInt8)) ++ [kA]) ++ [kA]).erase kA) _ 8 kA rfl (by decide) (by omega) (by decide) w5 HP5.out HA.out).mono ?_
  rintro e w6 ⟨rfl, hP, hB⟩
  replace HA := Lib.hid (HA.out.beside hB HG.out)
  have HP6 := Lib.hid hP
  have HBS6 := Lib.hid (HBS5.out.trans hB)
  clear hP hB HP5 HBS5
  go_wp2_with fail
  have hW := pings_Waits8 b mb 4 5 ((((([] : List (List UInt8)) ++ [kA]) ++ [kA]).erase kA).erase kA) _ 8 kA rfl w6 HP6.out HA.out
  have hd : ¬ kA ∈ ((((([] : List (List UInt8)) ++ [kA]) ++ [kA]).erase kA).erase kA) := by decide
  rw [decide_eq_false hd] at hW
  refine (pings_Answer_no b _ w6 hW).mono ?_
  rintro e w7 ⟨rfl, j, rfl⟩
  go_wp2_with fail
  go_ret
  have h9 : Below w.heap.size w w6 := HBW.out.trans (HBS6.out.below HX.out.1 HX.out.2 HBW.out.size)
  exact ⟨rfl, (h9.trans (((Below.refl w6.heap.size w6).moreS j).mono h9.size)).junk⟩
end Go.Proofs.Ytngnjlidfhenkaa
