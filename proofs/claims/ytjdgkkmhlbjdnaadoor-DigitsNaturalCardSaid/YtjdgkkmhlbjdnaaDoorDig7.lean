/-
  Numbers as digits: lists as texts, both roads; two lists compared.
-/
import Derived.Test.YtjdgkkmhlbjdnaaDoorDig6
import Derived.Test.YtjdgkkmhlbjdnaaDoorDig4
import Derived.Test.YtjdgkkmhlbjdnaaDoorOwn
import Derived.Test.YtjdgkkmhlbjdnaaDoorWord1
import Derived.Test.YtjdgkkmhlbjdnaaDoorWs
namespace Go.Proofs.YtjdgkkmhlbjdnaaDoor
set_option linter.unusedSimpArgs false
set_option linter.unusedVariables false
set_option linter.unusedSectionVars false
open Go.ChangeShapes Go.WideShapes Go.ChangeAt Go.RowKit Go.Deep Go.Shelf

def sameI (a b : List Int) : Bool := a == b
set_option maxHeartbeats 4000000 in
set_option maxRecDepth 100000 in
theorem ref03_Same (a a' : Option Addr) (cap cap' : Nat) (l l' : List Int) (w0 w : World) (hm : l.length ≤ 1048576) (hm' : l'.length ≤ 1048576) (hb : Below w0.heap.size w0 w) (hs0 : SlI w0 w0.heap.size a l) (hs0' : SlI w0 w0.heap.size a' l') :
    Calls Tryd.prog 62 #[.slice a l.length cap, .slice a' l'.length cap'] w fun e w' => e = .returned (.bool (sameI l l')) ∧ ∃ j, w' = w.more j := by
  have hs := hs0.below hb (Nat.le_refl _)
  have hs' := hs0'.below hb (Nat.le_refl _)
  have hz := hb.size
  clear hb hs0 hs0'
  cases hne : ((l.length : Int) == (l'.length : Int)) with
  | false =>
    have hn2 : ((l.length : Int) != (l'.length : Int)) = true := by unfold bne; rw [hne]; rfl
    have hR : sameI l l' = false := by
      cases h : sameI l l' with
      | false => rfl
      | true => have : l = l' := by simpa [sameI] using h
                subst this; simp at hne
    rw [hR]
    go_enter Tryd.func62, Tryd.ntmps62
    go_wp2_with fail
    go_ret
    exact ⟨rfl, Below.junk (by repeat (first | (with_reducible exact Below.refl _ _) | (with_reducible refine Below.allocS ?_ _) | (with_reducible refine Below.moreS ?_ _) | (with_reducible refine Below.drew ?_) | (with_reducible refine below_drewN ?_ _)))⟩
  | true =>
    have hn2 : ((l.length : Int) != (l'.length : Int)) = false := by unfold bne; rw [hne]; rfl
    have hll : l.length = l'.length := by rw [beq_iff_eq] at hne; omega
    have HL := Lib.hid hll
    clear hll
    have HS : Hid (∀ k (h : k < l.length) (h' : k < l'.length), ¬ l[k] = l'[k] → sameI l l' = false) := fun k h h' hd => by
      cases hq : sameI l l' with
      | false => rfl
      | true => have : l = l' := by simpa [sameI] using hq
                subst this; exact absurd rfl hd
    have HT : Hid ((∀ k (h : k < l.length) (h' : k < l'.length), l[k] = l'[k]) → sameI l l' = true) := fun h => by
      have : l = l' := List.ext_getElem HL.out h
      simp [sameI, this]
    generalize sameI l l' = R at HS HT ⊢
    go_enter Tryd.func62, Tryd.ntmps62
    go_wp2_with fail
    go_loopw [5] (fun i wr => ∃ k : Nat, k ≤ l.length ∧ i = .int .i64 k ∧ (∃ j, wr = w.more j) ∧ Hid (∀ q (h : q < l.length) (h' : q < l'.length), q < k → l[q] = l'[q])) (fun i _ => l.length - (intOf i).toNat)
    case atStart => exact ⟨0, by omega, rfl, ⟨_, more_self w⟩, fun q _ _ h => absurd h (by omega)⟩
    case round =>
      obtain ⟨k, hk, rfl, ⟨j, rfl⟩, HQ⟩ := hrel
      by_cases hlt : k < l.length
      · have hlt' : k < l'.length := by have := HL.out; omega
        obtain ⟨b, off, rfl, hb, c0⟩ := hs.atI hlt
        obtain ⟨b', off', rfl, hb', c0'⟩ := hs'.atI hlt'
        have HD := Lib.hid (HS.out k hlt hlt')
        have HE : Hid (l[k] = l'[k] → ∀ q (h : q < l.length) (h' : q < l'.length), q < k + 1 → l[q] = l'[q]) := fun he q h h' hq => by
          by_cases hqk : q = k
          · subst hqk; exact he
          · exact HQ.out q h h' (by omega)
        clear HS HQ HT
        obtain ⟨x, ex⟩ : ∃ x, l[k] = x := ⟨_, rfl⟩
        obtain ⟨y, ey⟩ : ∃ y, l'[k] = y := ⟨_, rfl⟩
        rw [ex] at c0
        rw [ey] at c0'
        rw [ex, ey] at HD HE
        clear ex ey
        cases hq : (x == y)
        · have hq2 : (x != y) = true := by unfold bne; rw [hq]; rfl
          have hR := HD.out (by simpa using hq)
          subst hR
          have d0 : (w.more j).cell? ⟨b, off + k, none⟩ = some (.int .i64 x) := by rw [World.cell?_more _ _ _ (by omega)]; exact c0
          have d1 : (w.more j).cell? ⟨b', off' + k, none⟩ = some (.int .i64 y) := by rw [World.cell?_more _ _ _ (by omega)]; exact c0'
          have i1 : (k : Int) < l.length := by omega
          have i2 : (k : Int) < l'.length := by omega
          go_wp2_with fail
          go_quiet (fail)
          go_wp2_with fail
          go_ret
          exact ⟨rfl, Below.junk (by repeat (first | (with_reducible exact Below.refl _ _) | (with_reducible refine Below.allocS ?_ _) | (with_reducible refine Below.moreS ?_ _) | (with_reducible refine Below.drew ?_) | (with_reducible refine below_drewN ?_ _)))⟩
        · have hq2 : (x != y) = false := by unfold bne; rw [hq]; rfl
          have HE2 := Lib.hid (HE.out (by simpa using hq))
          have d0 : (w.more j).cell? ⟨b, off + k, none⟩ = some (.int .i64 x) := by rw [World.cell?_more _ _ _ (by omega)]; exact c0
          have d1 : (w.more j).cell? ⟨b', off' + k, none⟩ = some (.int .i64 y) := by rw [World.cell?_more _ _ _ (by omega)]; exact c0'
          have i1 : (k : Int) < l.length := by omega
          have i2 : (k : Int) < l'.length := by omega
          clear HE
          go_wp2_with fail
          go_quiet (fail)
          go_wp2_with fail
          go_roundw
          case rel => exact ⟨k + 1, hlt, by go_num, Below.junk (by repeat (first | (with_reducible exact Below.refl _ _) | (with_reducible refine Below.allocS ?_ _) | (with_reducible refine Below.moreS ?_ _) | (with_reducible refine Below.drew ?_) | (with_reducible refine below_drewN ?_ _))), HE2.out⟩
          case measure => simp [intOf]; omega
      · have hR := HT.out (fun q h h' => HQ.out q h h' (by omega))
        subst hR
        clear HS HT HQ
        go_wp2_with fail
        go_ret
        exact ⟨rfl, Below.junk (by repeat (first | (with_reducible exact Below.refl _ _) | (with_reducible refine Below.allocS ?_ _) | (with_reducible refine Below.moreS ?_ _) | (with_reducible refine Below.drew ?_) | (with_reducible refine below_drewN ?_ _)))⟩
theorem sameI_self (l : List Int) : sameI l l = true := by simp [sameI]

set_option maxHeartbeats 4000000 in
set_option maxRecDepth 100000 in
theorem ref03_List (a : Option Addr) (cap : Nat) (l : List Int) (hm : l.length ≤ 1000) (hg : ∀ n ∈ l, goodI n) (w : World) (hs : SlI w w.heap.size a l) :
    Calls Tryd.prog 61 #[.slice a l.length cap] w fun e w' => e = .returned (bstr (listF l)) ∧ w = w' := by
  have HG := Lib.hid hg
  have HF : Hid (listF l = listF (l.take l.length)) := by show _ = _; rw [List.take_length]
  clear hg
  generalize listF l = R at HF ⊢
  go_enter Tryd.func61, Tryd.ntmps61
  go_wp2_with fail
  go_loop [3, 4] (fun s i => ∃ (k : Nat) (acc : List UInt8), k ≤ l.length ∧ i = .int .i64 k ∧ s = bstr acc ∧ acc.length ≤ 21 * k ∧ Hid (acc = listF (l.take k))) (fun _ i => l.length - (intOf i).toNat)
  case atStart => exact ⟨0, [], by omega, rfl, rfl, by simp, by show _ = _; simp [listF, Lib.join_nil]⟩
  case round =>
    obtain ⟨k, acc, hk, rfl, rfl, hacc, HA⟩ := hrel
    by_cases hlt : k < l.length
    · obtain ⟨b, off, rfl, hb, c0⟩ := hs.atI hlt
      have hgk := HG.out _ (List.getElem_mem hlt)
      have hlen := itoa_len hgk.1 hgk.2
      have HT : Hid (∀ W, Calls Tryd.prog 53 #[.int .i64 l[k]] W fun e w' => e = .returned (bstr (Lib.itoa l[k])) ∧ W = w') := fun W => ref03_Text _ hgk.1 hgk.2 W
      have HS : Hid (listF (l.take (k + 1)) = if k = 0 then Lib.itoa l[k] else acc ++ [44] ++ Lib.itoa l[k]) := by show _ = _; rw [list_step l k hlt, HA.out]
      have HK0 := Lib.hid HA.out
      generalize Lib.itoa l[k] = t at HT HS hlen
      generalize l[k] = x at c0 HT
      clear hgk HA
      by_cases k0 : k = 0
      · have HS0 : Hid (acc ++ t = listF (l.take (k + 1))) := by show _ = _; rw [HS.out, if_pos k0, HK0.out, k0]; simp [listF, Lib.join_nil]
        have k1 : ¬ (0 : Int) < k := by omega
        clear k0 HS HK0
        go_wp2_with (go_at_call 53; (with_reducible refine (HT.out _).mono ?_); rintro e w' ⟨rfl, rfl⟩)
        go_round
        case rel => exact ⟨k + 1, acc ++ t, by omega, by go_num, by simp, by simp; omega, HS0⟩
        case measure => simp [intOf]; omega
      · have HS0 : Hid (acc ++ [44] ++ t = listF (l.take (k + 1))) := by show _ = _; rw [HS.out, if_neg k0]
        have k1 : (0 : Int) < k := by omega
        clear k0 HS HK0
        go_wp2_with (go_at_call 53; (with_reducible refine (HT.out _).mono ?_); rintro e w' ⟨rfl, rfl⟩)
        go_round
        case rel => exact ⟨k + 1, acc ++ [44] ++ t, by omega, by go_num, by simp, by simp; omega, HS0⟩
        case measure => simp [intOf]; omega
    · have hR : R = acc := by rw [HF.out, HA.out, show k = l.length by omega]
      subst hR
      go_wp2_with fail
      go_ret
      exact ⟨rfl, rfl⟩

set_option maxHeartbeats 4000000 in
set_option maxRecDepth 100000 in
theorem digits_List (a : Option Addr) (cap : Nat) (l : List Int) (hm : l.length ≤ 1000) (hg : ∀ n ∈ l, goodI n) (w : World) (hE : Env w) (hs : SlI w w.heap.size a l) :
    Calls Tryd.prog 58 #[.slice a l.length cap] w fun e w' => e = .returned (bstr (listF l)) ∧ ∃ j, w' = w.more j := by
  have HG := Lib.hid hg
  have HF : Hid (listF l = listF (l.take l.length)) := by show _ = _; rw [List.take_length]
  have HE := Lib.hid hE
  clear hg hE
  generalize listF l = R at HF ⊢
  have hTl : ∀ k, k ≤ l.length → (listF (l.take k)).length ≤ 21 * k := fun k hk => by
    have := list_len (l.take k) (fun n hn => HG.out n (List.mem_of_mem_take hn))
    simp at this; omega
  have HTl := Lib.hid hTl
  clear hTl
  go_enter Tryd.func58, Tryd.ntmps58
  go_wp2_with fail
  go_loopg [8] l.length (fun g i wr => ∃ k : Nat, k + g = l.length ∧ i = .int .i64 k ∧ Below w.heap.size w wr ∧ Lib.IsBuilder BT BytT w.heap.size w.heap.size (Lib.byteCells (listF (l.take k))) wr)
  case atStart => exact ⟨0, by omega, rfl, (Below.refl _ _).alloc (Nat.le_refl _) _, by rw [show listF (l.take 0) = [] from by simp [listF, Lib.join_nil]]; exact Lib.fresh_isBuilder BT BytT w⟩
  case round =>
    obtain ⟨k, hkg, rfl, hb, HB⟩ := hrel
    by_cases hlt : k < l.length
    · have hsz := hb.size
      obtain ⟨b, off, rfl, hbb, c00⟩ := hs.atI hlt
      have c0 : wr.cell? ⟨b, off + k, none⟩ = some (.int .i64 l[k]) := (hb.cell (p := ⟨b, off + k, none⟩) hbb).trans c00
      clear c00
      have hgk := HG.out _ (List.getElem_mem hlt)
      have hlen := itoa_len hgk.1 hgk.2
      have hacc := HTl.out k (by omega)
      have HT : Hid (∀ W, Env W → Calls Tryd.prog 51 #[.int .i64 l[k]] W fun e w' => e = .returned (bstr (Lib.itoa l[k])) ∧ ∃ j, w' = W.more j) := fun W hW => digits_Text _ hgk.1 hgk.2 W hW
      have HS := Lib.hid (list_step l k hlt)
      have HK := Lib.hid hkg
      have HBE := Lib.hid hb
      have HB := Lib.hid HB
      obtain ⟨acc, hacce⟩ : ∃ acc, listF (l.take k) = acc := ⟨_, rfl⟩
      rw [hacce] at HS HB hacc
      have HK0 : Hid (k = 0 → acc = []) := fun h => by rw [← hacce, h]; simp [listF, Lib.join_nil]
      generalize Lib.itoa l[k] = t at HT HS hlen
      generalize l[k] = x at c0 HT
      clear hgk hkg hacce hb HTl
      by_cases k0 : k = 0
      · have HS0 : Hid (listF (l.take (k + 1)) = acc ++ t) := by show _ = _; rw [HS.out, if_pos k0, HK0.out k0]; rfl
        have k1 : ¬ (0 : Int) < k := by omega
        clear k0 HS HK0
        go_wp2_with fail
        refine (HT.out _ (HE.out.below HBE.out)).mono ?_
        rintro e w2 ⟨rfl, j, rfl⟩
        have HB2 := Lib.hid (builder_below HB.out (Below.moreS (Below.refl wr.heap.size wr) j))
        go_wp2_with fail
        refine (writeS w.heap.size w.heap.size acc t _ HB2.out (by omega) (by rw [World.size_more]; have := HBE.out.size; omega)).mono ?_
        rintro e w3 ⟨rfl, HB3, hb3⟩
        rw [← HS0.out] at HB3
        have hb4 := (HBE.out.trans ((Below.moreS (Below.refl wr.heap.size wr) j).mono HBE.out.size)).trans hb3
        have HB3 := Lib.hid HB3
        have HB4 := Lib.hid hb4
        clear hb3 hb4
        go_wp2_with fail
        go_roundg (l.length - (k + 1))
        case measure => have := HK.out; omega
        case rel => exact ⟨k + 1, by have := HK.out; omega, by go_num, HB4.out, HB3.out⟩
      · have HS0 : Hid (listF (l.take (k + 1)) = acc ++ [44] ++ t) := by show _ = _; rw [HS.out, if_neg k0]
        have k1 : (0 : Int) < k := by omega
        clear k0 HS HK0
        go_wp2_with fail
        refine (writeB w.heap.size w.heap.size acc 44 wr HB.out (by omega) HBE.out.size).mono ?_
        rintro e w1 ⟨rfl, HB1, hb1⟩
        have c1 : w1.cell? ⟨b, off + k, none⟩ = some (.int .i64 x) := (hb1.cell (p := ⟨b, off + k, none⟩) hbb).trans c0
        have HB1 := Lib.hid HB1
        have HBW := Lib.hid (HBE.out.trans hb1)
        clear hb1
        go_wp2_with fail
        refine (HT.out _ (HE.out.below HBW.out)).mono ?_
        rintro e w2 ⟨rfl, j, rfl⟩
        have HB2 := Lib.hid (builder_below HB1.out (Below.moreS (Below.refl w1.heap.size w1) j))
        go_wp2_with fail
        refine (writeS w.heap.size w.heap.size (acc ++ [44]) t _ HB2.out (by simp; omega) (by rw [World.size_more]; have := HBW.out.size; omega)).mono ?_
        rintro e w3 ⟨rfl, HB3, hb3⟩
        rw [← HS0.out] at HB3
        have hb4 := (HBW.out.trans ((Below.moreS (Below.refl w1.heap.size w1) j).mono HBW.out.size)).trans hb3
        have HB3 := Lib.hid HB3
        have HB4 := Lib.hid hb4
        clear hb3 hb4
        go_wp2_with fail
        go_roundg (l.length - (k + 1))
        case measure => have := HK.out; omega
        case rel => exact ⟨k + 1, by have := HK.out; omega, by go_num, HB4.out, HB3.out⟩
    · have hk : k = l.length := by omega
      subst hk
      rw [← HF.out] at HB
      have HB := Lib.hid HB
      have HBE := Lib.hid hb
      clear hb
      go_wp2_with fail
      refine (Tryd.Builder_String_any w.heap.size w.heap.size _ wr HB.out HBE.out.size).mono ?_
      rintro e w2 ⟨rfl, hb2⟩
      have HB2 := Lib.hid hb2
      clear hb2
      go_wp2_with fail
      go_ret
      exact ⟨rfl, (HBE.out.trans HB2.out).junk⟩
end Go.Proofs.YtjdgkkmhlbjdnaaDoor
