/-
  Pings: the law PingsPlays.
-/
import Derived.Test.YtngnjlidfhenkaaPng13
namespace Go.Proofs.Ytngnjlidfhenkaa
set_option linter.unusedSimpArgs false
set_option linter.unusedVariables false
set_option linter.unusedSectionVars false
open Go.ChangeShapes Go.WideShapes Go.ChangeAt Go.RowKit Go.Deep Go.ChangeMaps

/-- What stands between two calls of a round: the document's row v of ms, the program's pings of P. -/
structure PSt (w : World) (B b mb : Nat) (m0 : Int) (n : Nat) (P : List (List UInt8)) (v : Value) (ms : List Bv) (y : World) : Prop where
  row : RowB B y v ms
  pg : PgI y b mb m0 n P
  all8 : All8 P
  below : Below w.heap.size w y
  size : B ≤ y.heap.size
theorem PSt.next {w : World} {B b mb : Nat} {m0 : Int} {n : Nat} {P : List (List UInt8)} {v : Value} {ms : List Bv} {y y' : World} (h : PSt w B b mb m0 n P v ms y) (hb : Below y.heap.size y y') : PSt w B b mb m0 n P v ms y' :=
  ⟨h.row.below hb, h.pg.below hb, h.all8, h.below.trans (hb.mono h.below.size), Nat.le_trans h.size hb.size⟩
theorem PSt.turn {w : World} {B b mb : Nat} {m0 : Int} {n : Nat} {P : List (List UInt8)} {v : Value} {ms : List Bv} {y y' : World} (h : PSt w B b mb m0 n P v ms y) (hb : Below y.heap.size y y') {v' : Value} {ms' : List Bv} (hr : RowB B y' v' ms') : PSt w B b mb m0 n P v' ms' y' :=
  ⟨hr, h.pg.below hb, h.all8, h.below.trans (hb.mono h.below.size), Nat.le_trans h.size hb.size⟩
theorem PSt.deed {w : World} {B b mb : Nat} {m0 : Int} {n m : Nat} {P P' : List (List UInt8)} {v : Value} {ms : List Bv} {y y' : World} (h : PSt w B b mb m0 n P v ms y) (hB : Beside b mb y y') (hp : PgI y' b mb m0 m P') (h8 : All8 P') (h1 : b < B) (h2 : mb < B) (h3 : w.heap.size ≤ b) (h4 : w.heap.size ≤ mb) : PSt w B b mb m0 m P' v ms y' :=
  ⟨h.row.beside hB h1 h2, hp, h8, h.below.trans (hB.below h3 h4 h.below.size), Nat.le_trans h.size hB.size⟩
theorem Blk.beside {w w' : World} {g b mb : Nat} {t : TypeId} {cs : Array Value} (h : Blk w g t cs) (hB : Beside b mb w w') (h1 : g ≠ b) (h2 : g ≠ mb) : Blk w' g t cs := (hB.block g h.lt h1 h2).trans h
theorem pings_Len_any (b mb n : Nat) (most : Int) (P : List (List UInt8)) (m : Nat) (hm : P.length = m) (w : World) (hP : PgI w b mb most n P) : Calls Try.prog 13 #[.pointer (some ⟨b, 0, none⟩)] w fun e w' => e = .returned (.int .i64 (m : Int)) ∧ w = w' := by
  obtain ⟨N, _, hP⟩ := hP
  subst hm
  exact pings_Len b mb N most P w hP
def AnsR (B : Nat) (P : List (List UInt8)) (r : Bool) (w : World) (e : Ending) (w' : World) : Prop := ∃ v' ms', e = .returned (.tuple #[v', .bool r]) ∧ RowB B w' v' ms' ∧ ms'.map Bv.l = P ∧ Below w.heap.size w w'
theorem ref36_Answer_r (B : Nat) (v : Value) (ms : List Bv) (a : Option Addr) (cap : Nat) (k : List UInt8) (hml : ms.length ≤ 100000) (hk : k.length ≤ 100000) (hel : ∀ x ∈ ms, x.l.length ≤ 100000) (w : World) (hB : B ≤ w.heap.size) (hR : RowB B w v ms) (hS : SlY w w.heap.size a k) (P : List (List UInt8)) (hP : P = ms.map Bv.l) (r : Bool) (hr : decide (k ∈ P) = r) :
    Calls Try.prog 8 #[v, .slice a k.length cap] w (AnsR B (P.erase k) r w) := by
  subst hP hr
  exact ref36_Answer B v ms a cap k hml hk hel w hB hR hS
set_option maxHeartbeats 4000000 in
set_option maxRecDepth 100000 in
theorem plays_big (most : Int) (a : Option Addr) (cap : Nat) (l : List Dd) (w : World) (hm : l.length ≤ maxLen) (hS : SlD w w w.heap.size a l) (hbig : bigD l = true) :
    Calls Try.prog 3 #[.int .i64 most, .slice a l.length cap] w fun e w' => e = .returned (.bool true) ∧ ∃ j, w' = w.more j := by
  have h1 := law36_large a cap l w hm hS
  rw [hbig] at h1
  have HL := Lib.hid h1
  clear h1 hS
  go_enter Try.func3, Try.ntmps3
  go_wp2_with (first | (go_at_call 5; (with_reducible refine (HL.out).mono ?_); rintro e w' ⟨rfl, j, rfl⟩) | (go_at_call 6; (with_reducible refine (law36_alive _).mono ?_); rintro e w' ⟨rfl, j, rfl⟩))
  go_ret
  exact ⟨rfl, Below.junk (by repeat (first | (with_reducible exact Below.refl _ _) | (with_reducible refine Below.allocS ?_ _) | (with_reducible refine Below.moreS ?_ _) | (with_reducible refine Below.drew ?_) | (with_reducible refine below_drewN ?_ _)))⟩
set_option maxHeartbeats 16000000 in
set_option maxRecDepth 100000 in
theorem plays_small (most : Int) (a : Option Addr) (cap : Nat) (l : List Dd) (w : World) (hm : l.length ≤ maxLen) (hS : SlD w w w.heap.size a l) (hbig : bigD l = false) :
    Calls Try.prog 3 #[.int .i64 most, .slice a l.length cap] w fun e w' => e = .returned (.bool true) ∧ ∃ j, w' = w.more j := by
  have h1 := law36_large a cap l w hm hS
  rw [hbig] at h1
  have HL := Lib.hid h1
  have HS := Lib.hid hS
  have hbg : l.length ≤ 60 ∧ ∀ x ∈ l, x.l.length ≤ 100 := by
    unfold bigD at hbig
    rw [Bool.or_eq_false_iff] at hbig
    refine ⟨by have := of_decide_eq_false hbig.1; omega, fun x hx => ?_⟩
    have := List.any_eq_false.1 hbig.2 x hx
    simp at this
    exact this
  have HBG := Lib.hid hbg
  clear h1 hS hbig hbg
  go_enter Try.func3, Try.ntmps3
  go_wp2_with (go_at_call 5; (with_reducible refine (HL.out).mono ?_); rintro e w' ⟨rfl, j, rfl⟩)
  refine (pings_New most _).mono ?_
  rintro e w1 ⟨b, mb, rfl, hP, hb, hmb, hbw⟩
  obtain ⟨m0, hm0⟩ : ∃ m0 : Int, m0 = if most < 0 then 0 else most := ⟨_, rfl⟩
  rw [← hm0] at hP
  have HSM : Hid (∀ P k, sendE m0 P k = sendE most P k ∧ sendP m0 P k = sendP most P k) := fun P k => by rw [hm0]; exact send_most most P k
  have hbw1 : Below w.heap.size w w1 := Below.trans (b := w.more j) ((Below.refl _ _).moreS j) (hbw.mono ((Below.refl _ _).moreS j : Below w.heap.size w (w.more j)).size)
  have HX : Hid (b < w1.heap.size ∧ mb < w1.heap.size ∧ w.heap.size ≤ b ∧ w.heap.size ≤ mb) := ⟨hP.blk.lt, hP.map.lt, Nat.le_trans ((Below.refl _ _).moreS j : Below w.heap.size w (w.more j)).size hb, Nat.le_trans ((Below.refl _ _).moreS j : Below w.heap.size w (w.more j)).size hmb⟩
  obtain ⟨B, hBd⟩ : ∃ B, B = w1.heap.size := ⟨_, rfl⟩
  have HS0 : Hid (PSt w B b mb m0 0 [] (.slice none 0 0) [] w1) := ⟨RowB.nil _ _, ⟨0, Nat.le_refl _, hP⟩, (fun x hx => by cases hx), hbw1, Nat.le_of_eq hBd⟩
  rw [← hBd] at HX
  clear hm0 hP hbw1 hb hmb hbw HL hBd
  go_wp2_with fail
  go_loopg [7, 23] l.length (fun g v i wr => ∃ q : Nat, q + g = l.length ∧ i = .int .i64 q ∧ ∃ (ms : List Bv) (y : World), y = wr ∧ Hid (PSt w B b mb m0 q (ms.map Bv.l) v ms y ∧ ms.length ≤ q))
  case atStart => exact ⟨0, by omega, rfl, [], _, rfl, HS0.out, Nat.le_refl _⟩
  case round =>
    obtain ⟨q, hqg, rfl, ms, wr, rfl, HI⟩ := hrel
    have HK := Lib.hid hqg
    clear hqg
    by_cases hlt : q < l.length
    · obtain ⟨bb, off, rfl, hb, c0, c1, hsy, hmx⟩ := HS.out.atD hlt
      have hx100 := HBG.out.2 l[q] (List.getElem_mem hlt)
      have hq60 : q < 60 := by have := HBG.out.1; omega
      have hlt' : (q : Int) < l.length := by omega
      have hwq : IntKind.i64.wrap ((q : Int) + 1) = (q : Int) + 1 := IntWalk.i64_in _ (by omega)
      generalize hz : l[q] = z at c0 c1 hsy hmx hx100
      clear hz
      obtain ⟨za, zad, zl, zc⟩ := z
      simp only at c0 c1 hsy hmx hx100
      have HSY := Lib.hid hsy
      have HBW := Lib.hid HI.out.1.below
      have e0 := HI.out.1.below.cell (p := ⟨bb, off + q * 2, none⟩) hb
      have e1 := HI.out.1.below.cell (p := ⟨bb, off + q * 2 + 1, none⟩) hb
      rw [c0] at e0
      rw [c1] at e1
      have hbw : bb < wr.heap.size := Nat.lt_of_lt_of_le hb HI.out.1.below.size
      obtain ⟨P, hP⟩ : ∃ P, P = ms.map Bv.l := ⟨_, rfl⟩
      have hms : ms.length ≤ q := HI.out.2
      have HI1 := Lib.hid HI.out.1
      rw [← hP] at HI1
      have HPM := Lib.hid hP
      have hel : ∀ x ∈ ms, x.l.length ≤ 100000 := fun x hx => by have := HI.out.1.all8 x.l (List.mem_map_of_mem hx); omega
      have HEL := Lib.hid hel
      have hPl : P.length ≤ q := by rw [hP, List.length_map]; exact hms
      have HML := Lib.hid (⟨hms, hPl⟩ : ms.length ≤ q ∧ P.length ≤ q)
      have HZ := Lib.hid (⟨hx100, hq60⟩ : zl.length ≤ 100 ∧ q < 60)
      clear hsy c0 c1 hmx HI hb hP hel hms hPl hx100 hq60
      obtain ⟨y1, hy1⟩ : ∃ x, x = wr.alloc (.cells #[.bool za, .slice zad zl.length zc] 30) := ⟨_, rfl⟩
      have hb1 : Below wr.heap.size wr y1 := by rw [hy1]; exact (by repeat (first | (with_reducible exact Below.refl _ _) | (with_reducible refine Below.allocS ?_ _) | (with_reducible refine Below.moreS ?_ _) | (with_reducible refine Below.drew ?_) | (with_reducible refine below_drewN ?_ _)))
      have HBK : Hid (Blk y1 wr.heap.size 30 #[.bool za, .slice zad zl.length zc]) := by rw [hy1]; exact Blk.new _ _ _
      have HI2 := Lib.hid (HI1.out.next hb1)
      have HWB : Hid (B ≤ wr.heap.size) := HI1.out.size
      clear hb1 HI1
      cases za
      · obtain ⟨E, hE⟩ : ∃ E, Hid (sendE most P zl = E) := ⟨_, Lib.hid rfl⟩
        obtain ⟨P2, hP2⟩ : ∃ P2, Hid (sendP most P zl = P2) := ⟨_, Lib.hid rfl⟩
        have HR := Lib.hid (ref36_Send_any B _ ms zad zc zl most (by have := HML.out; have := HZ.out; omega) y1 HI2.out.size HI2.out.row (HSY.out.keep HI2.out.below))
        rw [← HPM.out, hE.out, hP2.out] at HR
        have hEE : (E != E) = false := by simp
        have hEE2 : (E == E) = true := by simp
        go_wp2_with fail
        rw [← hy1]
        clear hy1
        refine HR.out.mono ?_
        rintro e y2 ⟨v', ms', rfl, hrow, hms', hb2⟩
        have HI3 := Lib.hid (HI2.out.turn hb2 hrow)
        have HM2 := Lib.hid hms'
        have HPL : Hid (P2.length = ms'.length) := by rw [← hms', List.length_map]; exact Lib.hid rfl
        have HLN : Hid (ms'.length ≤ q + 1) := by have h1 := HPL.out; have h2 := HML.out.2; have h3 := sendP_len (most := most) (P := P) (k := zl); rw [hP2.out] at h3; exact Lib.hid (by omega)
        have HBK2 := Lib.hid (HBK.out.below hb2 HBK.out.lt)
        obtain ⟨A', cc', rfl, _⟩ := hrow.row.read bvC_len
        obtain ⟨d0, d1, _, _, hd⟩ := HBK2.out.two
        have HA0 := pings_Send_any b mb q m0 P zad zc zl (by have := HZ.out; omega) (by have := HML.out; have := HZ.out; omega) y2 HI3.out.pg (HSY.out.keep HI3.out.below)
        rw [(HSM.out P zl).1, (HSM.out P zl).2, hE.out, hP2.out] at HA0
        have HA := Lib.hid HA0
        clear hrow hms' hb2 HI2 HR HBK e0 e1 hbw HA0
        go_wp2_with fail
        refine HA.out.mono ?_
        rintro e y4 ⟨rfl, hp4, hB4⟩
        have HI5 := Lib.hid (HI3.out.deed hB4 hp4 (by rw [← hP2.out]; exact HI3.out.all8.send) HX.out.1 HX.out.2.1 HX.out.2.2.1 HX.out.2.2.2)
        have HBK4 := Lib.hid (HBK2.out.beside hB4 (by have := HX.out.1; have := HWB.out; omega) (by have := HX.out.2.1; have := HWB.out; omega))
        obtain ⟨d0', d1', _, _, hd'⟩ := HBK4.out.two
        clear HA hp4 hB4 HI3 HBK2 d0 d1 hd
        go_wp2_with (go_at_call 12; (with_reducible refine (pings_Send_nil _ _).mono ?_); rintro e w' ⟨rfl, j, rfl⟩)
        refine (pings_Len_any b mb (q + 1) m0 _ ms'.length HPL.out _ (HI5.out.next (by repeat (first | (with_reducible exact Below.refl _ _) | (with_reducible refine Below.allocS ?_ _) | (with_reducible refine Below.moreS ?_ _) | (with_reducible refine Below.drew ?_) | (with_reducible refine below_drewN ?_ _)))).pg).mono ?_
        rintro e y6 ⟨rfl, rfl⟩
        go_wp2_with (go_at_call 13; (with_reducible refine (pings_Len_nil _).mono ?_); rintro e w' ⟨rfl, rfl⟩)
        go_roundg (l.length - (q + 1))
        case measure => have := HK.out; omega
        case rel => exact ⟨q + 1, by have := HK.out; omega, by simp, ms', _, rfl, by rw [HM2.out]; exact HI5.out.next (by repeat (first | (with_reducible exact Below.refl _ _) | (with_reducible refine Below.allocS ?_ _) | (with_reducible refine Below.moreS ?_ _) | (with_reducible refine Below.drew ?_) | (with_reducible refine below_drewN ?_ _))), HLN.out⟩
      · obtain ⟨r, hr⟩ : ∃ r, Hid (decide (zl ∈ P) = r) := ⟨_, Lib.hid rfl⟩
        have HR := Lib.hid (ref36_Answer_r B _ ms zad zc zl (by have := HML.out; have := HZ.out; omega) (by have := HZ.out; omega) HEL.out y1 HI2.out.size HI2.out.row (HSY.out.keep HI2.out.below) P HPM.out r hr.out)
        cases r
        · go_wp2_with fail
          rw [← hy1]
          clear hy1
          refine HR.out.mono ?_
          rintro e y2 ⟨v', ms', rfl, hrow, hms', hb2⟩
          have HI3 := Lib.hid (HI2.out.turn hb2 hrow)
          have HM2 := Lib.hid hms'
          have HPL : Hid ((P.erase zl).length = ms'.length) := by rw [← hms', List.length_map]; exact Lib.hid rfl
          have HLN : Hid (ms'.length ≤ q + 1) := by have h1 := HPL.out; have h2 := HML.out.2; have h3 := (List.erase_sublist (l := P) (a := zl)).length_le; exact Lib.hid (by omega)
          have HBK2 := Lib.hid (HBK.out.below hb2 HBK.out.lt)
          obtain ⟨A', cc', rfl, _⟩ := hrow.row.read bvC_len
          obtain ⟨d0, d1, _, _, hd⟩ := HBK2.out.two
          have HW := Lib.hid (pings_Waits_any b mb q m0 P zad zc zl HI3.out.all8 y2 HI3.out.pg (HSY.out.keep HI3.out.below))
          rw [hr.out] at HW
          have HR2 : Hid (decide (zl ∈ P) = false) := hr.out
          clear hrow hms' hb2 HI2 HR HBK e0 e1 hbw hr
          go_wp2_with (go_at_call 9; (with_reducible refine (HW.out).mono ?_); rintro e w' ⟨rfl, j, rfl⟩)
          have hb3 : Below y2.heap.size y2 (y2.more j) := (Below.refl _ _).moreS j
          have HI4 := Lib.hid (HI3.out.next hb3)
          have HBK3 := Lib.hid (HBK2.out.below hb3 HBK2.out.lt)
          have HA := pings_Answer_any b mb q m0 P zad zc zl HI4.out.all8 (by have := HZ.out; omega) (by have := HML.out; have := HZ.out; omega) (y2.more j) HI4.out.pg (HSY.out.keep HI4.out.below)
          rw [HR2.out] at HA
          refine HA.mono ?_
          rintro e y4 ⟨rfl, hp4, hB4⟩
          have HI5 := Lib.hid (HI4.out.deed hB4 hp4 HI4.out.all8.erase HX.out.1 HX.out.2.1 HX.out.2.2.1 HX.out.2.2.2)
          have HBK4 := Lib.hid (HBK3.out.beside hB4 (by have := HX.out.1; have := HWB.out; omega) (by have := HX.out.2.1; have := HWB.out; omega))
          obtain ⟨d0', d1', _, _, hd'⟩ := HBK4.out.two
          clear HA hp4 hB4 hb3 HI3 HI4 HBK2 HBK3 d0 d1 hd
          go_wp2_with (first | (go_at_call 9; (with_reducible refine (pings_Waits_nil _ _).mono ?_); rintro e w' ⟨rfl, j, rfl⟩) | (go_at_call 10; (with_reducible refine (pings_Answer_nil _ _).mono ?_); rintro e w' ⟨rfl, j, rfl⟩))
          refine (pings_Len_any b mb (q + 1) m0 _ ms'.length HPL.out _ (HI5.out.next (by repeat (first | (with_reducible exact Below.refl _ _) | (with_reducible refine Below.allocS ?_ _) | (with_reducible refine Below.moreS ?_ _) | (with_reducible refine Below.drew ?_) | (with_reducible refine below_drewN ?_ _)))).pg).mono ?_
          rintro e y6 ⟨rfl, rfl⟩
          go_wp2_with (go_at_call 13; (with_reducible refine (pings_Len_nil _).mono ?_); rintro e w' ⟨rfl, rfl⟩)
          go_roundg (l.length - (q + 1))
          case measure => have := HK.out; omega
          case rel => exact ⟨q + 1, by have := HK.out; omega, by simp, ms', _, rfl, by rw [HM2.out]; exact HI5.out.next (by repeat (first | (with_reducible exact Below.refl _ _) | (with_reducible refine Below.allocS ?_ _) | (with_reducible refine Below.moreS ?_ _) | (with_reducible refine Below.drew ?_) | (with_reducible refine below_drewN ?_ _))), HLN.out⟩
        · go_wp2_with fail
          rw [← hy1]
          clear hy1
          refine HR.out.mono ?_
          rintro e y2 ⟨v', ms', rfl, hrow, hms', hb2⟩
          have HI3 := Lib.hid (HI2.out.turn hb2 hrow)
          have HM2 := Lib.hid hms'
          have HPL : Hid ((P.erase zl).length = ms'.length) := by rw [← hms', List.length_map]; exact Lib.hid rfl
          have HLN : Hid (ms'.length ≤ q + 1) := by have h1 := HPL.out; have h2 := HML.out.2; have h3 := (List.erase_sublist (l := P) (a := zl)).length_le; exact Lib.hid (by omega)
          have HBK2 := Lib.hid (HBK.out.below hb2 HBK.out.lt)
          obtain ⟨A', cc', rfl, _⟩ := hrow.row.read bvC_len
          obtain ⟨d0, d1, _, _, hd⟩ := HBK2.out.two
          have HW := Lib.hid (pings_Waits_any b mb q m0 P zad zc zl HI3.out.all8 y2 HI3.out.pg (HSY.out.keep HI3.out.below))
          rw [hr.out] at HW
          have HR2 : Hid (decide (zl ∈ P) = true) := hr.out
          clear hrow hms' hb2 HI2 HR HBK e0 e1 hbw hr
          go_wp2_with (go_at_call 9; (with_reducible refine (HW.out).mono ?_); rintro e w' ⟨rfl, j, rfl⟩)
          have hb3 : Below y2.heap.size y2 (y2.more j) := (Below.refl _ _).moreS j
          have HI4 := Lib.hid (HI3.out.next hb3)
          have HBK3 := Lib.hid (HBK2.out.below hb3 HBK2.out.lt)
          have HA := pings_Answer_any b mb q m0 P zad zc zl HI4.out.all8 (by have := HZ.out; omega) (by have := HML.out; have := HZ.out; omega) (y2.more j) HI4.out.pg (HSY.out.keep HI4.out.below)
          rw [HR2.out] at HA
          refine HA.mono ?_
          rintro e y4 ⟨rfl, hp4, hB4⟩
          have HI5 := Lib.hid (HI4.out.deed hB4 hp4 HI4.out.all8.erase HX.out.1 HX.out.2.1 HX.out.2.2.1 HX.out.2.2.2)
          have HBK4 := Lib.hid (HBK3.out.beside hB4 (by have := HX.out.1; have := HWB.out; omega) (by have := HX.out.2.1; have := HWB.out; omega))
          obtain ⟨d0', d1', _, _, hd'⟩ := HBK4.out.two
          clear HA hp4 hB4 hb3 HI3 HI4 HBK2 HBK3 d0 d1 hd
          go_wp2_with (first | (go_at_call 9; (with_reducible refine (pings_Waits_nil _ _).mono ?_); rintro e w' ⟨rfl, j, rfl⟩) | (go_at_call 10; (with_reducible refine (pings_Answer_nil _ _).mono ?_); rintro e w' ⟨rfl, j, rfl⟩))
          refine (pings_Len_any b mb (q + 1) m0 _ ms'.length HPL.out _ (HI5.out.next (by repeat (first | (with_reducible exact Below.refl _ _) | (with_reducible refine Below.allocS ?_ _) | (with_reducible refine Below.moreS ?_ _) | (with_reducible refine Below.drew ?_) | (with_reducible refine below_drewN ?_ _)))).pg).mono ?_
          rintro e y6 ⟨rfl, rfl⟩
          go_wp2_with (go_at_call 13; (with_reducible refine (pings_Len_nil _).mono ?_); rintro e w' ⟨rfl, rfl⟩)
          go_roundg (l.length - (q + 1))
          case measure => have := HK.out; omega
          case rel => exact ⟨q + 1, by have := HK.out; omega, by simp, ms', _, rfl, by rw [HM2.out]; exact HI5.out.next (by repeat (first | (with_reducible exact Below.refl _ _) | (with_reducible refine Below.allocS ?_ _) | (with_reducible refine Below.moreS ?_ _) | (with_reducible refine Below.drew ?_) | (with_reducible refine below_drewN ?_ _))), HLN.out⟩
    · have hlt' : ¬ (q : Int) < l.length := by omega
      have HB := Lib.hid HI.out.1.below
      go_wp2_with (go_at_call 6; (with_reducible refine (law36_alive _).mono ?_); rintro e w' ⟨rfl, j, rfl⟩)
      go_ret
      exact ⟨rfl, Below.junk (HB.out.moreS _)⟩
theorem pingsPlays_law (most : Int) (a : Option Addr) (cap : Nat) (l : List Dd) (w : World) (hm : l.length ≤ maxLen) (hS : SlD w w w.heap.size a l) :
    Calls Try.prog 3 #[.int .i64 most, .slice a l.length cap] w fun e w' => e = .returned (.bool true) ∧ ∃ j, w' = w.more j := by
  cases h : bigD l
  · exact plays_small most a cap l w hm hS h
  · exact plays_big most a cap l w hm hS h
end Go.Proofs.Ytngnjlidfhenkaa
