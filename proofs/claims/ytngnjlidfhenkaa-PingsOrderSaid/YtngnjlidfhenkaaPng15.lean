/-
  Pings: the law PingsOrder.
-/
import Derived.Test.YtngnjlidfhenkaaPng14
namespace Go.Proofs.Ytngnjlidfhenkaa
set_option linter.unusedSimpArgs false
set_option linter.unusedVariables false
set_option linter.unusedSectionVars false
open Go.ChangeShapes Go.WideShapes Go.ChangeAt Go.RowKit Go.Deep Go.ChangeMaps

/-- Eight bytes. -/
structure K8 where
  x0 : UInt8
  x1 : UInt8
  x2 : UInt8
  x3 : UInt8
  x4 : UInt8
  x5 : UInt8
  x6 : UInt8
  x7 : UInt8
def K8.k (x : K8) : List UInt8 := [x.x0, x.x1, x.x2, x.x3, x.x4, x.x5, x.x6, x.x7]
def K8.cells (x : K8) : List Value := byCs x.k
theorem kkC_len (x : K8) : x.cells.length = 8 := rfl
theorem kkC_one (x : K8) : ∀ u ∈ x.cells, u.oneCell' = true := by
  intro u hu
  unfold K8.cells byCs at hu
  obtain ⟨c, _, rfl⟩ := List.mem_map.1 hu
  rfl
def zK : Value := .agg #[.int .u8 0, .int .u8 0, .int .u8 0, .int .u8 0, .int .u8 0, .int .u8 0, .int .u8 0, .int .u8 0]
theorem st_kk : SliceTy Try.prog 40 PkT zK 8 8 := .mk' Try.underlying40 (by kernel_rfl) rfl (by omega)
abbrev OwnK (B : Nat) (w : World) (v : Value) (ms : List K8) : Prop := OwnC PkT 8 K8.cells B w v ms
abbrev SlK (w : World) (B : Nat) (a : Option Addr) (l : List K8) : Prop := SlR w B 8 (fun x cs => cs = K8.cells x) a l
/-- The eight cells behind an address. -/
def Cells8 (w : World) (b o : Nat) (x : K8) : Prop := w.cell? ⟨b, o, none⟩ = some (.int .u8 (x.x0.toNat : Int)) ∧ w.cell? ⟨b, o + 1, none⟩ = some (.int .u8 (x.x1.toNat : Int)) ∧ w.cell? ⟨b, o + 2, none⟩ = some (.int .u8 (x.x2.toNat : Int)) ∧ w.cell? ⟨b, o + 3, none⟩ = some (.int .u8 (x.x3.toNat : Int)) ∧ w.cell? ⟨b, o + 4, none⟩ = some (.int .u8 (x.x4.toNat : Int)) ∧ w.cell? ⟨b, o + 5, none⟩ = some (.int .u8 (x.x5.toNat : Int)) ∧ w.cell? ⟨b, o + 6, none⟩ = some (.int .u8 (x.x6.toNat : Int)) ∧ w.cell? ⟨b, o + 7, none⟩ = some (.int .u8 (x.x7.toNat : Int))
theorem SlR.atK {w : World} {B : Nat} {a : Option Addr} {l : List K8} (h : SlK w B a l) {q : Nat} (hq : q < l.length) : ∃ b off, a = some ⟨b, off, none⟩ ∧ b < B ∧ Cells8 w b (off + q * 8) l[q] := by
  obtain ⟨b, off, cs, ha, hb, rfl, hc⟩ := h q hq
  exact ⟨b, off, ha, hb, hc 0 _ rfl, hc 1 _ rfl, hc 2 _ rfl, hc 3 _ rfl, hc 4 _ rfl, hc 5 _ rfl, hc 6 _ rfl, hc 7 _ rfl⟩
theorem Cells8.keep {w w' : World} {b o : Nat} {x : K8} (h : Cells8 w b o x) (hb : ∀ j, w'.cell? ⟨b, j, none⟩ = w.cell? ⟨b, j, none⟩) : Cells8 w' b o x := by
  unfold Cells8
  simp only [hb]
  exact h
theorem slY_blk {w : World} {g : Nat} {x : K8} (h : Blk w g PkT #[.int .u8 (x.x0.toNat : Int), .int .u8 (x.x1.toNat : Int), .int .u8 (x.x2.toNat : Int), .int .u8 (x.x3.toNat : Int), .int .u8 (x.x4.toNat : Int), .int .u8 (x.x5.toNat : Int), .int .u8 (x.x6.toNat : Int), .int .u8 (x.x7.toNat : Int)]) : SlY w w.heap.size (some ⟨g, 0, none⟩) x.k :=
  (SlR.of_blk (c := byC) (R := fun x cs => cs = byC x) h rfl (fun _ _ => rfl) (fun _ _ => rfl)).mono h.lt (fun _ _ _ h => h)
theorem OwnC.beside {α : Type} {e : TypeId} {size : Nat} {c : α → List Value} {B b mb : Nat} {w w' : World} {v : Value} {l : List α} (h : OwnC e size c B w v l) (hB : Beside b mb w w') (h1 : b < B) (h2 : mb < B) : OwnC e size c B w' v l := by
  have h0 : w.ownsRow B e size v l.length (l.flatMap c) := h
  refine ⟨h0.1, ?_⟩
  rcases h0.2 with ⟨h3, h4⟩ | ⟨g, cap, cur, h3, hg, hh, h5⟩
  · exact .inl ⟨h3, h4⟩
  · exact .inr ⟨g, cap, cur, h3, hg, (hB.block g (Array.getElem?_eq_some_iff.1 hh).1 (by omega) (by omega)).trans hh, h5⟩
theorem PgI.low {B : Nat} {w w' : World} {b mb n : Nat} {most : Int} {P : List (List UInt8)} (h : PgI w b mb most n P) (hb : Below B w w') (h1 : b < B) (h2 : mb < B) : PgI w' b mb most n P := by
  obtain ⟨N, h3, h4⟩ := h
  exact ⟨N, h3, h4.blk.below hb h1, h4.map.block (hb.block mb h2), h4.ne⟩
/-- What stands between two calls: the row v of ms, the pings of P. -/
structure KSt (w : World) (B b mb : Nat) (n : Nat) (P : List (List UInt8)) (v : Value) (ms : List K8) (y : World) : Prop where
  row : OwnK B y v ms
  pg : PgI y b mb 40 n P
  below : Below w.heap.size w y
  size : B ≤ y.heap.size
theorem KSt.next {w : World} {B b mb n : Nat} {P : List (List UInt8)} {v : Value} {ms : List K8} {y y' : World} (h : KSt w B b mb n P v ms y) (hb : Below y.heap.size y y') : KSt w B b mb n P v ms y' :=
  ⟨h.row.below hb (Nat.le_refl _), h.pg.below hb, h.below.trans (hb.mono h.below.size), Nat.le_trans h.size hb.size⟩
theorem KSt.turn {w : World} {B b mb n : Nat} {P : List (List UInt8)} {v : Value} {ms : List K8} {y y' : World} (h : KSt w B b mb n P v ms y) (hb : Below B y y') (h1 : b < B) (h2 : mb < B) (h3 : w.heap.size ≤ B) {v' : Value} {ms' : List K8} (hr : OwnK B y' v' ms') : KSt w B b mb n P v' ms' y' :=
  ⟨hr, h.pg.low hb h1 h2, h.below.trans (hb.mono h3), Nat.le_trans h.size hb.size⟩
theorem KSt.deed {w : World} {B b mb n m : Nat} {P P' : List (List UInt8)} {v : Value} {ms : List K8} {y y' : World} (h : KSt w B b mb n P v ms y) (hB : Beside b mb y y') (hp : PgI y' b mb 40 m P') (h1 : b < B) (h2 : mb < B) (h3 : w.heap.size ≤ b) (h4 : w.heap.size ≤ mb) : KSt w B b mb m P' v ms y' :=
  ⟨h.row.beside hB h1 h2, hp, h.below.trans (hB.below h3 h4 h.below.size), Nat.le_trans h.size hB.size⟩
theorem send_room {most : Int} {P : List (List UInt8)} {k : List UInt8} (h8 : k.length = 8) (hr : (P.length : Int) < most) : sendE most P k = 0 ∧ sendP most P k = P ++ [k] := by
  have hn : ¬ most ≤ (P.length : Int) := by omega
  unfold sendE sendP
  rw [if_pos h8, if_pos h8, if_neg hn, if_neg hn]
  exact ⟨rfl, rfl⟩
theorem all8_map (l : List K8) : All8 (l.map K8.k) := fun x hx => by obtain ⟨z, _, rfl⟩ := List.mem_map.1 hx; rfl
theorem All8.perm {P Q : List (List UInt8)} (h : All8 P) (hp : P.Perm Q) : All8 Q := fun x hx => h x (hp.mem_iff.2 hx)
theorem perm_take {P : List (List UInt8)} {ms : List K8} {d : Nat} (hp : P.Perm (ms.map K8.k)) (hd : d < ms.length) : (ms[d]).k ∈ P ∧ (P.erase (ms[d]).k).Perm ((ms.take d ++ ms.drop (d + 1)).map K8.k) := by
  have h1 : ms.Perm (ms[d] :: (ms.take d ++ ms.drop (d + 1))) := by
    have h2 : ms = ms.take d ++ ms[d] :: ms.drop (d + 1) := by rw [← List.drop_eq_getElem_cons hd, List.take_append_drop]
    rw (occs := .pos [1]) [h2]
    exact List.perm_middle
  have h3 := hp.trans (h1.map K8.k)
  rw [List.map_cons] at h3
  refine ⟨h3.mem_iff.2 (List.mem_cons_self ..), ?_⟩
  have h4 := h3.erase (ms[d]).k
  rwa [List.erase_cons_head] at h4
set_option maxHeartbeats 4000000 in
set_option maxRecDepth 100000 in
theorem order_big (a a' : Option Addr) (cap cap' : Nat) (l : List K8) (o : List UInt8) (w : World) (hm : l.length ≤ maxLen) (hm' : o.length ≤ maxLen) (hbig : 40 < l.length ∨ (l.length ≤ 40 ∧ 100 < o.length)) :
    Calls Try.prog 4 #[.slice a l.length cap, .slice a' o.length cap'] w fun e w' => e = .returned (.bool true) ∧ ∃ j, w' = w.more j := by
  rcases hbig with h | ⟨h, h'⟩
  · have h1 : (40 : Int) < (l.length : Int) := by omega
    go_enter Try.func4, Try.ntmps4
    go_wp2_with (go_at_call 6; (with_reducible refine (law36_alive _).mono ?_); rintro e w' ⟨rfl, j, rfl⟩)
    go_ret
    exact ⟨rfl, Below.junk (by repeat (first | (with_reducible exact Below.refl _ _) | (with_reducible refine Below.allocS ?_ _) | (with_reducible refine Below.moreS ?_ _) | (with_reducible refine Below.drew ?_) | (with_reducible refine below_drewN ?_ _)))⟩
  · have h1 : ¬ (40 : Int) < (l.length : Int) := by omega
    have h2 : (100 : Int) < (o.length : Int) := by omega
    go_enter Try.func4, Try.ntmps4
    go_wp2_with (go_at_call 6; (with_reducible refine (law36_alive _).mono ?_); rintro e w' ⟨rfl, j, rfl⟩)
    go_ret
    exact ⟨rfl, Below.junk (by repeat (first | (with_reducible exact Below.refl _ _) | (with_reducible refine Below.allocS ?_ _) | (with_reducible refine Below.moreS ?_ _) | (with_reducible refine Below.drew ?_) | (with_reducible refine below_drewN ?_ _)))⟩
set_option maxHeartbeats 32000000 in
set_option maxRecDepth 100000 in
theorem order_small (a a' : Option Addr) (cap cap' : Nat) (l : List K8) (o : List UInt8) (w : World) (hm : l.length ≤ 40) (hm' : o.length ≤ 100) (hS : SlK w w.heap.size a l) (hS' : SlY w w.heap.size a' o) :
    Calls Try.prog 4 #[.slice a l.length cap, .slice a' o.length cap'] w fun e w' => e = .returned (.bool true) ∧ ∃ j, w' = w.more j := by
  have HS := Lib.hid hS
  have HO := Lib.hid hS'
  have HLL := Lib.hid (⟨hm, hm'⟩ : l.length ≤ 40 ∧ o.length ≤ 100)
  have h1 : ¬ (40 : Int) < (l.length : Int) := by omega
  have h2 : ¬ (100 : Int) < (o.length : Int) := by omega
  clear hS hS' hm hm'
  go_enter Try.func4, Try.ntmps4
  go_wp2_with fail
  refine (pings_New 40 _).mono ?_
  rintro e w1 ⟨b, mb, rfl, hP, hb, hmb, hbw⟩
  rw [if_neg (by omega)] at hP
  have HX : Hid (b < w1.heap.size ∧ mb < w1.heap.size ∧ w.heap.size ≤ b ∧ w.heap.size ≤ mb) := ⟨hP.blk.lt, hP.map.lt, hb, hmb⟩
  obtain ⟨B, hBd⟩ : ∃ B, B = w1.heap.size := ⟨_, rfl⟩
  have HS0 : Hid (KSt w B b mb 0 [] (.slice (some ⟨w1.heap.size, 0, none⟩) 0 0) [] (w1.alloc (.cells #[] PkT))) := by
    rw [hBd]
    exact ⟨OwnC.empty w1, PgI.below (w := w1) ⟨0, Nat.le_refl _, hP⟩ (by repeat (first | (with_reducible exact Below.refl _ _) | (with_reducible refine Below.allocS ?_ _) | (with_reducible refine Below.moreS ?_ _) | (with_reducible refine Below.drew ?_) | (with_reducible refine below_drewN ?_ _))), hbw.alloc hbw.size _, by simp⟩
  rw [← hBd] at HX
  have HWB : Hid (w.heap.size ≤ B) := by rw [hBd]; exact hbw.size
  clear hP hb hmb hbw
  go_wp2_with fail
  go_loopg [6, 28] l.length (fun g v i wr => ∃ q : Nat, q + g = l.length ∧ i = .int .i64 q ∧ ∃ y : World, y = wr ∧ Hid (KSt w B b mb q ((l.take q).map K8.k) v (l.take q) y))
  case atStart => exact ⟨0, by omega, rfl, _, rfl, HS0.out⟩
  case round =>
    obtain ⟨q, hqg, rfl, wr, rfl, HI⟩ := hrel
    have HK := Lib.hid hqg
    clear hqg
    by_cases hlt : q < l.length
    · obtain ⟨bb, off, rfl, hb, hc8⟩ := HS.out.atK hlt
      have hc9 := hc8.keep (w' := wr) (fun j => HI.out.below.cell (p := ⟨bb, j, none⟩) hb)
      have hbw : bb < wr.heap.size := Nat.lt_of_lt_of_le hb HI.out.below.size
      have hlt' : (q : Int) < l.length := by omega
      have hq40 : q < 40 := by have := HLL.out.1; omega
      have hwq : IntKind.i64.wrap ((q : Int) + 1) = (q : Int) + 1 := IntWalk.i64_in _ (by omega)
      have HTK : Hid (l.take (q + 1) = l.take q ++ [l[q]]) := List.take_succ_eq_append_getElem hlt
      have htl : ((l.take q).map K8.k).length = q := by rw [List.length_map, List.length_take]; omega
      have HTL := Lib.hid htl
      generalize hz : l[q] = z at hc9 HTK
      obtain ⟨d0, d1, d2, d3, d4, d5, d6, d7⟩ := hc9
      have HQ40 := Lib.hid hq40
      clear hz hc8 hb htl hq40
      obtain ⟨y1, hy1⟩ : ∃ x, x = wr.alloc (.cells #[.int .u8 (z.x0.toNat : Int), .int .u8 (z.x1.toNat : Int), .int .u8 (z.x2.toNat : Int), .int .u8 (z.x3.toNat : Int), .int .u8 (z.x4.toNat : Int), .int .u8 (z.x5.toNat : Int), .int .u8 (z.x6.toNat : Int), .int .u8 (z.x7.toNat : Int)] PkT) := ⟨_, rfl⟩
      have hb1 : Below wr.heap.size wr y1 := by rw [hy1]; exact (by repeat (first | (with_reducible exact Below.refl _ _) | (with_reducible refine Below.allocS ?_ _) | (with_reducible refine Below.moreS ?_ _) | (with_reducible refine Below.drew ?_) | (with_reducible refine below_drewN ?_ _)))
      have HBK : Hid (Blk y1 wr.heap.size PkT #[.int .u8 (z.x0.toNat : Int), .int .u8 (z.x1.toNat : Int), .int .u8 (z.x2.toNat : Int), .int .u8 (z.x3.toNat : Int), .int .u8 (z.x4.toNat : Int), .int .u8 (z.x5.toNat : Int), .int .u8 (z.x6.toNat : Int), .int .u8 (z.x7.toNat : Int)]) := by rw [hy1]; exact Blk.new _ _ _
      have HI2 := Lib.hid (HI.out.next hb1)
      have HWW : Hid (B ≤ wr.heap.size) := HI.out.size
      clear hb1 HI
      go_wp2_with fail
      rw [← hy1]
      clear hy1
      have HA0 := pings_Send_any b mb q 40 ((l.take q).map K8.k) (some ⟨wr.heap.size, 0, none⟩) 8 z.k (by have := HQ40.out; omega) (by have := HTL.out; have := HQ40.out; omega) y1 HI2.out.pg (slY_blk HBK.out)
      obtain ⟨he, hp0⟩ := send_room (most := 40) (P := (l.take q).map K8.k) (k := z.k) rfl (by have := HTL.out; have := HQ40.out; omega)
      have hp : sendP 40 ((l.take q).map K8.k) z.k = (l.take (q + 1)).map K8.k := by rw [hp0, HTK.out, List.map_append]; rfl
      clear hp0
      rw [he, hp] at HA0
      have HA := Lib.hid HA0
      clear he hp HA0
      refine HA.out.mono ?_
      rintro e y2 ⟨rfl, hp2, hB2⟩
      have HI3 := Lib.hid (HI2.out.deed hB2 hp2 HX.out.1 HX.out.2.1 HX.out.2.2.1 HX.out.2.2.2)
      have HBK2 := Lib.hid (HBK.out.beside hB2 (by have := HX.out.1; have := HWW.out; omega) (by have := HX.out.2.1; have := HWW.out; omega))
      obtain ⟨f0, f1, f2, f3, f4, f5, f6, f7, fd⟩ := blk8 HBK2.out
      clear HA hp2 hB2 HI2 HBK d0 d1 d2 d3 d4 d5 d6 d7 hbw
      go_wp2_with (at_builtin; refine app_c (y := z) st_kk kkC_len kkC_one (by omega) (.tmp 36) (.tmp 38) rfl rfl rfl (HI3.out.row.alloc _) rfl (Blk.at_ _ _ _ (by simp)) rfl (by have h5 := HTL.out; rw [List.length_map] at h5; have h6 := HQ40.out; omega) (by have := HI3.out.size; simp only [World.size_alloc]; omega) ?_; intro v3 w3 hown3 hb3)
      have HI4 := Lib.hid ((HI3.out.next (y' := y2.alloc _) (by repeat (first | (with_reducible exact Below.refl _ _) | (with_reducible refine Below.allocS ?_ _) | (with_reducible refine Below.moreS ?_ _) | (with_reducible refine Below.drew ?_) | (with_reducible refine below_drewN ?_ _)))).turn hb3 HX.out.1 HX.out.2.1 HWB.out hown3)
      rw [← HTK.out] at HI4
      clear hown3 hb3 HI3
      go_wp2_with fail
      go_roundg (l.length - (q + 1))
      case measure => have := HK.out; omega
      case rel => exact ⟨q + 1, by have := HK.out; omega, by simp, _, rfl, HI4.out⟩
    · have hlt' : ¬ (q : Int) < l.length := by omega
      have hq : q = l.length := by have := HK.out; omega
      subst hq
      rw [List.take_length] at HI
      have HJ0 : Hid (KSt w B b mb (l.length + 0) (l.map K8.k) _ l wr ∧ (l.map K8.k).Perm (l.map K8.k) ∧ l.length ≤ 40) := ⟨HI.out, List.Perm.refl _, HLL.out.1⟩
      clear HI HK
      go_wp2_with fail
      go_loopg [6, 43] o.length (fun g v i wr' => ∃ r : Nat, r + g = o.length ∧ i = .int .i64 r ∧ ∃ (P : List (List UInt8)) (ms : List K8) (y : World), y = wr' ∧ Hid (KSt w B b mb (l.length + r) P v ms y ∧ P.Perm (ms.map K8.k) ∧ ms.length ≤ 40))
      case atStart => exact ⟨0, by omega, rfl, _, _, _, rfl, HJ0.out⟩
      case round =>
        clear HJ0
        obtain ⟨r, hrg, rfl, P, ms, wr, rfl, HJ⟩ := hrel
        have HK := Lib.hid hrg
        have HR9 : Hid (r ≤ o.length) := Lib.hid (by omega)
        clear hrg
        obtain ⟨A, cc, hv9, hcc⟩ := HJ.out.1.row.cap
        subst hv9
        by_cases hlt : r < o.length
        · obtain ⟨ob, ooff, rfl, hob, oc⟩ := HO.out.atY hlt
          have oc9 := (HJ.out.1.below.cell (p := ⟨ob, ooff + r, none⟩) hob).trans oc
          have hobw : ob < wr.heap.size := Nat.lt_of_lt_of_le hob HJ.out.1.below.size
          have hlt' : (r : Int) < o.length := by omega
          have hwr : IntKind.i64.wrap ((r : Int) + 1) = (r : Int) + 1 := IntWalk.i64_in _ (by have := HLL.out.2; omega)
          clear oc hob
          generalize hx : o[r] = x at oc9
          clear hx
          by_cases hms : ms.length = 0
          · have hms0 : ((ms.length : Int) == 0) = true := by simp [hms]
            clear hcc hms
            have hj9 := HJ.out
            have HM40 := Lib.hid hj9.2.2
            have HT0 : Hid (∃ (P' : List (List UInt8)) (y : World), y = wr ∧ Hid (KSt w B b mb (200 + 0) P' (.slice A ms.length cc) ms y ∧ P'.Perm ((ms.drop 0).map K8.k))) := ⟨P, wr, rfl, ⟨hj9.1.row, hj9.1.pg.mono (by have := HLL.out; have := HR9.out; omega), hj9.1.below, hj9.1.size⟩, hj9.2.1⟩
            clear hj9 HJ
            go_wp2_with fail
            clear hms0
            go_loopg [76] ms.length (fun g i wr' => ∃ s : Nat, s + g = ms.length ∧ i = .int .i64 s ∧ Hid (∃ (P' : List (List UInt8)) (y : World), y = wr' ∧ Hid (KSt w B b mb (200 + s) P' (.slice A ms.length cc) ms y ∧ P'.Perm ((ms.drop s).map K8.k))))
            case atStart => exact ⟨0, by omega, rfl, HT0.out⟩
            case round =>
              obtain ⟨s, hsg, rfl, HI0⟩ := hrel
              obtain ⟨P2, w5, rfl, HI⟩ := HI0.out
              have HK3 := Lib.hid hsg
              clear hsg HT0 HI0
              by_cases hst : s < ms.length
              · obtain ⟨A9, cc9, hv9, hr9⟩ := HI.out.1.row.read kkC_len
                injection hv9 with hv1 hv2 hv3
                subst hv1 hv3
                clear hv2
                obtain ⟨bb, off, rfl, hb, hc9⟩ := hr9.atK hst
                have hs40 : s < 40 := by have := HM40.out; omega
                have hws : IntKind.i64.wrap ((s : Int) + 1) = (s : Int) + 1 := IntWalk.i64_in _ (by omega)
                have hst' : (s : Int) < ms.length := by omega
                have HDR : Hid (ms.drop s = ms[s] :: ms.drop (s + 1)) := List.drop_eq_getElem_cons hst
                generalize hz : ms[s] = z at hc9 HDR
                obtain ⟨d0, d1, d2, d3, d4, d5, d6, d7⟩ := hc9
                have HPM : Hid (z.k ∈ P2 ∧ (P2.erase z.k).Perm ((ms.drop (s + 1)).map K8.k)) := by
                  have h3 := HI.out.2
                  rw [HDR.out, List.map_cons] at h3
                  have h4 := h3.erase z.k
                  rw [List.erase_cons_head] at h4
                  exact ⟨h3.mem_iff.2 (List.mem_cons_self ..), h4⟩
                have HPL : Hid (P2.length ≤ 40) := by have h3 := HI.out.2.length_eq; rw [List.length_map, List.length_drop] at h3; have h4 := HM40.out; exact Lib.hid (by omega)
                have HA8 : Hid (All8 P2) := (all8_map _).perm HI.out.2.symm
                have HS40 := Lib.hid hs40
                have HI1 := Lib.hid HI.out.1
                clear hz hr9 HI hs40
                obtain ⟨y1, hy1⟩ : ∃ x, x = w5.alloc (.cells #[.int .u8 (z.x0.toNat : Int), .int .u8 (z.x1.toNat : Int), .int .u8 (z.x2.toNat : Int), .int .u8 (z.x3.toNat : Int), .int .u8 (z.x4.toNat : Int), .int .u8 (z.x5.toNat : Int), .int .u8 (z.x6.toNat : Int), .int .u8 (z.x7.toNat : Int)] PkT) := ⟨_, rfl⟩
                have hb1 : Below w5.heap.size w5 y1 := by rw [hy1]; exact (by repeat (first | (with_reducible exact Below.refl _ _) | (with_reducible refine Below.allocS ?_ _) | (with_reducible refine Below.moreS ?_ _) | (with_reducible refine Below.drew ?_) | (with_reducible refine below_drewN ?_ _)))
                have HBK : Hid (Blk y1 w5.heap.size PkT #[.int .u8 (z.x0.toNat : Int), .int .u8 (z.x1.toNat : Int), .int .u8 (z.x2.toNat : Int), .int .u8 (z.x3.toNat : Int), .int .u8 (z.x4.toNat : Int), .int .u8 (z.x5.toNat : Int), .int .u8 (z.x6.toNat : Int), .int .u8 (z.x7.toNat : Int)]) := by rw [hy1]; exact Blk.new _ _ _
                have HI2 := Lib.hid (HI1.out.next hb1)
                clear hb1 HI1
                go_wp2_with fail
                rw [← hy1]
                clear hy1
                have hA0 := pings_Answer_any b mb (200 + s) 40 P2 (some ⟨w5.heap.size, 0, none⟩) 8 z.k HA8.out (by have := HS40.out; omega) (by have := HPL.out; omega) y1 HI2.out.pg (slY_blk HBK.out)
                rw [decide_eq_true HPM.out.1] at hA0
                refine hA0.mono ?_
                rintro e y2 ⟨rfl, hp2, hB2⟩
                have HI3 := Lib.hid (HI2.out.deed hB2 hp2 HX.out.1 HX.out.2.1 HX.out.2.2.1 HX.out.2.2.2)
                clear hA0 hp2 hB2 HI2 HBK d0 d1 d2 d3 d4 d5 d6 d7
                go_wp2_with fail
                go_roundg (ms.length - (s + 1))
                case measure => have := HK3.out; omega
                case rel => exact ⟨s + 1, by have := HK3.out; omega, by simp, Lib.hid ⟨_, _, rfl, HI3.out, HPM.out.2⟩⟩
              · have hst' : ¬ (s : Int) < ms.length := by omega
                have hP2 : P2 = [] := by
                  have h3 := HI.out.2
                  rw [List.drop_of_length_le (by omega)] at h3
                  exact List.perm_nil.1 h3
                subst hP2
                have HB := Lib.hid HI.out.1.below
                have HG := Lib.hid HI.out.1.pg
                clear HI
                go_wp2_with (first | (go_at_call 13; refine (pings_Len_any b mb _ 40 [] 0 rfl _ HG.out).mono ?_; rintro e w' ⟨rfl, rfl⟩) | (go_at_call 6; (with_reducible refine (law36_alive _).mono ?_); rintro e w' ⟨rfl, j, rfl⟩))
                go_ret
                exact ⟨rfl, Below.junk (HB.out.moreS _)⟩
          · have hms0 : ((ms.length : Int) == 0) = false := by rw [beq_eq_false_iff_ne]; omega
            have hms1 : ¬ (ms.length : Int) = 0 := by omega
            have hms2 : ¬ ms.length = 0 := hms
            obtain ⟨d, hd⟩ : ∃ d, d = x.toNat % ms.length := ⟨_, rfl⟩
            have hdl : d < ms.length := by rw [hd]; exact Nat.mod_lt _ (by omega)
            have hm40 : ms.length ≤ 40 := HJ.out.2.2
            have hrem : ((x.toNat : Int)).tmod (ms.length : Int) = (d : Int) := by rw [hd, Int.tmod_eq_emod_of_nonneg (by omega)]; rfl
            have hwx : IntKind.i64.wrap (x.toNat : Int) = (x.toNat : Int) := IntWalk.i64_in _ (by have := x.toNat_lt; omega)
            have hwd : IntKind.i64.wrap (d : Int) = (d : Int) := IntWalk.i64_in _ (by omega)
            have hwd1 : IntKind.i64.wrap ((d : Int) + 1) = (d : Int) + 1 := IntWalk.i64_in _ (by omega)
            have htn : ((d : Int) + 1).toNat = d + 1 := by omega
            have i0 : (d : Int) < ms.length := by omega
            have i1 : (d : Int) + 1 ≤ ms.length := by omega
            have i2 : (0 : Int) ≤ (d : Int) + 1 := by omega
            have i3 : (d : Int) ≤ ms.length := by omega
            have i4 : (ms.length : Int) ≤ cc := by omega
            have n1 : d ≤ cc := by omega
            have n2 : d + 1 ≤ cc := by omega
            have n3 : d + 1 ≤ ms.length := by omega
            have HCC := Lib.hid hcc
            obtain ⟨A9, cc9, hv9, hr9⟩ := HJ.out.1.row.read kkC_len
            injection hv9 with hv1 hv2 hv3
            subst hv1 hv3
            clear hv2
            obtain ⟨bb, off, rfl, hb, hc9⟩ := hr9.atK hdl
            have hpt := perm_take HJ.out.2.1 hdl
            have HPL : Hid (P.length ≤ 40) := by have h3 := HJ.out.2.1.length_eq; rw [List.length_map] at h3; exact Lib.hid (by omega)
            have HA8 : Hid (All8 P) := (all8_map _).perm HJ.out.2.1.symm
            generalize hz : ms[d] = z at hc9 hpt
            obtain ⟨d0, d1, d2, d3, d4, d5, d6, d7⟩ := hc9
            have HPM := Lib.hid hpt
            have HROW := Lib.hid hr9
            have HI1 := Lib.hid HJ.out.1
            have HD : Hid (d < ms.length ∧ ms.length ≤ 40) := ⟨hdl, hm40⟩
            have HWW : Hid (B ≤ wr.heap.size) := HI1.out.size
            clear hz hr9 hpt HJ hd hcc hms
            obtain ⟨y1, hy1⟩ : ∃ x, x = wr.alloc (.cells #[.int .u8 (z.x0.toNat : Int), .int .u8 (z.x1.toNat : Int), .int .u8 (z.x2.toNat : Int), .int .u8 (z.x3.toNat : Int), .int .u8 (z.x4.toNat : Int), .int .u8 (z.x5.toNat : Int), .int .u8 (z.x6.toNat : Int), .int .u8 (z.x7.toNat : Int)] PkT) := ⟨_, rfl⟩
            have hb1 : Below wr.heap.size wr y1 := by rw [hy1]; exact (by repeat (first | (with_reducible exact Below.refl _ _) | (with_reducible refine Below.allocS ?_ _) | (with_reducible refine Below.moreS ?_ _) | (with_reducible refine Below.drew ?_) | (with_reducible refine below_drewN ?_ _)))
            have HBK : Hid (Blk y1 wr.heap.size PkT #[.int .u8 (z.x0.toNat : Int), .int .u8 (z.x1.toNat : Int), .int .u8 (z.x2.toNat : Int), .int .u8 (z.x3.toNat : Int), .int .u8 (z.x4.toNat : Int), .int .u8 (z.x5.toNat : Int), .int .u8 (z.x6.toNat : Int), .int .u8 (z.x7.toNat : Int)]) := by rw [hy1]; exact Blk.new _ _ _
            have HI2 := Lib.hid (HI1.out.next hb1)
            have HBY := Lib.hid hb1
            clear hb1 HI1
            go_wp2_with fail
            by_cases hcq : cc = d + 1
            · subst hcq
              have i5 : (d : Int) ≤ (d : Int) + 1 := by omega
              have i6 : (ms.length : Int) ≤ (d : Int) + 1 := by omega
              obtain ⟨w1, hw1⟩ : ∃ x, x = y1.drew := ⟨_, rfl⟩
              have hbw1 : Below y1.heap.size y1 w1 := by rw [hw1]; exact (by repeat (first | (with_reducible exact Below.refl _ _) | (with_reducible refine Below.allocS ?_ _) | (with_reducible refine Below.moreS ?_ _) | (with_reducible refine Below.drew ?_) | (with_reducible refine below_drewN ?_ _)))
              have HI3 := Lib.hid (HI2.out.next hbw1)
              have HBK1 := Lib.hid (HBK.out.below hbw1 HBK.out.lt)
              have HB1 := Lib.hid (HBY.out.trans (hbw1.mono HBY.out.size))
              clear hbw1 HI2 HBK HBY
              refine gt_start (by kernel_rfl) ?_
              rw [← hy1, ← hw1]
              clear hw1 hy1
              refine gt_take 1 (v := ?_) rfl (by kernel_rfl) (by kernel_rfl) (by kernel_rfl) (fun _ _ _ h => h) (Or.inl ⟨by first | kernel_rfl | rfl, ?_⟩) ?_
              rotate_left
              · intro wS hSw; clear hSw; go_simp; try with_reducible rfl
              try simp only [Act.put, List.getElem_toArray, List.getElem_cons_succ, List.getElem_cons_zero, List.setIfInBounds_toArray, List.set_cons_zero, List.set_cons_succ]
              refine gt_take 2 (v := ?_) rfl (by kernel_rfl) (by kernel_rfl) (by kernel_rfl) (fun _ _ _ h => h) (Or.inl ⟨by first | kernel_rfl | rfl, ?_⟩) ?_
              rotate_left
              · intro wS hSw; clear hSw; go_simp; try with_reducible rfl
              try simp only [Act.put, List.getElem_toArray, List.getElem_cons_succ, List.getElem_cons_zero, List.setIfInBounds_toArray, List.set_cons_zero, List.set_cons_succ]
              refine gt_take 3 (v := ?_) rfl (by kernel_rfl) (by kernel_rfl) (by kernel_rfl) (fun _ _ _ h => h) (Or.inl ⟨by first | kernel_rfl | rfl, ?_⟩) ?_
              rotate_left
              · intro wS hSw; clear hSw; go_simp; try with_reducible rfl
              try simp only [Act.put, List.getElem_toArray, List.getElem_cons_succ, List.getElem_cons_zero, List.setIfInBounds_toArray, List.set_cons_zero, List.set_cons_succ]
              refine gt_take 5 (v := ?_) rfl (by kernel_rfl) (by kernel_rfl) (by kernel_rfl) (fun _ _ _ h => h) (Or.inl ⟨by first | kernel_rfl | rfl, ?_⟩) ?_
              rotate_left
              · intro wS hSw; clear hSw; go_simp; try with_reducible rfl
              try simp only [Act.put, List.getElem_toArray, List.getElem_cons_succ, List.getElem_cons_zero, List.setIfInBounds_toArray, List.set_cons_zero, List.set_cons_succ]
              refine gt_take 6 (v := ?_) rfl (by kernel_rfl) (by kernel_rfl) (by kernel_rfl) (fun _ _ _ h => h) (Or.inl ⟨by first | kernel_rfl | rfl, ?_⟩) ?_
              rotate_left
              · intro wS hSw; clear hSw; go_simp; try with_reducible rfl
              try simp only [Act.put, List.getElem_toArray, List.getElem_cons_succ, List.getElem_cons_zero, List.setIfInBounds_toArray, List.set_cons_zero, List.set_cons_succ]
              refine gt_take 7 (v := ?_) rfl (by kernel_rfl) (by kernel_rfl) (by kernel_rfl) (fun _ _ _ h => h) (Or.inl ⟨by first | kernel_rfl | rfl, ?_⟩) ?_
              rotate_left
              · intro wS hSw; clear hSw; go_simp; try with_reducible rfl
              try simp only [Act.put, List.getElem_toArray, List.getElem_cons_succ, List.getElem_cons_zero, List.setIfInBounds_toArray, List.set_cons_zero, List.set_cons_succ]
              refine gt_take 8 (v := ?_) rfl (by kernel_rfl) (by kernel_rfl) (by kernel_rfl) (fun _ _ _ h => h) (Or.inl ⟨by first | kernel_rfl | rfl, ?_⟩) ?_
              rotate_left
              · intro wS hSw; clear hSw; go_simp; try with_reducible rfl
              try simp only [Act.put, List.getElem_toArray, List.getElem_cons_succ, List.getElem_cons_zero, List.setIfInBounds_toArray, List.set_cons_zero, List.set_cons_succ]
              have HO2 := Lib.hid (OwnC.empty (e := PkT) (size := 8) (c := K8.cells) w1)
              have hba : Below wr.heap.size wr (w1.alloc (.cells #[] PkT)) := HB1.out.alloc HB1.out.size _
              have hrw := (HROW.out.below hba (Nat.le_refl _)).mono (C := (w1.alloc (.cells #[] PkT)).heap.size) hba.size (fun _ _ _ h => h)
              have HT1 := Lib.hid (hrw.take d)
              clear hba hrw
              refine gt_step 0 (by kernel_rfl) rfl (fun K hK => ?_)
              go_simp
              go_wp2_with fail
              refine hK.out _ _ ?_
              clear hK K
              try simp only [Act.put, List.getElem_toArray, List.getElem_cons_succ, List.getElem_cons_zero, List.setIfInBounds_toArray, List.set_cons_zero, List.set_cons_succ]
              refine gt_step 4 (by kernel_rfl) rfl (fun K hK => ?_)
              refine step_rows st_kk kkC_len kkC_one (by omega) (.tmp 59) (.tmp 62) rfl rfl (v := .slice (some ⟨w1.heap.size, 0, none⟩) 0 0) rfl HO2.out (m := ms.take d) (n := d) (cc := d + 1) rfl (by have := HD.out; rw [List.length_take]; omega) HT1.out (by have := HD.out; simp <;> omega) (by simp) ?_
              intro v1 w2 hown1 hg1
              have hb2 : Below w1.heap.size w1 w2 := own_grown ((Below.refl w1.heap.size w1).alloc (Nat.le_refl _) _) HO2.out hg1 (Nat.le_refl _) (by simp)
              have HB2 := Lib.hid (HB1.out.trans (hb2.mono HB1.out.size))
              have HW2 := Lib.hid hb2
              have HO1 := Lib.hid hown1
              clear hown1 hg1 hb2 HO2 HT1
              refine hK.out _ _ ?_
              clear hK K
              try simp only [Act.put, List.getElem_toArray, List.getElem_cons_succ, List.getElem_cons_zero, List.setIfInBounds_toArray, List.set_cons_zero, List.set_cons_succ]
              have hrw := (HROW.out.below HB2.out (Nat.le_refl _)).mono (C := w2.heap.size) HB2.out.size (fun _ _ _ h => h)
              have HT2 : Hid (SlR w2 w2.heap.size 8 (fun x cs => cs = K8.cells x) (some ⟨bb, off, none⟩) (ms.drop (d + 1))) := by
                have h9 := hrw.drop_if (cap := d + 1) (d + 1) HCC.out
                rw [Option.map_some, if_pos rfl] at h9
                exact h9
              clear hrw
              refine gt_step 9 (by kernel_rfl) rfl (fun K hK => ?_)
              refine step_rows st_kk kkC_len kkC_one (by omega) (.tmp 63) (.tmp 67) rfl rfl (v := v1) rfl HO1.out (m := ms.drop (d + 1)) rfl (by first | (rw [List.length_drop]; done) | (rw [List.length_drop]; omega)) HT2.out (by have := HD.out; simp <;> omega) HW2.out.size ?_
              intro v2 w3 hown2 hg2
              have hb3 : Below w1.heap.size w1 w3 := own_grown HW2.out HO1.out hg2 (Nat.le_refl _) HW2.out.size
              have HI4 := Lib.hid (HI3.out.turn (hb3.mono HI3.out.size) HX.out.1 HX.out.2.1 HWB.out (OwnC.base (by simpa using hown2) HI3.out.size))
              have HBK3 := Lib.hid (HBK1.out.below hb3 HBK1.out.lt)
              clear hown2 hg2 hb3 HO1 HT2 HI3 HBK1 HB1 HB2 HW2
              refine hK.out _ _ ?_
              clear hK K
              try simp only [Act.put, List.getElem_toArray, List.getElem_cons_succ, List.getElem_cons_zero, List.setIfInBounds_toArray, List.set_cons_zero, List.set_cons_succ]
              refine gt_step 10 (by kernel_rfl) rfl (fun K hK => ?_)
              go_simp
              go_wp2_with fail
              refine hK.out _ _ ?_
              clear hK K
              try simp only [Act.put, List.getElem_toArray, List.getElem_cons_succ, List.getElem_cons_zero, List.setIfInBounds_toArray, List.set_cons_zero, List.set_cons_succ]
              refine wpAnyH_done (by kernel_rfl) ?_ _
              go_wp2_with fail
              have hA0 := pings_Answer_any b mb (l.length + r) 40 P (some ⟨wr.heap.size, 0, none⟩) 8 z.k HA8.out (by have := HLL.out; have := HR9.out; omega) (by have := HPL.out; omega) w3 HI4.out.pg (slY_blk HBK3.out)
              rw [decide_eq_true HPM.out.1] at hA0
              refine hA0.mono ?_
              rintro e y2 ⟨rfl, hp2, hB2⟩
              have HI5 := Lib.hid (HI4.out.deed hB2 hp2 HX.out.1 HX.out.2.1 HX.out.2.2.1 HX.out.2.2.2)
              clear hA0 hp2 hB2 HI4 HBK3
              go_wp2_with fail
              go_roundg (o.length - (r + 1))
              case measure => have := HK.out; omega
              case rel => exact ⟨r + 1, by have := HK.out; omega, by simp, _, ms.take d ++ ms.drop (d + 1), _, rfl, HI5.out, HPM.out.2, by have := HD.out; rw [List.length_append, List.length_take, List.length_drop]; omega⟩
            · skip
              obtain ⟨w1, hw1⟩ : ∃ x, x = y1.drew := ⟨_, rfl⟩
              have hbw1 : Below y1.heap.size y1 w1 := by rw [hw1]; exact (by repeat (first | (with_reducible exact Below.refl _ _) | (with_reducible refine Below.allocS ?_ _) | (with_reducible refine Below.moreS ?_ _) | (with_reducible refine Below.drew ?_) | (with_reducible refine below_drewN ?_ _)))
              have HI3 := Lib.hid (HI2.out.next hbw1)
              have HBK1 := Lib.hid (HBK.out.below hbw1 HBK.out.lt)
              have HB1 := Lib.hid (HBY.out.trans (hbw1.mono HBY.out.size))
              clear hbw1 HI2 HBK HBY
              refine gt_start (by kernel_rfl) ?_
              rw [← hy1, ← hw1]
              clear hw1 hy1
              refine gt_take 1 (v := ?_) rfl (by kernel_rfl) (by kernel_rfl) (by kernel_rfl) (fun _ _ _ h => h) (Or.inl ⟨by first | kernel_rfl | rfl, ?_⟩) ?_
              rotate_left
              · intro wS hSw; clear hSw; go_simp; try with_reducible rfl
              try simp only [Act.put, List.getElem_toArray, List.getElem_cons_succ, List.getElem_cons_zero, List.setIfInBounds_toArray, List.set_cons_zero, List.set_cons_succ]
              refine gt_take 2 (v := ?_) rfl (by kernel_rfl) (by kernel_rfl) (by kernel_rfl) (fun _ _ _ h => h) (Or.inl ⟨by first | kernel_rfl | rfl, ?_⟩) ?_
              rotate_left
              · intro wS hSw; clear hSw; go_simp; try with_reducible rfl
              try simp only [Act.put, List.getElem_toArray, List.getElem_cons_succ, List.getElem_cons_zero, List.setIfInBounds_toArray, List.set_cons_zero, List.set_cons_succ]
              refine gt_take 3 (v := ?_) rfl (by kernel_rfl) (by kernel_rfl) (by kernel_rfl) (fun _ _ _ h => h) (Or.inl ⟨by first | kernel_rfl | rfl, ?_⟩) ?_
              rotate_left
              · intro wS hSw; clear hSw; go_simp; try with_reducible rfl
              try simp only [Act.put, List.getElem_toArray, List.getElem_cons_succ, List.getElem_cons_zero, List.setIfInBounds_toArray, List.set_cons_zero, List.set_cons_succ]
              refine gt_take 5 (v := ?_) rfl (by kernel_rfl) (by kernel_rfl) (by kernel_rfl) (fun _ _ _ h => h) (Or.inl ⟨by first | kernel_rfl | rfl, ?_⟩) ?_
              rotate_left
              · intro wS hSw; clear hSw; go_simp; try with_reducible rfl
              try simp only [Act.put, List.getElem_toArray, List.getElem_cons_succ, List.getElem_cons_zero, List.setIfInBounds_toArray, List.set_cons_zero, List.set_cons_succ]
              refine gt_take 6 (v := ?_) rfl (by kernel_rfl) (by kernel_rfl) (by kernel_rfl) (fun _ _ _ h => h) (Or.inl ⟨by first | kernel_rfl | rfl, ?_⟩) ?_
              rotate_left
              · intro wS hSw; clear hSw; go_simp; try with_reducible rfl
              try simp only [Act.put, List.getElem_toArray, List.getElem_cons_succ, List.getElem_cons_zero, List.setIfInBounds_toArray, List.set_cons_zero, List.set_cons_succ]
              refine gt_take 7 (v := ?_) rfl (by kernel_rfl) (by kernel_rfl) (by kernel_rfl) (fun _ _ _ h => h) (Or.inl ⟨by first | kernel_rfl | rfl, ?_⟩) ?_
              rotate_left
              · intro wS hSw; clear hSw; go_simp; try with_reducible rfl
              try simp only [Act.put, List.getElem_toArray, List.getElem_cons_succ, List.getElem_cons_zero, List.setIfInBounds_toArray, List.set_cons_zero, List.set_cons_succ]
              refine gt_take 8 (v := ?_) rfl (by kernel_rfl) (by kernel_rfl) (by kernel_rfl) (fun _ _ _ h => h) (Or.inl ⟨by first | kernel_rfl | rfl, ?_⟩) ?_
              rotate_left
              · intro wS hSw; clear hSw; go_simp; try with_reducible rfl
              try simp only [Act.put, List.getElem_toArray, List.getElem_cons_succ, List.getElem_cons_zero, List.setIfInBounds_toArray, List.set_cons_zero, List.set_cons_succ]
              have HO2 := Lib.hid (OwnC.empty (e := PkT) (size := 8) (c := K8.cells) w1)
              have hba : Below wr.heap.size wr (w1.alloc (.cells #[] PkT)) := HB1.out.alloc HB1.out.size _
              have hrw := (HROW.out.below hba (Nat.le_refl _)).mono (C := (w1.alloc (.cells #[] PkT)).heap.size) hba.size (fun _ _ _ h => h)
              have HT1 := Lib.hid (hrw.take d)
              clear hba hrw
              refine gt_step 0 (by kernel_rfl) rfl (fun K hK => ?_)
              go_simp
              go_wp2_with fail
              refine hK.out _ _ ?_
              clear hK K
              try simp only [Act.put, List.getElem_toArray, List.getElem_cons_succ, List.getElem_cons_zero, List.setIfInBounds_toArray, List.set_cons_zero, List.set_cons_succ]
              refine gt_step 4 (by kernel_rfl) rfl (fun K hK => ?_)
              refine step_rows st_kk kkC_len kkC_one (by omega) (.tmp 59) (.tmp 62) rfl rfl (v := .slice (some ⟨w1.heap.size, 0, none⟩) 0 0) rfl HO2.out (m := ms.take d) (n := d) (cc := cc) rfl (by have := HD.out; rw [List.length_take]; omega) HT1.out (by have := HD.out; simp <;> omega) (by simp) ?_
              intro v1 w2 hown1 hg1
              have hb2 : Below w1.heap.size w1 w2 := own_grown ((Below.refl w1.heap.size w1).alloc (Nat.le_refl _) _) HO2.out hg1 (Nat.le_refl _) (by simp)
              have HB2 := Lib.hid (HB1.out.trans (hb2.mono HB1.out.size))
              have HW2 := Lib.hid hb2
              have HO1 := Lib.hid hown1
              clear hown1 hg1 hb2 HO2 HT1
              refine hK.out _ _ ?_
              clear hK K
              try simp only [Act.put, List.getElem_toArray, List.getElem_cons_succ, List.getElem_cons_zero, List.setIfInBounds_toArray, List.set_cons_zero, List.set_cons_succ]
              have hrw := (HROW.out.below HB2.out (Nat.le_refl _)).mono (C := w2.heap.size) HB2.out.size (fun _ _ _ h => h)
              have HT2 : Hid (SlR w2 w2.heap.size 8 (fun x cs => cs = K8.cells x) (some ⟨bb, off + (d + 1) * 8, none⟩) (ms.drop (d + 1))) := by
                have h9 := hrw.drop_if (cap := cc) (d + 1) HCC.out
                have e9 : (⟨bb, off, none⟩ : Addr).add ((d + 1) * 8) = ⟨bb, off + (d + 1) * 8, none⟩ := by unfold Addr.add; simp
                rw [Option.map_some, e9, if_neg hcq] at h9
                exact h9
              clear hrw
              refine gt_step 9 (by kernel_rfl) rfl (fun K hK => ?_)
              refine step_rows st_kk kkC_len kkC_one (by omega) (.tmp 63) (.tmp 67) rfl rfl (v := v1) rfl HO1.out (m := ms.drop (d + 1)) rfl (by rw [List.length_drop]) HT2.out (by have := HD.out; simp <;> omega) HW2.out.size ?_
              intro v2 w3 hown2 hg2
              have hb3 : Below w1.heap.size w1 w3 := own_grown HW2.out HO1.out hg2 (Nat.le_refl _) HW2.out.size
              have HI4 := Lib.hid (HI3.out.turn (hb3.mono HI3.out.size) HX.out.1 HX.out.2.1 HWB.out (OwnC.base (by simpa using hown2) HI3.out.size))
              have HBK3 := Lib.hid (HBK1.out.below hb3 HBK1.out.lt)
              clear hown2 hg2 hb3 HO1 HT2 HI3 HBK1 HB1 HB2 HW2
              refine hK.out _ _ ?_
              clear hK K
              try simp only [Act.put, List.getElem_toArray, List.getElem_cons_succ, List.getElem_cons_zero, List.setIfInBounds_toArray, List.set_cons_zero, List.set_cons_succ]
              refine gt_step 10 (by kernel_rfl) rfl (fun K hK => ?_)
              go_simp
              go_wp2_with fail
              refine hK.out _ _ ?_
              clear hK K
              try simp only [Act.put, List.getElem_toArray, List.getElem_cons_succ, List.getElem_cons_zero, List.setIfInBounds_toArray, List.set_cons_zero, List.set_cons_succ]
              refine wpAnyH_done (by kernel_rfl) ?_ _
              go_wp2_with fail
              have hA0 := pings_Answer_any b mb (l.length + r) 40 P (some ⟨wr.heap.size, 0, none⟩) 8 z.k HA8.out (by have := HLL.out; have := HR9.out; omega) (by have := HPL.out; omega) w3 HI4.out.pg (slY_blk HBK3.out)
              rw [decide_eq_true HPM.out.1] at hA0
              refine hA0.mono ?_
              rintro e y2 ⟨rfl, hp2, hB2⟩
              have HI5 := Lib.hid (HI4.out.deed hB2 hp2 HX.out.1 HX.out.2.1 HX.out.2.2.1 HX.out.2.2.2)
              clear hA0 hp2 hB2 HI4 HBK3
              go_wp2_with fail
              go_roundg (o.length - (r + 1))
              case measure => have := HK.out; omega
              case rel => exact ⟨r + 1, by have := HK.out; omega, by simp, _, ms.take d ++ ms.drop (d + 1), _, rfl, HI5.out, HPM.out.2, by have := HD.out; rw [List.length_append, List.length_take, List.length_drop]; omega⟩
        · have hlt' : ¬ (r : Int) < o.length := by omega
          clear hcc
          have hj9 := HJ.out
          have HM40 := Lib.hid hj9.2.2
          have HT0 : Hid (∃ (P' : List (List UInt8)) (y : World), y = wr ∧ Hid (KSt w B b mb (200 + 0) P' (.slice A ms.length cc) ms y ∧ P'.Perm ((ms.drop 0).map K8.k))) := ⟨P, wr, rfl, ⟨hj9.1.row, hj9.1.pg.mono (by have := HLL.out; have := HR9.out; omega), hj9.1.below, hj9.1.size⟩, hj9.2.1⟩
          clear hj9 HJ
          go_wp2_with fail
          go_loopg [76] ms.length (fun g i wr' => ∃ s : Nat, s + g = ms.length ∧ i = .int .i64 s ∧ Hid (∃ (P' : List (List UInt8)) (y : World), y = wr' ∧ Hid (KSt w B b mb (200 + s) P' (.slice A ms.length cc) ms y ∧ P'.Perm ((ms.drop s).map K8.k))))
          case atStart => exact ⟨0, by omega, rfl, HT0.out⟩
          case round =>
            obtain ⟨s, hsg, rfl, HI0⟩ := hrel
            obtain ⟨P2, w5, rfl, HI⟩ := HI0.out
            have HK3 := Lib.hid hsg
            clear hsg HT0 HI0
            by_cases hst : s < ms.length
            · obtain ⟨A9, cc9, hv9, hr9⟩ := HI.out.1.row.read kkC_len
              injection hv9 with hv1 hv2 hv3
              subst hv1 hv3
              clear hv2
              obtain ⟨bb, off, rfl, hb, hc9⟩ := hr9.atK hst
              have hs40 : s < 40 := by have := HM40.out; omega
              have hws : IntKind.i64.wrap ((s : Int) + 1) = (s : Int) + 1 := IntWalk.i64_in _ (by omega)
              have hst' : (s : Int) < ms.length := by omega
              have HDR : Hid (ms.drop s = ms[s] :: ms.drop (s + 1)) := List.drop_eq_getElem_cons hst
              generalize hz : ms[s] = z at hc9 HDR
              obtain ⟨d0, d1, d2, d3, d4, d5, d6, d7⟩ := hc9
              have HPM : Hid (z.k ∈ P2 ∧ (P2.erase z.k).Perm ((ms.drop (s + 1)).map K8.k)) := by
                have h3 := HI.out.2
                rw [HDR.out, List.map_cons] at h3
                have h4 := h3.erase z.k
                rw [List.erase_cons_head] at h4
                exact ⟨h3.mem_iff.2 (List.mem_cons_self ..), h4⟩
              have HPL : Hid (P2.length ≤ 40) := by have h3 := HI.out.2.length_eq; rw [List.length_map, List.length_drop] at h3; have h4 := HM40.out; exact Lib.hid (by omega)
              have HA8 : Hid (All8 P2) := (all8_map _).perm HI.out.2.symm
              have HS40 := Lib.hid hs40
              have HI1 := Lib.hid HI.out.1
              clear hz hr9 HI hs40
              obtain ⟨y1, hy1⟩ : ∃ x, x = w5.alloc (.cells #[.int .u8 (z.x0.toNat : Int), .int .u8 (z.x1.toNat : Int), .int .u8 (z.x2.toNat : Int), .int .u8 (z.x3.toNat : Int), .int .u8 (z.x4.toNat : Int), .int .u8 (z.x5.toNat : Int), .int .u8 (z.x6.toNat : Int), .int .u8 (z.x7.toNat : Int)] PkT) := ⟨_, rfl⟩
              have hb1 : Below w5.heap.size w5 y1 := by rw [hy1]; exact (by repeat (first | (with_reducible exact Below.refl _ _) | (with_reducible refine Below.allocS ?_ _) | (with_reducible refine Below.moreS ?_ _) | (with_reducible refine Below.drew ?_) | (with_reducible refine below_drewN ?_ _)))
              have HBK : Hid (Blk y1 w5.heap.size PkT #[.int .u8 (z.x0.toNat : Int), .int .u8 (z.x1.toNat : Int), .int .u8 (z.x2.toNat : Int), .int .u8 (z.x3.toNat : Int), .int .u8 (z.x4.toNat : Int), .int .u8 (z.x5.toNat : Int), .int .u8 (z.x6.toNat : Int), .int .u8 (z.x7.toNat : Int)]) := by rw [hy1]; exact Blk.new _ _ _
              have HI2 := Lib.hid (HI1.out.next hb1)
              clear hb1 HI1
              go_wp2_with fail
              rw [← hy1]
              clear hy1
              have hA0 := pings_Answer_any b mb (200 + s) 40 P2 (some ⟨w5.heap.size, 0, none⟩) 8 z.k HA8.out (by have := HS40.out; omega) (by have := HPL.out; omega) y1 HI2.out.pg (slY_blk HBK.out)
              rw [decide_eq_true HPM.out.1] at hA0
              refine hA0.mono ?_
              rintro e y2 ⟨rfl, hp2, hB2⟩
              have HI3 := Lib.hid (HI2.out.deed hB2 hp2 HX.out.1 HX.out.2.1 HX.out.2.2.1 HX.out.2.2.2)
              clear hA0 hp2 hB2 HI2 HBK d0 d1 d2 d3 d4 d5 d6 d7
              go_wp2_with fail
              go_roundg (ms.length - (s + 1))
              case measure => have := HK3.out; omega
              case rel => exact ⟨s + 1, by have := HK3.out; omega, by simp, Lib.hid ⟨_, _, rfl, HI3.out, HPM.out.2⟩⟩
            · have hst' : ¬ (s : Int) < ms.length := by omega
              have hP2 : P2 = [] := by
                have h3 := HI.out.2
                rw [List.drop_of_length_le (by omega)] at h3
                exact List.perm_nil.1 h3
              subst hP2
              have HB := Lib.hid HI.out.1.below
              have HG := Lib.hid HI.out.1.pg
              clear HI
              go_wp2_with (first | (go_at_call 13; refine (pings_Len_any b mb _ 40 [] 0 rfl _ HG.out).mono ?_; rintro e w' ⟨rfl, rfl⟩) | (go_at_call 6; (with_reducible refine (law36_alive _).mono ?_); rintro e w' ⟨rfl, j, rfl⟩))
              go_ret
              exact ⟨rfl, Below.junk (HB.out.moreS _)⟩
theorem pingsOrder_law (a : Option Addr) (cap : Nat) (l : List K8) (a' : Option Addr) (cap' : Nat) (o : List UInt8) (w : World) (hm : l.length ≤ maxLen) (hS : SlK w w.heap.size a l) (hm' : o.length ≤ maxLen) (hS' : SlY w w.heap.size a' o) :
    Calls Try.prog 4 #[.slice a l.length cap, .slice a' o.length cap'] w fun e w' => e = .returned (.bool true) ∧ ∃ j, w' = w.more j := by
  by_cases h1 : 40 < l.length
  · exact order_big a a' cap cap' l o w hm hm' (.inl h1)
  · by_cases h2 : 100 < o.length
    · exact order_big a a' cap cap' l o w hm hm' (.inr ⟨by omega, h2⟩)
    · exact order_small a a' cap cap' l o w (by omega) (by omega) hS hS'
end Go.Proofs.Ytngnjlidfhenkaa
