/-
  Reports: the state in which a report is read.
-/
import Derived.Test.YtbdmepidabnfkaaGreatDoorRepG
import Derived.Test.YtbdmepidabnfkaaGreatDoorRepE
import Derived.Test.YtbdmepidabnfkaaGreatDoorRep5
import Derived.Test.YtbdmepidabnfkaaGreatDoorMi
import Derived.Test.YtbdmepidabnfkaaGreatDoorMj
import Derived.Test.YtbdmepidabnfkaaGreatDoorRepR
import Derived.ChangeKeysEq
namespace Go.Proofs.YtbdmepidabnfkaaGreatDoor
set_option linter.unusedSimpArgs false
set_option linter.unusedVariables false
set_option linter.unusedSectionVars false
open Go.ChangeShapes Go.WideShapes Go.ChangeAt Go.RowKit Go.Deep Go.Shelf

def rpZ : Array Value := #[.int .i64 0, .int .i64 0, .int .i64 0, .int .i64 0, .int .i64 0, .int .i64 0, .slice none 0 0, .int .i64 0, .int .i64 0, .slice none 0 0, .slice none 0 0, .int .i64 0, .int .i64 0]
/-- The state in which a report is read: the reader's lines, the report so far. -/
structure RxS (w0 : World) (g gx : Nat) (cs : Array Value) (L : List (List UInt8)) (b : Bool) (W : World) : Prop where
  rb : Rb w0 g W
  rd : RdS W g L b
  bx : Blk W gx RpT cs
  nt : ∀ (j : Nat) (s : ByteArray), cs[j]? ≠ some (Value.string s)
  ge : w0.heap.size ≤ gx
  ne : g ≠ gx
theorem RxS.gm {w0 : World} {g gx : Nat} {cs : Array Value} {L L' : List (List UInt8)} {b b' : Bool} {W W' : World} (h : RxS w0 g gx cs L b W) (hg : Gm g W W') (hr : RdS W' g L' b') : RxS w0 g gx cs L' b' W' :=
  ⟨h.rb.gm hg, hr, h.bx.grown hg (by simpa using Ne.symm h.ne), h.nt, h.ge, h.ne⟩
theorem RxS.below {w0 : World} {g gx : Nat} {cs : Array Value} {L : List (List UInt8)} {b : Bool} {W W' : World} (h : RxS w0 g gx cs L b W) (hb : Below W.heap.size W W') : RxS w0 g gx cs L b W' := h.gm (gm_below hb) (h.rd.grow hb)
theorem RxS.set {w0 : World} {g gx : Nat} {cs : Array Value} {L : List (List UInt8)} {b : Bool} {W : World} (h : RxS w0 g gx cs L b W) (i : Nat) {v : Value} (hv : ∀ s : ByteArray, v ≠ .string s) : RxS w0 g gx (cs.setIfInBounds i v) L b (W.setCell ⟨gx, i, none⟩ v) := by
  have hs : Gp (P2 g gx) W (W.setCell ⟨gx, i, none⟩ v) := Gp.set v (Or.inr rfl)
  refine ⟨h.rb.gp (p := P2 g gx) (fun k hk => hk.elim (fun e => by rw [e]; exact h.rb.lo) (fun e => by rw [e]; exact h.ge)) hs, h.rd.far h.bx h.nt (gm_set v) h.ne, h.bx.set_ i v, fun j s => ?_, h.ge, h.ne⟩
  rw [Array.getElem?_setIfInBounds]
  split
  · split
    · intro e; injection e with e; exact hv s e
    · simp
  · exact h.nt j s
/-- A row in a new block stays where only the reader and the report are written. -/
theorem slR_stay {α : Type} {w w' : World} {n size : Nat} {p : Nat → Prop} {R : α → List Value → Prop} {a : Option Addr} {l : List α} (h : SlR w w.heap.size size R a l) (hn : ∀ q, a = some q → n ≤ q.block) (hp : ∀ k, p k → k < n) (hg : Gp p w w') : SlR w' w'.heap.size size R a l := by
  intro k hk
  obtain ⟨b, off, cs, ha, hb, hR, hc⟩ := h k hk
  have hbn : n ≤ b := hn _ ha
  exact ⟨b, off, cs, ha, Nat.lt_of_lt_of_le hb hg.size, hR, fun j u hu => (hg.cell b _ hb (fun hpb => absurd (hp b hpb) (by omega))).trans (hc j u hu)⟩
theorem p2_lt {g gx n : Nat} (h1 : g < n) (h2 : gx < n) : ∀ k, P2 g gx k → k < n := fun k hk => hk.elim (fun e => by omega) (fun e => by omega)
theorem gp_gm {g gx : Nat} {w w' : World} (h : Gm g w w') : Gp (P2 g gx) w w' := Gp.of_gm h (Or.inl rfl)
/-- One of three blocks. -/
def P3 (g gx gk : Nat) (k : Nat) : Prop := k = g ∨ k = gx ∨ k = gk
theorem slR_stayQ {α : Type} {w w' : World} {B size : Nat} {p : Nat → Prop} {R : α → List Value → Prop} {a : Option Addr} {l : List α} (h : SlR w B size R a l) (hB : B ≤ w.heap.size) (hq : ∀ q : Addr, a = some q → q.block < B → ¬ p q.block) (hg : Gp p w w') : SlR w' B size R a l := by
  intro k hk
  obtain ⟨b, off, cs, ha, hb, hR, hc⟩ := h k hk
  exact ⟨b, off, cs, ha, hb, hR, fun j u hu => (hg.cell b _ (Nat.lt_of_lt_of_le hb hB) (hq _ ha hb)).trans (hc j u hu)⟩
theorem RxS.other {w0 : World} {g gx gk : Nat} {cs ok : Array Value} {t : TypeId} {L : List (List UInt8)} {b : Bool} {W W' : World} (h : RxS w0 g gx cs L b W) (hk : Blk W gk t ok) (hn : ∀ (j : Nat) (s : ByteArray), ok[j]? ≠ some (Value.string s)) (hg : Gm gk W W') (h1 : g ≠ gk) (h2 : gx ≠ gk) (h3 : w0.heap.size ≤ gk) : RxS w0 g gx cs L b W' :=
  ⟨⟨h.rb.env, h.rb.bl.trans (hg.below h3 h.rb.bl.size), h.rb.lo⟩, h.rd.far hk hn hg h1, h.bx.grown hg (by simpa using h2), h.nt, h.ge, h.ne⟩
abbrev BkT : TypeId := 74
theorem bools_nt {x y : Bool} : ∀ (j : Nat) (s : ByteArray), (#[.bool x, .bool y] : Array Value)[j]? ≠ some (Value.string s) := by
  intro j s
  match j with
  | 0 => simp
  | 1 => simp
  | j + 2 => simp
/-- The state in which a report is read, with its rows, and whether the sets were whole. -/
structure RyS (w0 : World) (g gx gk Bf Bu : Nat) (cs : Array Value) (L : List (List UInt8)) (b o0 o1 : Bool) (a7 : Option Addr) (rl : List Rec) (fa : Option Addr) (fl : List Fl) (ua : Option Addr) (ul : List Int) (W : World) : Prop where
  s : RxS w0 g gx cs L b W
  k : Blk W gk BkT #[.bool o0, .bool o1]
  rs : SlRc W gk a7 rl
  fs : SlFl W Bf fa fl
  us : SlI W Bu ua ul
  zf : Bf ≤ W.heap.size
  zu : Bu ≤ W.heap.size
  nr : ∀ q : Addr, a7 = some q → g < q.block ∧ gx < q.block
  nf : ∀ q : Addr, fa = some q → gk < q.block
  nu : ∀ q : Addr, ua = some q → gk < q.block
  l1 : g < gk
  l2 : gx < gk
section
variable {w0 : World} {g gx gk Bf Bu : Nat} {cs cs' : Array Value} {L L' : List (List UInt8)} {b b' o0 o1 p0 p1 : Bool} {a7 : Option Addr} {rl : List Rec} {fa : Option Addr} {fl : List Fl} {ua : Option Addr} {ul : List Int} {W W' : World}
theorem RyS.gp (h : RyS w0 g gx gk Bf Bu cs L b o0 o1 a7 rl fa fl ua ul W) (hg : Gp (P3 g gx gk) W W') (hs : RxS w0 g gx cs' L' b' W') (hk : Blk W' gk BkT #[.bool p0, .bool p1]) : RyS w0 g gx gk Bf Bu cs' L' b' p0 p1 a7 rl fa fl ua ul W' := by
  have hl1 := h.l1
  have hl2 := h.l2
  refine ⟨hs, hk, slR_stayQ h.rs (Nat.le_of_lt h.k.lt) ?_ hg, slR_stayQ h.fs h.zf ?_ hg, slR_stayQ h.us h.zu ?_ hg, Nat.le_trans h.zf hg.size, Nat.le_trans h.zu hg.size, h.nr, h.nf, h.nu, h.l1, h.l2⟩
  · rintro q hq hlt (e | e | e)
    · have := h.nr q hq; omega
    · have := h.nr q hq; omega
    · omega
  · rintro q hq hlt (e | e | e)
    · have := h.nf q hq; omega
    · have := h.nf q hq; omega
    · have := h.nf q hq; omega
  · rintro q hq hlt (e | e | e)
    · have := h.nu q hq; omega
    · have := h.nu q hq; omega
    · have := h.nu q hq; omega
theorem RyS.below (h : RyS w0 g gx gk Bf Bu cs L b o0 o1 a7 rl fa fl ua ul W) (hb : Below W.heap.size W W') : RyS w0 g gx gk Bf Bu cs L b o0 o1 a7 rl fa fl ua ul W' :=
  h.gp (Gp.of_below hb) (h.s.below hb) (h.k.below hb h.k.lt)
theorem RyS.gm (h : RyS w0 g gx gk Bf Bu cs L b o0 o1 a7 rl fa fl ua ul W) (hg : Gm g W W') (hr : RdS W' g L' b') : RyS w0 g gx gk Bf Bu cs L' b' o0 o1 a7 rl fa fl ua ul W' :=
  h.gp (Gp.of_gm hg (Or.inl rfl)) (h.s.gm hg hr) (h.k.grown hg (by have := h.l1; simp; omega))
theorem RyS.setx (h : RyS w0 g gx gk Bf Bu cs L b o0 o1 a7 rl fa fl ua ul W) (i : Nat) {v : Value} (hv : ∀ s : ByteArray, v ≠ .string s) : RyS w0 g gx gk Bf Bu (cs.setIfInBounds i v) L b o0 o1 a7 rl fa fl ua ul (W.setCell ⟨gx, i, none⟩ v) :=
  h.gp (Gp.set v (Or.inr (Or.inl rfl))) (h.s.set i hv) (h.k.grown (gm_set v) (by have := h.l2; simp; omega))
theorem RyS.setk (h : RyS w0 g gx gk Bf Bu cs L b o0 o1 a7 rl fa fl ua ul W) (x : Bool) : RyS w0 g gx gk Bf Bu cs L b x o1 a7 rl fa fl ua ul (W.setCell ⟨gk, 0, none⟩ (.bool x)) :=
  h.gp (Gp.set _ (Or.inr (Or.inr rfl))) (h.s.other h.k bools_nt (gm_set _) (by have := h.l1; omega) (by have := h.l2; omega) (by have := h.l2; have := h.s.ge; omega)) (h.k.set_ 0 _)
theorem RyS.setj (h : RyS w0 g gx gk Bf Bu cs L b o0 o1 a7 rl fa fl ua ul W) (x : Bool) : RyS w0 g gx gk Bf Bu cs L b o0 x a7 rl fa fl ua ul (W.setCell ⟨gk, 1, none⟩ (.bool x)) :=
  h.gp (Gp.set _ (Or.inr (Or.inr rfl))) (h.s.other h.k bools_nt (gm_set _) (by have := h.l1; omega) (by have := h.l2; omega) (by have := h.l2; have := h.s.ge; omega)) (h.k.set_ 1 _)
end
theorem cutY {S P : World → Prop} {A : Prop} (h1 : (∀ w, S w → P w) → A) (h2 : ∀ w, S w → P w) : A := h1 h2
/-- Few lines, and short ones. -/
def LOk (L : List (List UInt8)) : Prop := L.length ≤ 100000 ∧ ∀ x ∈ L, x.length ≤ 90000
theorem next_ok {many : Nat} {first : List UInt8} {L : List (List UInt8)} {b : Bool} (h : LOk L) : LOk (nextD many first L b).2.1 := by
  obtain ⟨h1, h2⟩ := next_lines (many := many) (first := first) (L := L) (b := b)
  exact ⟨Nat.le_trans h2 h.1, fun x hx => h.2 x (h1 x hx)⟩
theorem config_ok {L : List (List UInt8)} {b : Bool} (h : LOk L) : LOk (configD L b).2.1 := next_ok h
theorem recsD_ok : ∀ (n : Nat) (L : List (List UInt8)) (b : Bool), LOk L → LOk (recsD n L b).2.1
  | 0, _, _, h => h
  | _ + 1, [], _, h => h
  | n + 1, _ :: r, b, h => recsD_ok n r _ ⟨Nat.le_trans (by simp) h.1, fun y hy => h.2 y (by simp [hy])⟩
theorem records_ok {L : List (List UInt8)} {b : Bool} (h : LOk L) : LOk (recordsD L b).2.1 := by
  unfold recordsD
  simp only
  split
  · exact next_ok h
  · exact recsD_ok _ _ _ (next_ok h)
theorem verdict_ok {L : List (List UInt8)} {b : Bool} (h : LOk L) : LOk (verdictD L b).2.2.1 := next_ok h
theorem goW_lenQ : ∀ {p : List (List UInt8)} {last : Option Fl} {l : List Fl}, goW p last = some l → l.length = p.length
  | [], last, l, h => by simp only [goW] at h; injection h with h; subst h; rfl
  | x :: r, last, l, h => by
    unfold goW at h
    split at h
    · obtain ⟨m, h1, rfl⟩ := Option.map_eq_some_iff.1 h
      simp [goW_lenQ h1]
    · cases h
theorem setW_le (s : List UInt8) : (setW s).1.length ≤ s.length + 1 := by
  unfold setW
  split
  · simp
  · cases h : goW (cutF 44 s) none with
    | none => simp [setE]
    | some l => have := goW_lenQ h; have := cut_len 44 s; simp only [setE]; omega
theorem setRP_le (s : List UInt8) : (setRP s).1.length ≤ s.length + 1 := by rw [setR_eq]; exact setRD_len s
theorem recsD_len : ∀ (n : Nat) (L : List (List UInt8)) (b : Bool), (recsD n L b).1.length ≤ L.length
  | 0, L, _ => by simp [recsD]
  | _ + 1, [], _ => by simp [recsD]
  | n + 1, x :: r, b => by
    rw [recsD]
    have := recsD_len n r (b || !(readRecF x).2)
    simp only [List.length_cons]
    omega
theorem records_len {L : List (List UInt8)} {b : Bool} (h : LOk L) : (recordsD L b).1.length ≤ 100000 := by
  unfold recordsD
  simp only
  split
  · simp
  · exact Nat.le_trans (recsD_len _ _ _) (next_ok h).1
/-- What is read behind the head. -/
def readD3 (L : List (List UInt8)) (b : Bool) : Rpt × Bool :=
  let s2 := configD L b
  let s3 := recordsD s2.2.1 s2.2.2
  let s4 := verdictD s3.2.1 s3.2.2
  let n5 := nextD 1 [102, 97, 117, 108, 116, 115] s4.2.2.1 s4.2.2.2
  let n6 := nextD 1 [114, 117, 108, 101, 115] n5.2.1 n5.2.2
  let n7 := nextD 2 [108, 101, 102, 116] n6.2.1 n6.2.2
  let k0 := numD (atD n7.1 0) n7.2.2
  let k1 := numD (atD n7.1 1) k0.2
  let x : Rpt := ⟨s2.1.c0, s2.1.c1, s2.1.c2, s2.1.c3, s2.1.c4, s2.1.c5, s3.1, s4.1, s4.2.1, (setW (atD n5.1 0)).1, (setRP (atD n6.1 0)).1, k0.1, k1.1⟩
  if (k1.2 || (!((setW (atD n5.1 0)).2 && (setRP (atD n6.1 0)).2) || (!n7.2.1.isEmpty || !rightD x))) = true then (zRpt, false) else (x, true)
theorem readD2_head (L : List (List UInt8)) (is : Bool) : readD2 L is = readD3 (headD L is).1 (headD L is).2 := rfl
theorem next_fail {many : Nat} {first : List UInt8} {L : List (List UInt8)} (h : (nextD many first L false).2.2 = true) : (nextD many first L false).1 = List.replicate many [] := by
  unfold nextD at h ⊢
  split at h
  · rfl
  · split at h
    · cases h
    · rename_i hc; rw [if_neg hc]
theorem rpZ_fin : ∀ i : Fin 13, (match rpZ[i.val]? with | some (Value.string _) => false | _ => true) = true := by decide
theorem rpZ_nt : ∀ (j : Nat) (s : ByteArray), rpZ[j]? ≠ some (Value.string s) := by
  intro j s h
  obtain ⟨hlt, _⟩ := Array.getElem?_eq_some_iff.1 h
  have h2 := rpZ_fin ⟨j, hlt⟩
  rw [show ((⟨j, hlt⟩ : Fin 13).val) = j from rfl, h] at h2
  cases h2
def P1 (g k : Nat) : Prop := k = g
section
variable {W : World} {g : Nat} {v0 v1 v2 v3 v4 v5 v6 v7 v8 v9 v10 v11 v12 : Value}
theorem blk_put13 (h : Blk W g RpT rpZ) : Blk (((((((((((((W.setCell ⟨g, 0, none⟩ v0).setCell ⟨g, 1, none⟩ v1).setCell ⟨g, 2, none⟩ v2).setCell ⟨g, 3, none⟩ v3).setCell ⟨g, 4, none⟩ v4).setCell ⟨g, 5, none⟩ v5).setCell ⟨g, 6, none⟩ v6).setCell ⟨g, 7, none⟩ v7).setCell ⟨g, 8, none⟩ v8).setCell ⟨g, 9, none⟩ v9).setCell ⟨g, 10, none⟩ v10).setCell ⟨g, 11, none⟩ v11).setCell ⟨g, 12, none⟩ v12) g RpT #[v0, v1, v2, v3, v4, v5, v6, v7, v8, v9, v10, v11, v12] := by
  have h2 := (((((((((((((h.set_ 0 v0).set_ 1 v1).set_ 2 v2).set_ 3 v3).set_ 4 v4).set_ 5 v5).set_ 6 v6).set_ 7 v7).set_ 8 v8).set_ 9 v9).set_ 10 v10).set_ 11 v11).set_ 12 v12)
  simp only [rpZ, List.setIfInBounds_toArray, List.set_cons_zero, List.set_cons_succ] at h2
  exact h2
theorem below_put13 {w0 : World} (h : Below w0.heap.size w0 W) (hg : w0.heap.size ≤ g) : Below w0.heap.size w0 (((((((((((((W.setCell ⟨g, 0, none⟩ v0).setCell ⟨g, 1, none⟩ v1).setCell ⟨g, 2, none⟩ v2).setCell ⟨g, 3, none⟩ v3).setCell ⟨g, 4, none⟩ v4).setCell ⟨g, 5, none⟩ v5).setCell ⟨g, 6, none⟩ v6).setCell ⟨g, 7, none⟩ v7).setCell ⟨g, 8, none⟩ v8).setCell ⟨g, 9, none⟩ v9).setCell ⟨g, 10, none⟩ v10).setCell ⟨g, 11, none⟩ v11).setCell ⟨g, 12, none⟩ v12) :=
  (((((((((((((h.setCell (p := ⟨g, 0, none⟩) hg v0).setCell (p := ⟨g, 1, none⟩) hg v1).setCell (p := ⟨g, 2, none⟩) hg v2).setCell (p := ⟨g, 3, none⟩) hg v3).setCell (p := ⟨g, 4, none⟩) hg v4).setCell (p := ⟨g, 5, none⟩) hg v5).setCell (p := ⟨g, 6, none⟩) hg v6).setCell (p := ⟨g, 7, none⟩) hg v7).setCell (p := ⟨g, 8, none⟩) hg v8).setCell (p := ⟨g, 9, none⟩) hg v9).setCell (p := ⟨g, 10, none⟩) hg v10).setCell (p := ⟨g, 11, none⟩) hg v11).setCell (p := ⟨g, 12, none⟩) hg v12)
theorem gp_put13 : Gp (P1 g) W (((((((((((((W.setCell ⟨g, 0, none⟩ v0).setCell ⟨g, 1, none⟩ v1).setCell ⟨g, 2, none⟩ v2).setCell ⟨g, 3, none⟩ v3).setCell ⟨g, 4, none⟩ v4).setCell ⟨g, 5, none⟩ v5).setCell ⟨g, 6, none⟩ v6).setCell ⟨g, 7, none⟩ v7).setCell ⟨g, 8, none⟩ v8).setCell ⟨g, 9, none⟩ v9).setCell ⟨g, 10, none⟩ v10).setCell ⟨g, 11, none⟩ v11).setCell ⟨g, 12, none⟩ v12) :=
  (((((((((((((Gp.set v0 (show P1 g g from rfl)).trans (Gp.set v1 (show P1 g g from rfl))).trans (Gp.set v2 (show P1 g g from rfl))).trans (Gp.set v3 (show P1 g g from rfl))).trans (Gp.set v4 (show P1 g g from rfl))).trans (Gp.set v5 (show P1 g g from rfl))).trans (Gp.set v6 (show P1 g g from rfl))).trans (Gp.set v7 (show P1 g g from rfl))).trans (Gp.set v8 (show P1 g g from rfl))).trans (Gp.set v9 (show P1 g g from rfl))).trans (Gp.set v10 (show P1 g g from rfl))).trans (Gp.set v11 (show P1 g g from rfl))).trans (Gp.set v12 (show P1 g g from rfl)))
end
theorem rows_put13 {w0 W W' : World} {g gx gk Bf Bu wr : Nat} {cs : Array Value} {L : List (List UInt8)} {b o0 o1 : Bool} {a7 : Option Addr} {rl : List Rec} {fa : Option Addr} {fl : List Fl} {ua : Option Addr} {ul : List Int} (h : RyS w0 g gx gk Bf Bu cs L b o0 o1 a7 rl fa fl ua ul W) (hw : wr < g) (hg : Gp (P1 wr) W W') :
    SlRc W' W'.heap.size a7 rl ∧ SlFl W' W'.heap.size fa fl ∧ SlI W' W'.heap.size ua ul := by
  have hl1 := h.l1
  have h1 := slR_stayQ h.rs (Nat.le_of_lt h.k.lt) (fun q hq _ e => by have := h.nr q hq; have e : q.block = wr := e; omega) hg
  have h2 := slR_stayQ h.fs h.zf (fun q hq _ e => by have := h.nf q hq; have e : q.block = wr := e; omega) hg
  have h3 := slR_stayQ h.us h.zu (fun q hq _ e => by have := h.nu q hq; have e : q.block = wr := e; omega) hg
  exact ⟨h1.mono (Nat.le_trans (Nat.le_of_lt h.k.lt) hg.size) (fun _ _ _ h => h), h2.mono (Nat.le_trans h.zf hg.size) (fun _ _ _ h => h), h3.mono (Nat.le_trans h.zu hg.size) (fun _ _ _ h => h)⟩
/-- What reading a report leaves. -/
def RpP (R : Rpt × Bool) (w : World) (e : Ending) (w' : World) : Prop :=
  ∃ (a : Option Addr) (c : Nat) (fa : Option Addr) (fc : Nat) (ua : Option Addr) (uc : Nat), e = .returned (.tuple #[.agg #[.int .i64 R.1.c0, .int .i64 R.1.c1, .int .i64 R.1.c2, .int .i64 R.1.c3, .int .i64 R.1.c4, .int .i64 R.1.c5, .slice a R.1.l.length c, .int .i64 R.1.v, .int .i64 R.1.t, .slice fa R.1.fs.length fc, .slice ua R.1.us.length uc, .int .i64 R.1.f0, .int .i64 R.1.f1], .int .i64 (if R.2 = true then 0 else 4)]) ∧
    SlRc w' w'.heap.size a R.1.l ∧ SlFl w' w'.heap.size fa R.1.fs ∧ SlI w' w'.heap.size ua R.1.us ∧ R.1.l.length ≤ c ∧ Below w.heap.size w w'
theorem lines_short (s : List UInt8) : ∀ x ∈ (linesF s).1, x.length ≤ s.length := by
  intro x hx
  unfold linesF at hx
  split at hx
  · exact cut_short 10 s x (List.dropLast_subset _ hx)
  · simp at hx
theorem bk_cells : Tryz.prog.cellsOf 4 = 1 := by kernel_rfl
theorem bk_agg : ∀ w, (isAgg 4).run Tryz.prog w = .ok false w := fun w => by simp [isAgg, run_underlying Tryz.underlying4]
theorem bk_part (w : World) (xs : Array Value) (j : Nat) (v : Value) (h : xs[j]? = some v) : (part 4 xs j).run Tryz.prog w = .ok v w := by simp [part, bk_agg, h]
set_option maxRecDepth 100000 in
theorem bk_neq (x y : Bool) (w : World) : (binOp .neq BkT (.agg #[.bool x, .bool y]) (.agg #[.bool true, .bool true])).run Tryz.prog w = .ok (.bool (!(x && y))) w := by
  have e : ∀ (d : Nat) (a b : Bool) (w : World), (Op.equalIn (d + 1) 4 (.bool a) (.bool b)).run Tryz.prog w = .ok (a == b) w := fun d a b w => run_equalIn_bool w d _ a b Tryz.underlying4
  have hi : ∃ i, Tryz.prog.info? 4 = some i := ⟨_, rfl⟩
  obtain ⟨i, hi⟩ := hi
  rw [run_neq_struct, show (10000 : Nat) = 9999 + 1 from rfl, run_equalIn_array w 9999 _ _ Tryz.underlying74 hi, bk_cells, show List.range 2 = [0, 1] from rfl, show (9999 : Nat) = 9998 + 1 from rfl]
  have p0 := bk_part w #[.bool x, .bool y] 0 _ rfl
  have p1 := bk_part w #[.bool x, .bool y] 1 _ rfl
  have t0 := bk_part w #[.bool true, .bool true] 0 _ rfl
  have t1 := bk_part w #[.bool true, .bool true] 1 _ rfl
  cases x <;> cases y <;> simp [Op.eqItems, p0, p1, t0, t1, e]
end Go.Proofs.YtbdmepidabnfkaaGreatDoor
