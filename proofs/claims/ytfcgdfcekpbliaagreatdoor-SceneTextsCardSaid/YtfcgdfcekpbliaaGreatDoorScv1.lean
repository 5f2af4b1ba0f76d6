/-
  Scenarios: the program's reader of a step: its state.
-/
import Derived.Test.YtfcgdfcekpbliaaGreatDoorMj
import Derived.Test.YtfcgdfcekpbliaaGreatDoorMk
import Derived.Test.YtfcgdfcekpbliaaGreatDoorBlk
namespace Go.Proofs.YtfcgdfcekpbliaaGreatDoor
set_option linter.unusedSimpArgs false
set_option linter.unusedVariables false
set_option linter.unusedSectionVars false
open Go.ChangeShapes Go.WideShapes Go.ChangeAt Go.RowKit Go.Deep Go.Shelf

abbrev PtT : TypeId := 50
abbrev FlT3 : TypeId := 87
abbrev SgT3 : TypeId := 95
def fdC (f : Fd) : List Value := [bstr f.name, bstr f.value, .bool f.never]
def seC (p : Int × Int) : List Value := [.int .i64 p.1, .int .i64 p.2]
def OwnF (B : Nat) (w : World) (v : Value) (l : List Fd) : Prop := w.ownsRow B FlT3 3 v l.length (l.flatMap fdC)
def OwnG (B : Nat) (w : World) (v : Value) (l : List (Int × Int)) : Prop := w.ownsRow B SgT3 2 v l.length (l.flatMap seC)
theorem own_ne_ty {B n size g : Nat} {w : World} {e t : TypeId} {v : Value} {xs : List Value} {cs : Array Value} (h : w.ownsRow B e size v n xs) (hb : Blk w g t cs) (ht : t ≠ e) : some g ≠ v.ownBlock := by
  rcases h.2 with ⟨rfl, hn⟩ | ⟨g', cap, cur, rfl, hg, hh, h3⟩
  · simp [Value.ownBlock]
  · intro e2
    simp only [Value.ownBlock, Option.some.injEq] at e2
    subst e2
    have h1 : w.heap[g]? = some (.cells cs t (0, 0)) := hb
    rw [h1] at hh
    injection hh with hh
    injection hh with _ h2 _
    exact ht h2
theorem own_far {B n size g i : Nat} {w : World} {e t : TypeId} {v u : Value} {xs : List Value} {cs : Array Value} (h : w.ownsRow B e size v n xs) (hb : Blk w g t cs) (ht : t ≠ e) : (w.setCell ⟨g, i, none⟩ u).ownsRow B e size v n xs := by
  have hne := own_ne_ty h hb ht
  refine World.ownsRow.kept (row := some g) h ⟨rfl, rfl, rfl, by simp, fun k hk hkg => ?_⟩ (.inr (fun e => hne e.symm))
  exact Below.heap_setCell w ⟨g, i, none⟩ u k (fun e => hkg (by rw [e]))
theorem own_gm {B n size g : Nat} {w w' : World} {e t : TypeId} {v : Value} {xs : List Value} {cs : Array Value} (h : w.ownsRow B e size v n xs) (hb : Blk w g t cs) (ht : t ≠ e) (hg : Gm g w w') : w'.ownsRow B e size v n xs :=
  World.ownsRow.kept h hg (.inr (fun e => own_ne_ty h hb ht e.symm))
theorem own_slice {B n size : Nat} {w : World} {e : TypeId} {v : Value} {xs : List Value} (h : w.ownsRow B e size v n xs) : ∃ a c, v = .slice a n c ∧ n ≤ c := by
  rcases h.2 with ⟨rfl, hn⟩ | ⟨g, cap, cur, rfl, hg, hh, h3, _⟩
  · exact ⟨none, 0, by rw [hn], by omega⟩
  · exact ⟨_, cap, rfl, h3⟩
theorem OwnF.read {B : Nat} {w : World} {a : Option Addr} {n c : Nat} {l : List Fd} (h : OwnF B w (.slice a n c) l) (hl : ∀ f ∈ l, f.name.length ≤ 9223372036854775807 ∧ f.value.length ≤ 9223372036854775807) : SlF w w.heap.size a l := by
  obtain ⟨a2, c2, e, hs⟩ := own_slr (c := fdC) h (fun _ _ => rfl)
  injection e with e1 _ _
  subst e1
  exact hs.mono (Nat.le_refl _) (fun x hx cs hc => ⟨hc, hl x hx⟩)
theorem OwnG.read {B : Nat} {w : World} {a : Option Addr} {n c : Nat} {l : List (Int × Int)} (h : OwnG B w (.slice a n c) l) : SlSe w w.heap.size a l := by
  obtain ⟨a2, c2, e, hs⟩ := own_slr (c := seC) h (fun _ _ => rfl)
  injection e with e1 _ _
  subst e1
  exact hs
theorem ps_nt {k s n : Int} {e : Bool} {a1 a2 : Option Addr} {n1 c1 n2 c2 : Nat} : ∀ (j : Nat) (x : ByteArray), (#[.int .i64 k, .int .i64 s, .int .i64 n, .bool e, .slice a1 n1 c1, .slice a2 n2 c2] : Array Value)[j]? ≠ some (Value.string x) := by
  intro j s
  match j with
  | 0 => simp
  | 1 => simp
  | 2 => simp
  | 3 => simp
  | 4 => simp
  | 5 => simp
  | j + 6 => simp
theorem st_Pt : StructTy Tryz.prog PtT 6 := ⟨_, Tryz.underlying50, rfl, by kernel_rfl⟩
/-- What stands while a step is read: the reader, the step so far in a box, the result's box, and that all else is as it was. -/
structure RxS (B : Nat) (w : World) (g bx : Nat) (kd sm nn : Int) (e : Bool) (fa : Option Addr) (nf fc : Nat) (sa : Option Addr) (ns sc : Nat) (L : List (List UInt8)) (b : Bool) (W : World) : Prop where
  rd : Rd B W g L b
  bk : Blk W bx PtT #[.int .i64 kd, .int .i64 sm, .int .i64 nn, .bool e, .slice fa nf fc, .slice sa ns sc]
  rs : Blk W w.heap.size PtT #[.int .i64 0, .int .i64 0, .int .i64 0, .bool false, .slice none 0 0, .slice none 0 0]
  gm : Gm g w W
  lo : w.heap.size < bx
  gl : g < w.heap.size
section
variable {B : Nat} {w : World} {g bx : Nat} {kd sm nn : Int} {e : Bool} {fa : Option Addr} {nf fc : Nat} {sa : Option Addr} {ns sc : Nat} {L L' : List (List UInt8)} {b b' : Bool} {W W' : World}
theorem RxS.call (h : RxS B w g bx kd sm nn e fa nf fc sa ns sc L b W) (hr : Rd B W' g L' b') (hg : Gm g W W') : RxS B w g bx kd sm nn e fa nf fc sa ns sc L' b' W' :=
  ⟨hr, h.bk.grown hg (by have := h.lo; have := h.gl; simp; omega), h.rs.grown hg (by have := h.gl; simp; omega), h.gm.trans hg, h.lo, h.gl⟩
theorem RxS.bxset (h : RxS B w g bx kd sm nn e fa nf fc sa ns sc L b W) (i : Nat) (u : Value) : Rd B (W.setCell ⟨bx, i, none⟩ u) g L b ∧ Gm g w (W.setCell ⟨bx, i, none⟩ u) ∧ Blk (W.setCell ⟨bx, i, none⟩ u) w.heap.size PtT #[.int .i64 0, .int .i64 0, .int .i64 0, .bool false, .slice none 0 0, .slice none 0 0] :=
  ⟨h.rd.far h.bk ps_nt (gm_set _) (by have := h.lo; have := h.gl; omega), Gm.over h.gm (gm_set _) (Nat.le_of_lt h.lo), h.rs.far (p := ⟨bx, i, none⟩) (by have := h.lo; exact fun e => by simp at e; omega) u⟩
theorem RxS.put1 (h : RxS B w g bx kd sm nn e fa nf fc sa ns sc L b W) (y : Int) : RxS B w g bx kd y nn e fa nf fc sa ns sc L b (W.setCell ⟨bx, 1, none⟩ (.int .i64 y)) :=
  ⟨(h.bxset 1 _).1, h.bk.set_ 1 _, (h.bxset 1 _).2.2, (h.bxset 1 _).2.1, h.lo, h.gl⟩
theorem RxS.put2 (h : RxS B w g bx kd sm nn e fa nf fc sa ns sc L b W) (y : Int) : RxS B w g bx kd sm y e fa nf fc sa ns sc L b (W.setCell ⟨bx, 2, none⟩ (.int .i64 y)) :=
  ⟨(h.bxset 2 _).1, h.bk.set_ 2 _, (h.bxset 2 _).2.2, (h.bxset 2 _).2.1, h.lo, h.gl⟩
theorem RxS.put3 (h : RxS B w g bx kd sm nn e fa nf fc sa ns sc L b W) (y : Bool) : RxS B w g bx kd sm nn y fa nf fc sa ns sc L b (W.setCell ⟨bx, 3, none⟩ (.bool y)) :=
  ⟨(h.bxset 3 _).1, h.bk.set_ 3 _, (h.bxset 3 _).2.2, (h.bxset 3 _).2.1, h.lo, h.gl⟩
theorem RxS.put4 (h : RxS B w g bx kd sm nn e fa nf fc sa ns sc L b W) (a2 : Option Addr) (n2 c2 : Nat) : RxS B w g bx kd sm nn e a2 n2 c2 sa ns sc L b (W.setCell ⟨bx, 4, none⟩ (.slice a2 n2 c2)) :=
  ⟨(h.bxset 4 _).1, h.bk.set_ 4 _, (h.bxset 4 _).2.2, (h.bxset 4 _).2.1, h.lo, h.gl⟩
theorem RxS.put5 (h : RxS B w g bx kd sm nn e fa nf fc sa ns sc L b W) (a2 : Option Addr) (n2 c2 : Nat) : RxS B w g bx kd sm nn e fa nf fc a2 n2 c2 L b (W.setCell ⟨bx, 5, none⟩ (.slice a2 n2 c2)) :=
  ⟨(h.bxset 5 _).1, h.bk.set_ 5 _, (h.bxset 5 _).2.2, (h.bxset 5 _).2.1, h.lo, h.gl⟩
theorem RxS.row (h : RxS B w g bx kd sm nn e fa nf fc sa ns sc L b W) {row : Option Nat} (hg : W.grownBy W' row) (hr : ∀ k, row = some k → w.heap.size ≤ k) (hB : B ≤ w.heap.size) (h1 : some bx ≠ row) (h2 : some w.heap.size ≠ row) : RxS B w g bx kd sm nn e fa nf fc sa ns sc L b W' :=
  ⟨h.rd.besides hg (fun k hk => Nat.le_trans hB (hr k hk)) (fun e => by have := hr g e.symm; have := h.gl; omega), h.bk.grown hg h1, h.rs.grown hg h2,
    ⟨hg.os.trans h.gm.os, hg.tape.trans h.gm.tape, hg.output.trans h.gm.output, Nat.le_trans h.gm.size hg.size, fun k hk hn => (hg.block k (Nat.lt_of_lt_of_le hk h.gm.size) (fun e => by have := hr k e.symm; omega)).trans (h.gm.block k hk hn)⟩, h.lo, h.gl⟩
theorem RxS.grow (h : RxS B w g bx kd sm nn e fa nf fc sa ns sc L b W) (hb : Below W.heap.size W W') : RxS B w g bx kd sm nn e fa nf fc sa ns sc L b W' :=
  ⟨h.rd.grow hb, h.bk.below hb h.bk.lt, h.rs.below hb h.rs.lt, h.gm.trans (gm_below hb), h.lo, h.gl⟩
theorem RxS.env {w0 : World} (h : RxS B w g bx kd sm nn e fa nf fc sa ns sc L b W) (hb : Rb w0 g w) : Rb w0 g W := hb.gm h.gm
theorem RxS.fields (h : RxS B w g bx kd sm nn e fa nf fc sa ns sc L b W) : (W.cell? ⟨bx, 0, none⟩ = some (.int .i64 kd) ∧ W.cell? ⟨bx, 1, none⟩ = some (.int .i64 sm) ∧ W.cell? ⟨bx, 2, none⟩ = some (.int .i64 nn) ∧ W.cell? ⟨bx, 3, none⟩ = some (.bool e) ∧ W.cell? ⟨bx, 4, none⟩ = some (.slice fa nf fc) ∧ W.cell? ⟨bx, 5, none⟩ = some (.slice sa ns sc)) ∧
    (W.frozen? ⟨bx, 1, none⟩ = false ∧ W.frozen? ⟨bx, 2, none⟩ = false ∧ W.frozen? ⟨bx, 3, none⟩ = false ∧ W.frozen? ⟨bx, 4, none⟩ = false ∧ W.frozen? ⟨bx, 5, none⟩ = false) ∧ bx < W.heap.size :=
  ⟨⟨h.bk.cell 0, h.bk.cell 1, h.bk.cell 2, h.bk.cell 3, h.bk.cell 4, h.bk.cell 5⟩, ⟨h.bk.frozen 1, h.bk.frozen 2, h.bk.frozen 3, h.bk.frozen 4, h.bk.frozen 5⟩, h.bk.lt⟩
theorem RxS.results (h : RxS B w g bx kd sm nn e fa nf fc sa ns sc L b W) : (W.cell? ⟨w.heap.size, 0, none⟩ = some (.int .i64 0) ∧ W.cell? ⟨w.heap.size, 1, none⟩ = some (.int .i64 0) ∧ W.cell? ⟨w.heap.size, 2, none⟩ = some (.int .i64 0) ∧ W.cell? ⟨w.heap.size, 3, none⟩ = some (.bool false) ∧ W.cell? ⟨w.heap.size, 4, none⟩ = some (.slice none 0 0) ∧ W.cell? ⟨w.heap.size, 5, none⟩ = some (.slice none 0 0)) ∧
    (W.frozen? ⟨w.heap.size, 0, none⟩ = false ∧ W.frozen? ⟨w.heap.size, 1, none⟩ = false ∧ W.frozen? ⟨w.heap.size, 2, none⟩ = false ∧ W.frozen? ⟨w.heap.size, 3, none⟩ = false ∧ W.frozen? ⟨w.heap.size, 4, none⟩ = false ∧ W.frozen? ⟨w.heap.size, 5, none⟩ = false) ∧ w.heap.size < W.heap.size :=
  ⟨⟨h.rs.cell 0, h.rs.cell 1, h.rs.cell 2, h.rs.cell 3, h.rs.cell 4, h.rs.cell 5⟩, ⟨h.rs.frozen 0, h.rs.frozen 1, h.rs.frozen 2, h.rs.frozen 3, h.rs.frozen 4, h.rs.frozen 5⟩, h.rs.lt⟩
/-- The result's six cells are written. -/
def putR (W : World) (r : Nat) (kd sm nn : Int) (e : Bool) (fa : Option Addr) (nf fc : Nat) (sa : Option Addr) (ns sc : Nat) : World :=
  (((((W.setCell ⟨r, 0, none⟩ (.int .i64 kd)).setCell ⟨r, 1, none⟩ (.int .i64 sm)).setCell ⟨r, 2, none⟩ (.int .i64 nn)).setCell ⟨r, 3, none⟩ (.bool e)).setCell ⟨r, 4, none⟩ (.slice fa nf fc)).setCell ⟨r, 5, none⟩ (.slice sa ns sc)
/-- What reading a step leaves. -/
def RsP (B g : Nat) (x : St) (L : List (List UInt8)) (b : Bool) (w : World) (y : Ending) (w' : World) : Prop :=
  ∃ fa fc sa sc, y = .returned (.agg #[.int .i64 x.kd, .int .i64 x.sm, .int .i64 x.nn, .bool x.fin, .slice fa x.fs.length fc, .slice sa x.ss.length sc]) ∧ OwnF w.heap.size w' (.slice fa x.fs.length fc) x.fs ∧ OwnG w.heap.size w' (.slice sa x.ss.length sc) x.ss ∧ Rd B w' g L b ∧ Gm g w w'
theorem putR_blk (h : RxS B w g bx kd sm nn e fa nf fc sa ns sc L b W) : Blk (putR W w.heap.size kd sm nn e fa nf fc sa ns sc) w.heap.size PtT #[.int .i64 kd, .int .i64 sm, .int .i64 nn, .bool e, .slice fa nf fc, .slice sa ns sc] := h.rs.put6
theorem putR_own {C n size : Nat} {t : TypeId} {v : Value} {xs : List Value} (h : RxS B w g bx kd sm nn e fa nf fc sa ns sc L b W) (ho : W.ownsRow C t size v n xs) (ht : PtT ≠ t) : (putR W w.heap.size kd sm nn e fa nf fc sa ns sc).ownsRow C t size v n xs := by
  have h0 := h.rs
  have h1 := h0.set_ 0 (.int .i64 kd)
  have h2 := h1.set_ 1 (.int .i64 sm)
  have h3 := h2.set_ 2 (.int .i64 nn)
  have h4 := h3.set_ 3 (.bool e)
  have h5 := h4.set_ 4 (.slice fa nf fc)
  exact own_far (own_far (own_far (own_far (own_far (own_far ho h0 ht) h1 ht) h2 ht) h3 ht) h4 ht) h5 ht
theorem putR_rd (h : RxS B w g bx kd sm nn e fa nf fc sa ns sc L b W) : Rd B (putR W w.heap.size kd sm nn e fa nf fc sa ns sc) g L b ∧ Gm g w (putR W w.heap.size kd sm nn e fa nf fc sa ns sc) := by
  have hne : g ≠ w.heap.size := by have := h.gl; omega
  have h0 := h.rs
  have h1 := h0.set_ 0 (.int .i64 kd)
  have h2 := h1.set_ 1 (.int .i64 sm)
  have h3 := h2.set_ 2 (.int .i64 nn)
  have h4 := h3.set_ 3 (.bool e)
  have h5 := h4.set_ 4 (.slice fa nf fc)
  refine ⟨(((((h.rd.far h0 ps_nt (gm_set _) hne).far h1 ps_nt (gm_set _) hne).far h2 ps_nt (gm_set _) hne).far h3 ps_nt (gm_set _) hne).far h4 ps_nt (gm_set _) hne).far h5 ps_nt (gm_set _) hne, ?_⟩
  have hl := Nat.le_refl w.heap.size
  exact (((((h.gm.over (gm_set _) hl).over (gm_set _) hl).over (gm_set _) hl).over (gm_set _) hl).over (gm_set _) hl).over (gm_set _) hl
end
end Go.Proofs.YtfcgdfcekpbliaaGreatDoor
