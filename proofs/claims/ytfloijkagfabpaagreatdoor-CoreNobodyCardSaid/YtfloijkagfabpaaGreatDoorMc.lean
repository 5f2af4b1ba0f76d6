/-
  Parts of the proof, one behind the other: contracts of the program and plain laws; no condition of their own.
-/
import Derived.Test.YtfloijkagfabpaaGreatDoorMb
import Derived.Deep.MidRow
import Derived.Test.YtfloijkagfabpaaGreatDoorMa
import Derived.Deep.RegionHeld3
import Derived.Test.YtfloijkagfabpaaGreatDoorBase
import Derived.Test.YtfloijkagfabpaaGreatDoorShelf
import Derived.Lib.SlBytesRow
import Derived.Lib.BufferRead
import Derived.Test.YtfloijkagfabpaaGreatDoorPng4
/-
  A region that draws its order, in which some blocks are written and all else only grows.
-/
namespace Go.Proofs.YtfloijkagfabpaaGreatDoor
set_option linter.unusedSimpArgs false
set_option linter.unusedVariables false
set_option linter.unusedSectionVars false
open Go.ChangeShapes Go.WideShapes Go.ChangeAt Go.RowKit Go.Deep

/-- All blocks but those of p stay as they were. -/
structure Gp (p : Nat → Prop) (w w' : World) : Prop where
  os : w'.os = w.os
  tape : w'.tape = w.tape
  output : w'.output = w.output
  size : w.heap.size ≤ w'.heap.size
  block : ∀ k, k < w.heap.size → ¬ p k → w'.heap[k]? = w.heap[k]?
theorem Gp.refl {p : Nat → Prop} (w : World) : Gp p w w := ⟨rfl, rfl, rfl, Nat.le_refl _, fun _ _ _ => rfl⟩
theorem Gp.trans {p : Nat → Prop} {a b c : World} (h : Gp p a b) (h2 : Gp p b c) : Gp p a c :=
  ⟨h2.os.trans h.os, h2.tape.trans h.tape, h2.output.trans h.output, Nat.le_trans h.size h2.size, fun k hk hp => (h2.block k (Nat.lt_of_lt_of_le hk h.size) hp).trans (h.block k hk hp)⟩
theorem Gp.cell {p : Nat → Prop} {w w' : World} (h : Gp p w w') (b o : Nat) (hb : b < w.heap.size) (hne : ¬ p b) : w'.cell? ⟨b, o, none⟩ = w.cell? ⟨b, o, none⟩ :=
  World.cell?_of_block (h.block b hb hne)
theorem Gp.of_gm {p : Nat → Prop} {w w' : World} {g : Nat} (h : Gm g w w') (hp : p g) : Gp p w w' :=
  ⟨h.os, h.tape, h.output, h.size, fun k hk hn => h.block k hk (fun e => hn (by injection e with e; rw [e]; exact hp))⟩
theorem Gp.of_below {p : Nat → Prop} {w w' : World} (h : Below w.heap.size w w') : Gp p w w' := ⟨h.os, h.tape, h.output, h.size, fun k hk _ => h.block k hk⟩
theorem Gp.below {p : Nat → Prop} {w w' : World} {B : Nat} (h : Gp p w w') (hB : ∀ k, p k → B ≤ k) (hz : B ≤ w.heap.size) : Below B w w' := ⟨h.os, h.tape, h.output, h.size, fun k hk => h.block k (by omega) (fun hp => by have := hB k hp; omega)⟩
theorem Gp.blk {p : Nat → Prop} {w w' : World} {g : Nat} {t : TypeId} {cs : Array Value} (h : Gp p w w') (hb : Blk w g t cs) (hn : ¬ p g) : Blk w' g t cs := (h.block g hb.lt hn).trans hb
theorem Gp.set {p : Nat → Prop} {w : World} {g o : Nat} (v : Value) (hp : p g) : Gp p w (w.setCell ⟨g, o, none⟩ v) :=
  have hb := (Below.refl 0 w).setCell (p := ⟨g, o, none⟩) (Nat.zero_le _) v
  ⟨hb.os, hb.tape, hb.output, hb.size, fun k _ hne => Below.heap_setCell w ⟨g, o, none⟩ v k (fun e => hne (by rw [show k = g from e]; exact hp))⟩

/-- One of two blocks. -/
def P2 (g h : Nat) (k : Nat) : Prop := k = g ∨ k = h
theorem Gp.cell2 {g h : Nat} {w w' : World} (hp : Gp (P2 g h) w w') (b o : Nat) (hb : b < w.heap.size) (h1 : b ≠ g) (h2 : b ≠ h) : w'.cell? ⟨b, o, none⟩ = w.cell? ⟨b, o, none⟩ :=
  hp.cell b o hb (fun e => e.elim h1 h2)

section
variable {P : Program} {ops : Array Oper} {Q : Exit → Act → World → Prop} {md : Region.Mode} {p : Nat → Prop}
theorem gp_mono {S S' : World → Prop} (hS : ∀ w, S' w → S w) : ∀ (fuel : Nat) (listed : Array Bool) (a : Act) (w : World), wpAnyH P md ops Q S' fuel listed a w → wpAnyH P md ops Q S fuel listed a w
  | 0, _, _, _, h => h
  | fuel + 1, listed, a, w, h => ⟨h.1, fun i hi => wpOp_mono (fun a' w' h' => ⟨hS _ h'.1, gp_mono hS fuel _ a' w' h'.2⟩) (h.2 i hi)⟩
theorem gp_start {id : Nat} {a : Act} {w : World} (p : Nat → Prop) (hm : P.follows .mixedOrders = true)
    (h : wpAnyH P .any ops Q (Gp p w.drew) ops.size (Array.replicate ops.size false) a w.drew) : (Code.region id ops true).wp P Q a w :=
  wp_region_held_drew hm (Gp.refl _) (fun _ => h)
theorem gp_take (i : Nat) {oi : Oper} {v : Value} {fuel : Nat} {listed : Array Bool} {a : Act} {w : World} (hi : ops[i]? = some oi)
    (hs : Region.noSelect ops = true) (hf : Region.free md ops listed i = true) (hr : (Region.ready md ops listed).contains i = true)
    (hQ : ∀ c a w, Q (.panic c) (a.put oi.dst v) w → Q (.panic c) a w) (hy : YieldsIf P ops (Gp p w) oi v a)
    (h : wpAnyH P md ops Q (Gp p w) fuel (listed.setIfInBounds i true) (a.put oi.dst v) w) : wpAnyH P md ops Q (Gp p w) (fuel + 1) listed a w :=
  wpAnyH_take hi hs hf hr hQ hy (Gp.refl _) h
theorem gp_one {i : Nat} {o : Oper} {fuel : Nat} {listed : Array Bool} {a : Act} {w : World} (ho : ops[i]? = some o)
    (h : ∀ K' : Act → World → Prop, Shut (∀ a' w', Gp p w w' → wpAnyH P md ops Q (Gp p w') fuel (listed.setIfInBounds i true) a' w' → K' a' w') → if Region.wanted o (yielded ops a.tmps) = true then Oper.wp P o a w K' Q else K' (a.put o.dst undef) w)
    {rs : List Nat} (hrs : AllReadyH P md ops Q (Gp p w) fuel listed a w rs) : AllReadyH P md ops Q (Gp p w) fuel listed a w (i :: rs) :=
  AllReadyH.cons ho (fun K' hK => h K' (fun a' w' hg hw => hK.out a' w' hg (fun _ => gp_mono (fun w2 h2 => hg.trans h2) _ _ _ _ hw))) hrs
theorem gp_step (i : Nat) {o : Oper} {fuel : Nat} {listed : Array Bool} {a : Act} {w : World} (hr : Region.ready md ops listed = [i]) (ho : ops[i]? = some o)
    (h : ∀ K' : Act → World → Prop, Shut (∀ a' w', Gp p w w' → wpAnyH P md ops Q (Gp p w') fuel (listed.setIfInBounds i true) a' w' → K' a' w') → if Region.wanted o (yielded ops a.tmps) = true then Oper.wp P o a w K' Q else K' (a.put o.dst undef) w) :
    wpAnyH P md ops Q (Gp p w) (fuel + 1) listed a w :=
  wpAnyH_ready hr (by simp) (gp_one ho h AllReadyH.nil)
theorem gp_undrew {w w' : World} (h : Gp p w w') : Gp p w.drew w' := ⟨h.os, h.tape, h.output, h.size, h.block⟩
end
end Go.Proofs.YtfloijkagfabpaaGreatDoor
/-
  A part of a block is read or written: what the whole block is behind it.
-/
namespace Go.Proofs.YtfloijkagfabpaaGreatDoor
set_option linter.unusedSimpArgs false
set_option linter.unusedVariables false
set_option linter.unusedSectionVars false
open Go.ChangeShapes Go.WideShapes Go.ChangeAt Go.RowKit Go.Deep

/-- The cells from a place on are others. -/
def putL : List Value → Nat → List Value → List Value
  | cs, _, [] => cs
  | cs, o, v :: r => putL (cs.set o v) (o + 1) r
abbrev putA (cs : Array Value) (o : Nat) (l : List Value) : Array Value := (putL cs.toList o l).toArray
section
variable {w w' : World} {b o n : Nat} {t : TypeId} {cs : Array Value}
theorem Blk.put : ∀ (l : List Value) (o : Nat) {w : World} {cs : Array Value}, Blk w b t cs → Blk (w.setCells b o l) b t (putA cs o l)
  | [], _, _, _, h => by simpa [putA, putL, World.setCells] using h
  | v :: r, o, w, cs, h => by
    have h1 := h.set_ o v
    have := Blk.put r (o + 1) h1
    unfold World.setCells putA putL
    unfold putA at this
    rwa [show (cs.setIfInBounds o v).toList = cs.toList.set o v by simp] at this
theorem gp_setCells : ∀ (l : List Value) (o : Nat) (w : World), Gp (fun q => q = b) w (w.setCells b o l)
  | [], _, w => Gp.refl _
  | v :: r, o, w => (Gp.set (p := fun q => q = b) (o := o) v rfl).trans (gp_setCells r (o + 1) _)
theorem Blk.there (h : Blk w b t cs) (hn : o + n ≤ cs.size) : w.there b o n := fun j hj => by
  rw [h.cell, h.frozen]
  exact ⟨by rw [Array.getElem?_eq_getElem (by omega)]; rfl, rfl⟩
theorem Blk.range (h : Blk w b t cs) {l : List Value} (hl : (cs.toList.drop o).take l.length = l) : w.rangeAt b o l := fun j v hj => by
  rw [h.cell, ← Array.getElem?_toList]
  rw [← hl, List.getElem?_take] at hj
  split at hj
  · rwa [List.getElem?_drop] at hj
  · cases hj
end
/-- The store of a row into a part of a block. -/
theorem wpList_put {P : Program} {ops : Array Oper} {rest : List Oper} {op : Oper} {a : Act} {w : World} {Q : Exit → Act → World → Prop} {t : TypeId} {cs cells : Array Value} {b o : Nat} (hb : Blk w b t cs) (hgd : op.guard = none) (ty : TypeId) (x y : Operand) (ho : op.op = .store ty x y)
    (hx : a.eval x = .pointer (some ⟨b, o, none⟩)) (hy : a.eval y = .agg cells)
    (hn : o + cells.size ≤ cs.size) (hi : (P.info? ty).map (·.size) = some cells.size) (h1 : cells.all (·.oneCell') = true)
    (h : wpList P ops Q rest (a.put op.dst undef) (w.setCells b o cells.toList)) : wpList P ops Q (op :: rest) a w :=
  wpList_store_mid hgd ty x y ho b o cells hx hy (hb.there hn) hi h1 h
/-- The load of a part of a block. -/
theorem wpList_part {P : Program} {ops : Array Oper} {rest : List Oper} {op : Oper} {a : Act} {w : World} {Q : Exit → Act → World → Prop} {t : TypeId} {cs : Array Value} {b o : Nat} (hb : Blk w b t cs) (l : List Value) (hgd : op.guard = none) (ty : TypeId) (x : Operand) (ho : op.op = .load ty x)
    (hx : a.eval x = .pointer (some ⟨b, o, none⟩)) (hl : (cs.toList.drop o).take l.length = l) {d : TypeDesc} (hu : P.underlying ty = some d) (hd : d.isRow = true) (hi : (P.info? ty).map (·.size) = some l.length)
    (h : wpList P ops Q rest (a.put op.dst (.agg l.toArray)) w) : wpList P ops Q (op :: rest) a w :=
  wpList_load_mid hgd ty x ho b o hx l d (hb.range hl) hu hd hi h
end Go.Proofs.YtfloijkagfabpaaGreatDoor
/-
  A region that draws its order, in which all below a fixed block number stays.
-/
namespace Go.Proofs.YtfloijkagfabpaaGreatDoor
set_option linter.unusedSimpArgs false
set_option linter.unusedVariables false
set_option linter.unusedSectionVars false
open Go.ChangeShapes Go.WideShapes Go.ChangeAt Go.RowKit Go.Deep

section
variable {P : Program} {ops : Array Oper} {Q : Exit → Act → World → Prop} {md : Region.Mode} {B : Nat}
def Gb (B : Nat) (w w' : World) : Prop := Below B w w'
theorem Gb.cell {w w' : World} (h : Gb B w w') (b o : Nat) (hb : b < B) : w'.cell? ⟨b, o, none⟩ = w.cell? ⟨b, o, none⟩ := Below.cell (p := ⟨b, o, none⟩) h hb
theorem gb_mono {S S' : World → Prop} (hS : ∀ w, S' w → S w) : ∀ (fuel : Nat) (listed : Array Bool) (a : Act) (w : World), wpAnyH P md ops Q S' fuel listed a w → wpAnyH P md ops Q S fuel listed a w
  | 0, _, _, _, h => h
  | fuel + 1, listed, a, w, h => ⟨h.1, fun i hi => wpOp_mono (fun a' w' h' => ⟨hS _ h'.1, gb_mono hS fuel _ a' w' h'.2⟩) (h.2 i hi)⟩
theorem gb_start {id : Nat} {a : Act} {w : World} (B : Nat) (hm : P.follows .mixedOrders = true)
    (h : wpAnyH P .any ops Q (Gb B w.drew) ops.size (Array.replicate ops.size false) a w.drew) : (Code.region id ops true).wp P Q a w :=
  wp_region_held_drew hm (Below.refl _ _) (fun _ => h)
theorem gb_take (i : Nat) {oi : Oper} {v : Value} {fuel : Nat} {listed : Array Bool} {a : Act} {w : World} (hi : ops[i]? = some oi)
    (hs : Region.noSelect ops = true) (hf : Region.free md ops listed i = true) (hr : (Region.ready md ops listed).contains i = true)
    (hQ : ∀ c a w, Q (.panic c) (a.put oi.dst v) w → Q (.panic c) a w) (hy : YieldsIf P ops (Gb B w) oi v a)
    (h : wpAnyH P md ops Q (Gb B w) fuel (listed.setIfInBounds i true) (a.put oi.dst v) w) : wpAnyH P md ops Q (Gb B w) (fuel + 1) listed a w :=
  wpAnyH_take hi hs hf hr hQ hy (Below.refl _ _) h
theorem gb_step (i : Nat) {o : Oper} {fuel : Nat} {listed : Array Bool} {a : Act} {w : World} (hr : Region.ready md ops listed = [i]) (ho : ops[i]? = some o)
    (h : ∀ K' : Act → World → Prop, Shut (∀ a' w', Gb B w w' → wpAnyH P md ops Q (Gb B w') fuel (listed.setIfInBounds i true) a' w' → K' a' w') → if Region.wanted o (yielded ops a.tmps) = true then Oper.wp P o a w K' Q else K' (a.put o.dst undef) w) :
    wpAnyH P md ops Q (Gb B w) (fuel + 1) listed a w :=
  wpAnyH_ready hr (by simp) (AllReadyH.cons ho (fun K' hK => h K' (fun a' w' hg hw => hK.out a' w' hg (fun _ => gb_mono (fun w2 h2 => Below.trans hg h2) _ _ _ _ hw))) AllReadyH.nil)
theorem gb_one {i : Nat} {o : Oper} {fuel : Nat} {listed : Array Bool} {a : Act} {w : World} (ho : ops[i]? = some o)
    (h : ∀ K' : Act → World → Prop, Shut (∀ a' w', Gb B w w' → wpAnyH P md ops Q (Gb B w') fuel (listed.setIfInBounds i true) a' w' → K' a' w') → if Region.wanted o (yielded ops a.tmps) = true then Oper.wp P o a w K' Q else K' (a.put o.dst undef) w)
    {rs : List Nat} (hrs : AllReadyH P md ops Q (Gb B w) fuel listed a w rs) : AllReadyH P md ops Q (Gb B w) fuel listed a w (i :: rs) :=
  AllReadyH.cons ho (fun K' hK => h K' (fun a' w' hg hw => hK.out a' w' hg (fun _ => gb_mono (fun w2 h2 => Below.trans hg h2) _ _ _ _ hw))) hrs
theorem gb_two (i j : Nat) {o p : Oper} {fuel : Nat} {listed : Array Bool} {a : Act} {w : World} (hr : Region.ready md ops listed = [i, j]) (ho : ops[i]? = some o) (hp : ops[j]? = some p)
    (h : ∀ K' : Act → World → Prop, Shut (∀ a' w', Gb B w w' → wpAnyH P md ops Q (Gb B w') fuel (listed.setIfInBounds i true) a' w' → K' a' w') → if Region.wanted o (yielded ops a.tmps) = true then Oper.wp P o a w K' Q else K' (a.put o.dst undef) w)
    (h2 : ∀ K' : Act → World → Prop, Shut (∀ a' w', Gb B w w' → wpAnyH P md ops Q (Gb B w') fuel (listed.setIfInBounds j true) a' w' → K' a' w') → if Region.wanted p (yielded ops a.tmps) = true then Oper.wp P p a w K' Q else K' (a.put p.dst undef) w) :
    wpAnyH P md ops Q (Gb B w) (fuel + 1) listed a w :=
  wpAnyH_ready hr (by simp) (gb_one ho h (gb_one hp h2 AllReadyH.nil))
/-- A whole row, loaded early: it lies below what may change. -/
theorem gb_load (i : Nat) {oi : Oper} {fuel : Nat} {listed : Array Bool} {a : Act} {w : World} (hi : ops[i]? = some oi)
    (hs : Region.noSelect ops = true) (hf : Region.free md ops listed i = true) (hr : (Region.ready md ops listed).contains i = true)
    (ty : TypeId) (x : Operand) (cs : Array Value) (hQ : ∀ c a w, Q (.panic c) (a.put oi.dst (.agg cs)) w → Q (.panic c) a w) (hw : Region.wanted oi (yielded ops a.tmps) = true) (ho : oi.op = .load ty x) (b : Nat) (hx : a.eval x = .pointer (some ⟨b, 0, none⟩)) {t : TypeId} (hb : Blk w b t cs) (hbB : b < B) (d : TypeDesc)
    (hu : P.underlying ty = some d) (hd : d.isRow = true) (hsz : (P.info? ty).map (·.size) = some cs.size)
    (h : wpAnyH P md ops Q (Gb B w) fuel (listed.setIfInBounds i true) (a.put oi.dst (.agg cs)) w) : wpAnyH P md ops Q (Gb B w) (fuel + 1) listed a w :=
  gb_take i hi hs hf hr hQ (by
    have := yieldsIf_load_mid (P := P) (ops := ops) (S := Gb B w) (op := oi) (a := a) hw ty x ho b 0 hx cs.toList d (fun w' hw' j v hj => by
      rw [Nat.zero_add, Gb.cell hw' b j hbB, hb.cell j, ← Array.getElem?_toList]
      exact hj) hu hd (by simpa using hsz)
    simpa using this) h
theorem gb_undrew {w w' : World} (h : Below B w w') : Below B w.drew w' := ⟨h.os, h.tape, h.output, h.size, h.block⟩
theorem gbb {C B : Nat} {a w : World} (hB : C ≤ B) (h : Below B a w := by first | exact belm | (refine gb_undrew ?_; exact belm)) : Gb C a w := Below.mono h hB
end
end Go.Proofs.YtfloijkagfabpaaGreatDoor
/-
  Bytes of a call's own: appended to, read, turned into a text.
-/
namespace Go.Proofs.YtfloijkagfabpaaGreatDoor
set_option linter.unusedSimpArgs false
set_option linter.unusedVariables false
set_option linter.unusedSectionVars false
open Go.ChangeShapes Go.WideShapes Go.ChangeAt Go.RowKit Go.Deep

theorem byteCells_snoc (l : List UInt8) (c : UInt8) : Lib.byteCells (l ++ [c]) = Lib.byteCells l ++ [.int .u8 (c.toNat : Int)] := by
  rw [Lib.byteCells, Lib.byteCells, List.map_append]; rfl
theorem byteCells_len (l : List UInt8) : (Lib.byteCells l).length = l.length := by simp [Lib.byteCells]
theorem st_bytes : SliceTy Tryz.prog 54 5 (.int .u8 0) 1 1 := .mk' Tryz.underlying54 (by kernel_rfl) rfl (by omega)
def OwnB (B : Nat) (w : World) (v : Value) (l : List UInt8) : Prop := w.ownsRow B 5 1 v l.length (Lib.byteCells l)
theorem OwnB.nil (B : Nat) (w : World) : OwnB B w (.slice none 0 0) [] := World.ownsRow_nil _ _ _ _
theorem OwnB.alloc {B : Nat} {w : World} {v : Value} {l : List UInt8} (h : OwnB B w v l) (o : Obj) : OwnB B (w.alloc o) v l := World.ownsRow.alloc h o
theorem OwnB.below {B C : Nat} {w w' : World} {v : Value} {l : List UInt8} (h : OwnB B w v l) (hb : Below C w w') (hC : w.heap.size ≤ C) : OwnB B w' v l := own_below h hb hC
theorem OwnB.more {B : Nat} {w : World} {v : Value} {l : List UInt8} (h : OwnB B w v l) (j : Junk) : OwnB B (w.more j) v l := h.below (C := w.heap.size) (Below.moreS (Below.refl _ _) j) (Nat.le_refl _)
theorem app_byte {ops : Array Oper} {rest : List Oper} {o : Oper} {a : Act} {Q : Exit → Act → World → Prop} {w : World}
    (s x : Operand) (hgd : o.guard = none) (ho : o.op = .call { callee := .builtin .append, args := #[s, x], argTypes := #[54, 54] })
    {B : Nat} {v : Value} {l : List UInt8} {c : UInt8} (hs : a.eval s = v) (hown : OwnB B w v l)
    {g cc : Nat} {e' : TypeId} (hx : a.eval x = .slice (some ⟨g, 0, none⟩) 1 cc) (hb : Blk w g e' #[.int .u8 (c.toNat : Int)])
    (hl : l.length + 1 ≤ 140737488355328) (hB : B ≤ w.heap.size)
    (h : ∀ v' w', OwnB B w' v' (l ++ [c]) → Below B w w' → wpList Tryz.prog ops Q rest (a.put o.dst v') w') : wpList Tryz.prog ops Q (o :: rest) a w := by
  refine wpList_app st_bytes s x hgd ho hs hown hx hb rfl (by intro u hu; simp at hu; subst hu; rfl) (by unfold maxLen; omega) (by omega) hB (fun v' w' h1 h2 => h v' w' ?_ (own_grown (Below.refl B w) hown h2 (Nat.le_refl _) hB))
  unfold OwnB
  rw [byteCells_snoc, List.length_append]
  exact h1
theorem OwnB.bytes {B : Nat} {w : World} {v : Value} {l : List UInt8} (h : OwnB B w v l) : (v = .slice none 0 0 ∧ l = []) ∨ ∃ g cap, v = .slice (some ⟨g, 0, none⟩) l.length cap ∧ B ≤ g ∧ g < w.heap.size ∧ Lib.Bytes w g 0 ⟨l.toArray⟩ := by
  rcases h.2 with ⟨rfl, hn⟩ | ⟨g, cap, cur, rfl, hg, hh, h3, h4, h5, h6⟩
  · exact .inl ⟨rfl, List.eq_nil_of_length_eq_zero hn⟩
  · refine .inr ⟨g, cap, rfl, hg, (World.ownsRow.lt h g rfl).2, fun i hi => ?_⟩
    have hi' : i < l.length := hi
    have := World.ownsRow.cells h (g := g) rfl i (.int .u8 (l[i].toNat : Int)) (by simp [Lib.byteCells, hi'])
    have e1 : (⟨g, 0, none⟩ : Addr).add i = ⟨g, 0 + i, none⟩ := by unfold Addr.add; by_cases hj : i = 0 <;> simp [hj]
    rw [e1] at this
    exact this
theorem OwnB.text {B : Nat} {w : World} {v : Value} {l : List UInt8} (h : OwnB B w v l) : (convert 54 9 v).run Tryz.prog w = .ok (bstr l) w := by
  rcases h.bytes with ⟨rfl, rfl⟩ | ⟨g, cap, rfl, _, _, hb⟩
  · exact Lib.run_convert_nil_bytes w _ _ _ 0 Tryz.underlying54 Tryz.underlying5 Tryz.underlying9
  · exact Lib.run_convert_whole w _ _ _ Tryz.underlying54 Tryz.underlying5 Tryz.underlying9 g 0 ⟨l.toArray⟩ hb cap
theorem OwnB.len {B : Nat} {w : World} {v : Value} {l : List UInt8} (h : OwnB B w v l) : ∃ a cap, v = .slice a l.length cap := by
  rcases h.bytes with ⟨rfl, rfl⟩ | ⟨g, cap, rfl, _⟩
  · exact ⟨none, 0, rfl⟩
  · exact ⟨_, cap, rfl⟩

/-! Bytes that are read. -/
def byteIs (x : UInt8) (cs : List Value) : Prop := cs = [.int .u8 (x.toNat : Int)]
abbrev SlB (w : World) (B : Nat) (a : Option Addr) (l : List UInt8) : Prop := SlR w B 1 byteIs a l
theorem SlR.atB {w : World} {B : Nat} {a : Option Addr} {l : List UInt8} (h : SlR w B 1 byteIs a l) {k : Nat} (hk : k < l.length) : ∃ b off, a = some ⟨b, off, none⟩ ∧ b < B ∧ w.cell? ⟨b, off + k, none⟩ = some (.int .u8 (l[k].toNat : Int)) := by
  obtain ⟨b, off, cs, ha, hb, rfl, hc⟩ := h k hk
  have := hc 0 _ rfl
  rw [Nat.mul_one, Nat.add_zero] at this
  exact ⟨b, off, ha, hb, this⟩
theorem OwnB.read {B : Nat} {w : World} {v : Value} {l : List UInt8} (h : OwnB B w v l) : ∃ a cap, v = .slice a l.length cap ∧ SlB w w.heap.size a l := by
  rcases h.bytes with ⟨rfl, rfl⟩ | ⟨g, cap, rfl, _, hlt, hb⟩
  · exact ⟨none, 0, rfl, .nil⟩
  · refine ⟨_, cap, rfl, fun k hk => ⟨g, 0, _, rfl, hlt, rfl, fun j u hu => ?_⟩⟩
    match j, hu with
    | 0, hu =>
      simp at hu
      subst hu
      rw [Nat.mul_one, Nat.add_zero]
      exact hb k hk

theorem OwnB.drew {B : Nat} {w : World} {v : Value} {l : List UInt8} (h : OwnB B w v l) : OwnB B w.drew v l := h
/-- An appended byte as a step of a region that draws its order. -/
theorem step_byte {ops : Array Oper} {o : Oper} {a : Act} {K : Act → World → Prop} {Q : Exit → Act → World → Prop} {E : Prop} {w : World}
    (s x : Operand) (hgd : o.guard = none) (ho : o.op = .call { callee := .builtin .append, args := #[s, x], argTypes := #[54, 54] })
    {B : Nat} {v : Value} {l : List UInt8} {c : UInt8} (hs : a.eval s = v) (hown : OwnB B w v l)
    {g cc : Nat} {e' : TypeId} (hx : a.eval x = .slice (some ⟨g, 0, none⟩) 1 cc) (hb : Blk w g e' #[.int .u8 (c.toNat : Int)])
    (hl : l.length + 1 ≤ 140737488355328) (hB : B ≤ w.heap.size)
    (h : ∀ v' w', OwnB B w' v' (l ++ [c]) → Below B w w' → K (a.put o.dst v') w') : if Region.wanted o (yielded ops a.tmps) = true then Oper.wp Tryz.prog o a w K Q else E := by
  refine step_app st_bytes s x hgd ho hs hown hx hb rfl (by intro u hu; simp at hu; subst hu; rfl) (by unfold maxLen; omega) (by omega) hB (fun v' w' h1 h2 => h v' w' ?_ (own_grown (Below.refl B w) hown h2 (Nat.le_refl _) hB))
  unfold OwnB
  rw [byteCells_snoc, List.length_append]
  exact h1
end Go.Proofs.YtfloijkagfabpaaGreatDoor
/-
  Bytes: a row of bytes behind another; a copy of bytes.
-/
namespace Go.Proofs.YtfloijkagfabpaaGreatDoor
set_option linter.unusedSimpArgs false
set_option linter.unusedVariables false
set_option linter.unusedSectionVars false
open Go.ChangeShapes Go.WideShapes Go.ChangeAt Go.RowKit Go.Deep Go.Shelf

theorem app_bytes {ops : Array Oper} {rest : List Oper} {o : Oper} {a : Act} {Q : Exit → Act → World → Prop} {w : World}
    (s x : Operand) (hgd : o.guard = none) (ho : o.op = .call { callee := .builtin .append, args := #[s, x], argTypes := #[54, 54] })
    {B C : Nat} {v : Value} {l m : List UInt8} (hs : a.eval s = v) (hown : OwnB B w v l)
    {A : Option Addr} {n c : Nat} (hx : a.eval x = .slice A n c) (hn : m.length = n) (hr : SlB w C A m)
    (hl : l.length + n ≤ 140737488355328) (hB : B ≤ w.heap.size)
    (h : ∀ v' w', OwnB B w' v' (l ++ m) → Below B w w' → w.grownBy w' v.ownBlock → wpList Tryz.prog ops Q rest (a.put o.dst v') w') : wpList Tryz.prog ops Q (o :: rest) a w := by
  refine wpList_app_sl st_bytes s x hgd ho hs hown hx hn hr (cf := fun (x : UInt8) => [.int .u8 (x.toNat : Int)]) (fun _ _ _ h => h) (fun _ _ => rfl) (fun _ _ u hu => by simp at hu; subst hu; rfl) (by unfold maxLen; omega) (by omega) hB (fun v' w' h1 h2 => h v' w' ?_ (own_grown (Below.refl B w) hown h2 (Nat.le_refl _) hB) h2)
  have e : Lib.byteCells (l ++ m) = Lib.byteCells l ++ m.flatMap (fun (x : UInt8) => [.int .u8 (x.toNat : Int)]) := by
    unfold Lib.byteCells
    rw [List.map_append]
    congr 1
    clear h h1 h2 hr hx hn
    induction m with
    | nil => rfl
    | cons y r ih => simp only [List.map_cons, List.flatMap_cons, ih]; rfl
  unfold OwnB
  rw [e, List.length_append, hn]
  exact h1
set_option maxRecDepth 100000 in
theorem slices_CloneB (a : Option Addr) (c : Nat) (l : List UInt8) (w : World) (h : SlB w w.heap.size a l) (hl : l.length ≤ 1099511627776) :
    Calls Tryz.prog 37 #[.slice a l.length c] w fun e w' => ∃ v', e = .returned v' ∧ OwnB w.heap.size w' v' l ∧ Below w.heap.size w w' := by
  have q : ∀ (w : World) (a : Option Addr) (n c n' c' : Nat), (binOp .eql 54 (.slice a n c) (.slice none n' c')).run Tryz.prog w = .ok (.bool a.isNone) w := fun w a n c n' c' => Lib.run_eql_slice_nil w _ _ a n c n' c' Tryz.underlying54
  have HS := Lib.hid h
  clear h
  cases a with
  | none =>
    obtain rfl : l = [] := by
      cases l with
      | nil => rfl
      | cons x r => obtain ⟨b, o, hx, _⟩ := SlR.atB HS.out (k := 0) (by simp); cases hx
    go_enter Tryz.func37, Tryz.ntmps37
    go_wp2_with fail
    go_ret
    exact ⟨_, rfl, OwnB.nil _ _, bel⟩
  | some p =>
    go_enter Tryz.func37, Tryz.ntmps37
    go_wp2_with (at_builtin; refine app_bytes (.tmp 5) (.tmp 6) rfl rfl (B := w.heap.size) (l := []) (m := l) rfl (World.ownsRow_lit (base := w.heap.size) w #[] 0 (Nat.le_refl _) (by decide) rfl) rfl rfl (HS.out.below ((Below.refl w.heap.size w).alloc (Nat.le_refl _) _) (Nat.le_refl _)) (by simp; omega) (by simp) ?_)
    intro v' w' ho hb _
    go_wp2_with fail
    go_ret
    exact ⟨_, rfl, by simpa using ho, ((Below.refl w.heap.size w).alloc (Nat.le_refl _) _).trans hb⟩
end Go.Proofs.YtfloijkagfabpaaGreatDoor
/-
  A connection: which configs may be; a new one; one that is not there.
-/
namespace Go.Proofs.YtfloijkagfabpaaGreatDoor
set_option linter.unusedSimpArgs false
set_option linter.unusedVariables false
set_option linter.unusedSectionVars false
open Go.ChangeShapes Go.WideShapes Go.ChangeAt Go.RowKit Go.Deep Go.Shelf

def inR (n a b : Int) : Bool := decide (n ≥ a) && decide (n ≤ b)
set_option maxRecDepth 100000 in
theorem core_within (n a b : Int) (w : World) : Calls Tryz.prog 55 #[.int .i64 n, .int .i64 a, .int .i64 b] w fun e w' => e = .returned (.bool (inR n a b)) ∧ w = w' := by
  unfold inR
  by_cases h : n ≥ a
  · rw [decide_eq_true h, Bool.true_and]
    go_enter Tryz.func55, Tryz.ntmps55
    go_wp2_with fail
    go_ret
    exact ⟨rfl, rfl⟩
  · rw [decide_eq_false h, Bool.false_and]
    go_enter Tryz.func55, Tryz.ntmps55
    go_wp2_with fail
    go_ret
    exact ⟨rfl, rfl⟩
def confR (g s b q p t : Int) : Bool := inR g 0 64 && (inR s 1 1024 && (inR b 0 1048576 && (inR q 1 32 && (inR p 0 64 && inR t 4096 1048576))))
abbrev confV (g s b q p t : Int) : Value := .agg #[.int .i64 g, .int .i64 s, .int .i64 b, .int .i64 q, .int .i64 p, .int .i64 t]
set_option maxHeartbeats 4000000 in
set_option maxRecDepth 100000 in
theorem core_Right (g s b q p t : Int) (w : World) : Calls Tryz.prog 21 #[confV g s b q p t] w fun e w' => e = .returned (.bool (confR g s b q p t)) ∧ ∃ j, w' = w.more j := by
  have H0 : Hid (∀ W, Calls Tryz.prog 55 #[.int .i64 g, .int .i64 0, .int .i64 64] W fun e w' => e = .returned (.bool (inR g 0 64)) ∧ W = w') := core_within g 0 64
  have H1 : Hid (∀ W, Calls Tryz.prog 55 #[.int .i64 s, .int .i64 1, .int .i64 1024] W fun e w' => e = .returned (.bool (inR s 1 1024)) ∧ W = w') := core_within s 1 1024
  have H2 : Hid (∀ W, Calls Tryz.prog 55 #[.int .i64 b, .int .i64 0, .int .i64 1048576] W fun e w' => e = .returned (.bool (inR b 0 1048576)) ∧ W = w') := core_within b 0 1048576
  have H3 : Hid (∀ W, Calls Tryz.prog 55 #[.int .i64 q, .int .i64 1, .int .i64 32] W fun e w' => e = .returned (.bool (inR q 1 32)) ∧ W = w') := core_within q 1 32
  have H4 : Hid (∀ W, Calls Tryz.prog 55 #[.int .i64 p, .int .i64 0, .int .i64 64] W fun e w' => e = .returned (.bool (inR p 0 64)) ∧ W = w') := core_within p 0 64
  have H5 : Hid (∀ W, Calls Tryz.prog 55 #[.int .i64 t, .int .i64 4096, .int .i64 1048576] W fun e w' => e = .returned (.bool (inR t 4096 1048576)) ∧ W = w') := core_within t 4096 1048576
  unfold confR
  generalize inR g 0 64 = B0 at H0 ⊢
  generalize inR s 1 1024 = B1 at H1 ⊢
  generalize inR b 0 1048576 = B2 at H2 ⊢
  generalize inR q 1 32 = B3 at H3 ⊢
  generalize inR p 0 64 = B4 at H4 ⊢
  generalize inR t 4096 1048576 = B5 at H5 ⊢
  cases B0
  · go_enter Tryz.func21, Tryz.ntmps21
    go_wp2_with (first | (go_at_call 55; (with_reducible refine (H0.out _).mono ?_); rintro e w' ⟨rfl, rfl⟩) | (go_at_call 55; (with_reducible refine (H1.out _).mono ?_); rintro e w' ⟨rfl, rfl⟩) | (go_at_call 55; (with_reducible refine (H2.out _).mono ?_); rintro e w' ⟨rfl, rfl⟩) | (go_at_call 55; (with_reducible refine (H3.out _).mono ?_); rintro e w' ⟨rfl, rfl⟩) | (go_at_call 55; (with_reducible refine (H4.out _).mono ?_); rintro e w' ⟨rfl, rfl⟩) | (go_at_call 55; (with_reducible refine (H5.out _).mono ?_); rintro e w' ⟨rfl, rfl⟩))
    go_ret
    exact ⟨rfl, Below.junk bel⟩
  cases B1
  · go_enter Tryz.func21, Tryz.ntmps21
    go_wp2_with (first | (go_at_call 55; (with_reducible refine (H0.out _).mono ?_); rintro e w' ⟨rfl, rfl⟩) | (go_at_call 55; (with_reducible refine (H1.out _).mono ?_); rintro e w' ⟨rfl, rfl⟩) | (go_at_call 55; (with_reducible refine (H2.out _).mono ?_); rintro e w' ⟨rfl, rfl⟩) | (go_at_call 55; (with_reducible refine (H3.out _).mono ?_); rintro e w' ⟨rfl, rfl⟩) | (go_at_call 55; (with_reducible refine (H4.out _).mono ?_); rintro e w' ⟨rfl, rfl⟩) | (go_at_call 55; (with_reducible refine (H5.out _).mono ?_); rintro e w' ⟨rfl, rfl⟩))
    go_ret
    exact ⟨rfl, Below.junk bel⟩
  cases B2
  · go_enter Tryz.func21, Tryz.ntmps21
    go_wp2_with (first | (go_at_call 55; (with_reducible refine (H0.out _).mono ?_); rintro e w' ⟨rfl, rfl⟩) | (go_at_call 55; (with_reducible refine (H1.out _).mono ?_); rintro e w' ⟨rfl, rfl⟩) | (go_at_call 55; (with_reducible refine (H2.out _).mono ?_); rintro e w' ⟨rfl, rfl⟩) | (go_at_call 55; (with_reducible refine (H3.out _).mono ?_); rintro e w' ⟨rfl, rfl⟩) | (go_at_call 55; (with_reducible refine (H4.out _).mono ?_); rintro e w' ⟨rfl, rfl⟩) | (go_at_call 55; (with_reducible refine (H5.out _).mono ?_); rintro e w' ⟨rfl, rfl⟩))
    go_ret
    exact ⟨rfl, Below.junk bel⟩
  cases B3
  · go_enter Tryz.func21, Tryz.ntmps21
    go_wp2_with (first | (go_at_call 55; (with_reducible refine (H0.out _).mono ?_); rintro e w' ⟨rfl, rfl⟩) | (go_at_call 55; (with_reducible refine (H1.out _).mono ?_); rintro e w' ⟨rfl, rfl⟩) | (go_at_call 55; (with_reducible refine (H2.out _).mono ?_); rintro e w' ⟨rfl, rfl⟩) | (go_at_call 55; (with_reducible refine (H3.out _).mono ?_); rintro e w' ⟨rfl, rfl⟩) | (go_at_call 55; (with_reducible refine (H4.out _).mono ?_); rintro e w' ⟨rfl, rfl⟩) | (go_at_call 55; (with_reducible refine (H5.out _).mono ?_); rintro e w' ⟨rfl, rfl⟩))
    go_ret
    exact ⟨rfl, Below.junk bel⟩
  cases B4
  · go_enter Tryz.func21, Tryz.ntmps21
    go_wp2_with (first | (go_at_call 55; (with_reducible refine (H0.out _).mono ?_); rintro e w' ⟨rfl, rfl⟩) | (go_at_call 55; (with_reducible refine (H1.out _).mono ?_); rintro e w' ⟨rfl, rfl⟩) | (go_at_call 55; (with_reducible refine (H2.out _).mono ?_); rintro e w' ⟨rfl, rfl⟩) | (go_at_call 55; (with_reducible refine (H3.out _).mono ?_); rintro e w' ⟨rfl, rfl⟩) | (go_at_call 55; (with_reducible refine (H4.out _).mono ?_); rintro e w' ⟨rfl, rfl⟩) | (go_at_call 55; (with_reducible refine (H5.out _).mono ?_); rintro e w' ⟨rfl, rfl⟩))
    go_ret
    exact ⟨rfl, Below.junk bel⟩
  cases B5
  · go_enter Tryz.func21, Tryz.ntmps21
    go_wp2_with (first | (go_at_call 55; (with_reducible refine (H0.out _).mono ?_); rintro e w' ⟨rfl, rfl⟩) | (go_at_call 55; (with_reducible refine (H1.out _).mono ?_); rintro e w' ⟨rfl, rfl⟩) | (go_at_call 55; (with_reducible refine (H2.out _).mono ?_); rintro e w' ⟨rfl, rfl⟩) | (go_at_call 55; (with_reducible refine (H3.out _).mono ?_); rintro e w' ⟨rfl, rfl⟩) | (go_at_call 55; (with_reducible refine (H4.out _).mono ?_); rintro e w' ⟨rfl, rfl⟩) | (go_at_call 55; (with_reducible refine (H5.out _).mono ?_); rintro e w' ⟨rfl, rfl⟩))
    go_ret
    exact ⟨rfl, Below.junk bel⟩
  go_enter Tryz.func21, Tryz.ntmps21
  go_wp2_with (first | (go_at_call 55; (with_reducible refine (H0.out _).mono ?_); rintro e w' ⟨rfl, rfl⟩) | (go_at_call 55; (with_reducible refine (H1.out _).mono ?_); rintro e w' ⟨rfl, rfl⟩) | (go_at_call 55; (with_reducible refine (H2.out _).mono ?_); rintro e w' ⟨rfl, rfl⟩) | (go_at_call 55; (with_reducible refine (H3.out _).mono ?_); rintro e w' ⟨rfl, rfl⟩) | (go_at_call 55; (with_reducible refine (H4.out _).mono ?_); rintro e w' ⟨rfl, rfl⟩) | (go_at_call 55; (with_reducible refine (H5.out _).mono ?_); rintro e w' ⟨rfl, rfl⟩))
  go_ret
  exact ⟨rfl, Below.junk bel⟩
set_option maxRecDepth 100000 in
theorem core_sided (n : Int) (w : World) : Calls Tryz.prog 54 #[.int .i64 n] w fun e w' => e = .returned (.bool (decide (n = 0 ∨ n = 1))) ∧ w = w' := by
  by_cases h : n = 0
  · subst h
    go_enter Tryz.func54, Tryz.ntmps54
    go_wp2_with fail
    go_ret
    exact ⟨rfl, rfl⟩
  · have h2 : (n == 0) = false := by simpa using h
    have e : decide (n = 0 ∨ n = 1) = (n == 1) := by by_cases h1 : n = 1 <;> simp [h, h1]
    rw [e]
    clear e
    go_enter Tryz.func54, Tryz.ntmps54
    go_wp2_with fail
    go_ret
    exact ⟨rfl, rfl⟩
set_option maxRecDepth 100000 in
theorem core_looked_nil (w : World) : Calls Tryz.prog 41 #[.pointer none] w fun e w' => e = .returned (.pointer none) ∧ w = w' := by
  go_enter Tryz.func41, Tryz.ntmps41
  go_wp2_with fail
  go_ret
  exact ⟨rfl, rfl⟩
set_option maxRecDepth 100000 in
theorem core_looked (g : Nat) (v : Value) (w : World) (h : w.cell? ⟨g, 32, none⟩ = some v) : Calls Tryz.prog 41 #[.pointer (some ⟨g, 0, none⟩)] w fun e w' => e = .returned v ∧ w = w' := by
  go_enter Tryz.func41, Tryz.ntmps41
  go_wp2_with fail
  go_ret
  exact ⟨rfl, rfl⟩
abbrev vals0 : Value := .agg #[.int .i64 0, .int .i64 0, .int .i64 0, .int .i64 0, .int .i64 0, .int .i64 0]
set_option maxRecDepth 100000 in
theorem core_Ask_nil (p : Value) (v : Value) (k : Bool) (w : World) (hl : Calls Tryz.prog 41 #[p] (w.alloc (.cells #[.int .i64 0, .int .i64 0, .int .i64 0, .int .i64 0, .int .i64 0, .int .i64 0] 24)) fun e w' => e = .returned (.pointer none) ∧ (w.alloc (.cells #[.int .i64 0, .int .i64 0, .int .i64 0, .int .i64 0, .int .i64 0, .int .i64 0] 24)) = w') :
    Calls Tryz.prog 15 #[p, vals0, .bool k] w fun e w' => e = .returned (.tuple #[.int .i64 0, .int .i64 0]) ∧ ∃ j, w' = w.more j := by
  have HL := Lib.hid hl
  clear hl
  go_enter Tryz.func15, Tryz.ntmps15
  go_wp2_with (go_at_call 41; (with_reducible refine (HL.out).mono ?_); rintro e w' ⟨rfl, rfl⟩)
  go_ret2
  exact ⟨rfl, Below.junk bel⟩

end Go.Proofs.YtfloijkagfabpaaGreatDoor
/-
  A new connection.
-/
namespace Go.Proofs.YtfloijkagfabpaaGreatDoor
set_option linter.unusedSimpArgs false
set_option linter.unusedVariables false
set_option linter.unusedSectionVars false
open Go.ChangeShapes Go.WideShapes Go.ChangeAt Go.RowKit Go.Deep Go.Shelf

abbrev CoreT : TypeId := 87
abbrev AssT : TypeId := 166
abbrev ptr (g : Nat) : Value := .pointer (some ⟨g, 0, none⟩)
/-- A party's cells. -/
abbrev partyC (bg fr : Bool) (pa re : Value) (bd : Int) (bb : Bool) (se ta kn ca : Value) (to : Bool) (la : Int) : List Value := [.bool bg, .bool fr, pa, re, .int .i64 bd, .bool bb, se, ta, kn, ca, .bool to, .int .i64 la]
theorem later {A : World} {o o' : Obj} {j J : Junk} {x : Nat} (X : Array Obj) (hJ : J.heap = j.heap ++ X) (hx : A.heap.size < x) (h2 : x < ((A.alloc o).more j).heap.size) : ((A.alloc o').more J).heap[x]? = ((A.alloc o).more j).heap[x]? := by
  simp only [World.more, World.alloc, hJ, Array.size_append, Array.size_push] at h2 ⊢
  rw [← Array.append_assoc, Array.getElem?_append_left (by simp; omega)]
  rw [Array.getElem?_append, Array.getElem?_append]
  simp only [Array.size_push]
  rw [if_neg (by omega), if_neg (by omega)]
theorem Blk.later {A : World} {o o' : Obj} {j J : Junk} {x : Nat} {t : TypeId} {cs : Array Value} (h : Blk ((A.alloc o).more j) x t cs) (X : Array Obj) (hJ : J.heap = j.heap ++ X) (hx : A.heap.size < x) : Blk ((A.alloc o').more J) x t cs :=
  (Proofs.YtfloijkagfabpaaGreatDoor.later X hJ hx h.lt).trans h
abbrev assNew (b : Int) : Array Value := #[.int .i64 b, .bool false, .int .i64 0, .int .i64 0, .int .i64 0, .int .i64 0, .slice none 0 0, .slice none 0 0, .int .i64 0, .int .i64 0, .bool false, .int .i64 0, .int .i64 0, .int .i64 0, .int .i64 0, .slice none 0 0]
abbrev coreNew (g s b q p t : Int) (a0 d0 s0 k0 q0 a1 d1 s1 k1 q1 al : Nat) : Array Value :=
  #[.int .i64 g, .int .i64 s, .int .i64 b, .int .i64 q, .int .i64 p, .int .i64 t,
    .bool false, .bool false, ptr a0, ptr d0, .int .i64 0, .bool false, ptr s0, .slice none 0 0, ptr k0, ptr q0, .bool false, .int .i64 0,
    .bool false, .bool false, ptr a1, ptr d1, .int .i64 0, .bool false, ptr s1, .slice none 0 0, ptr k1, ptr q1, .bool false, .int .i64 0,
    .complex .f64 0 0, ptr al, .pointer none, .bool true, .bool false]
/-- A new connection: its block, and what lies behind its pointers. -/
def NewC (g s b q p t : Int) (w : World) (e : Ending) (w' : World) : Prop :=
  ∃ c a0 d0 s0 k0 q0 a1 d1 s1 k1 q1 al, e = .returned (.tuple #[ptr c, .int .i64 0]) ∧ w.heap.size < c ∧ Blk w' c CoreT (coreNew g s b q p t a0 d0 s0 k0 q0 a1 d1 s1 k1 q1 al) ∧
    Blk w' a0 AssT (assNew b) ∧ Blk w' a1 AssT (assNew b) ∧ c < a0 ∧ a0 < a1 ∧ ∃ j, w' = w.more j
set_option maxHeartbeats 4000000 in
set_option maxRecDepth 100000 in
theorem core_New (g s b q p t : Int) (hc : confR g s b q p t = true) (w : World) : Calls Tryz.prog 9 #[confV g s b q p t] w (NewC g s b q p t w) := by
  have hR : Hid (∀ W, Calls Tryz.prog 21 #[confV g s b q p t] W fun e w' => e = .returned (.bool true) ∧ ∃ j, w' = W.more j) := fun W => by have := core_Right g s b q p t W; rwa [hc] at this
  have hb : (0 ≤ g ∧ 0 ≤ s ∧ 0 ≤ b ∧ 0 ≤ p) := by
    unfold confR inR at hc
    simp only [Bool.and_eq_true, decide_eq_true_eq] at hc
    omega
  have HRo : Hid (∀ W, Calls Tryz.prog 28 #[.int .i64 s] W (NewP 164 #[.int .i64 s, .slice none 0 0, .map none, .int .i64 0, .int .i64 0] W)) := roster_New s hb.2.1
  have HA : Hid (∀ W, Calls Tryz.prog 29 #[.int .i64 b] W (NewP AssT (assNew b) W)) := block_New b hb.2.2.1
  have HD : Hid (∀ W, Calls Tryz.prog 30 #[.int .i64 4096] W (NewD 4096 W)) := decoder_New 4096 (by omega) (by omega)
  have HS : Hid (∀ W, Calls Tryz.prog 31 #[] W (NewP 173 #[.slice none 0 0, .int .i64 0, .int .i64 0] W)) := pending_New
  have HK : Hid (∀ W, Calls Tryz.prog 32 #[.int .i64 g] W (NewP 175 #[.int .i64 g, .map none, .map none, .slice none 0 0] W)) := grace_New g hb.1
  have HP : Hid (∀ W, Calls Tryz.prog 33 #[.int .i64 p] W (fun e w' => ∃ x, e = .returned (ptr x) ∧ ∃ j, w' = W.more j)) := fun W => by
    have := pings_New p W
    rw [if_neg (by omega)] at this
    exact this.mono fun e w' ⟨x, mb, he, _, _, _, hb⟩ => ⟨x, he, hb.junk⟩
  clear hc hb
  unfold NewC
  go_enter Tryz.func9, Tryz.ntmps9
  go_wp2_with (go_at_call 21; (with_reducible refine (hR.out _).mono ?_); rintro e w' ⟨rfl, j, rfl⟩)
  refine wnm fun w1 hw1 => ?_
  have HB1 : Hid (Below w.heap.size w w1) := by show Below _ _ _; rw [hw1]; exact bel
  have HX1 : Hid (Blk w1 w.heap.size 32 #[.int .i64 g, .int .i64 s, .int .i64 b, .int .i64 q, .int .i64 p, .int .i64 t]) := by show Blk _ _ _ _; rw [hw1]; exact blk
  have hsz : w.heap.size < w1.heap.size := HX1.out.lt
  clear hw1
  refine gb_start w1.heap.size (by kernel_rfl) ?_
  obtain ⟨w2, hw2⟩ : ∃ w2, w2 = w1.drew := ⟨_, rfl⟩
  rw [← hw2]
  have HX2 : Hid (Blk w2 w.heap.size 32 #[.int .i64 g, .int .i64 s, .int .i64 b, .int .i64 q, .int .i64 p, .int .i64 t]) := by show Blk _ _ _ _; rw [hw2]; exact HX1.out
  have HB2 : Hid (Below w.heap.size w w2) := by show Below _ _ _; rw [hw2]; exact Below.drew HB1.out
  have hs2 : w2.heap.size = w1.heap.size := by rw [hw2]; rfl
  have HS2 := Lib.hid hs2
  have x1 : w2.cell? ⟨w.heap.size, 1, none⟩ = some (.int .i64 s) := HX2.out.cell 1
  have x0 : w2.cell? ⟨w.heap.size, 0, none⟩ = some (.int .i64 g) := HX2.out.cell 0
  have x2 : w2.cell? ⟨w.heap.size, 2, none⟩ = some (.int .i64 b) := HX2.out.cell 2
  have x4 : w2.cell? ⟨w.heap.size, 4, none⟩ = some (.int .i64 p) := HX2.out.cell 4
  have hsz2 : w.heap.size < w2.heap.size := HX2.out.lt
  clear hw2 hs2
  refine gb_load 0 rfl (by kernel_rfl) (by kernel_rfl) (by kernel_rfl) 32 _ _ (fun _ _ _ h => h) (by first | kernel_rfl | rfl) rfl _ rfl HX2.out hsz _ Tryz.underlying32 rfl (by kernel_rfl) ?_
  try simp only [Act.put, nfa, nfb, nfc, nfd, List.set_cons_zero, List.set_cons_succ]
  refine tk 1 ?_
  refine tk 2 ?_
  refine gb_step 3 (by kernel_rfl) rfl (fun K hK => ?_)
  go_simp
  go_wp2_with fail
  refine (HRo.out _).mono ?_
  rintro e w' ⟨al, rfl, hal, hbal, j, rfl⟩
  go_wp2_with fail
  refine hK.out _ _ (show Below _ _ _ from Below.mono (B := w2.heap.size) bel (Nat.le_of_eq HS2.out.symm)) ?_
  clear hK K
  try simp only [Act.put, nfa, nfb, nfc, nfd, List.set_cons_zero, List.set_cons_succ]
  refine tk 4 ?_
  refine gb_step 5 (by kernel_rfl) rfl (fun K hK => ?_)
  go_simp
  go_wp2_with fail
  refine hK.out _ _ (show Below _ _ _ from Below.mono (B := (w2.more j).heap.size) bel (by have := HS2.out; simp; omega)) ?_
  clear hK K
  try simp only [Act.put, nfa, nfb, nfc, nfd, List.set_cons_zero, List.set_cons_succ]
  refine tk 6 ?_
  refine wpAnyH_done (by kernel_rfl) ?_ _
  go_wp2_with fail
  obtain ⟨A, hA⟩ : ∃ A, A = w2.more j := ⟨_, rfl⟩
  have hAs : w2.heap.size + j.heap.size = A.heap.size := by rw [hA]; simp
  rw [← hA, hAs]
  have hAw : w.heap.size < A.heap.size := by omega
  have HAW := Lib.hid hAw
  have HBA : Hid (Below w.heap.size w A) := by show Below _ _ _; rw [hA]; exact (HB2.out).ofMore (by omega) j
  have y0 : A.cell? ⟨w.heap.size, 0, none⟩ = some (.int .i64 g) := by rw [hA, World.cell?_more _ _ _ hsz2]; exact x0
  have y2 : A.cell? ⟨w.heap.size, 2, none⟩ = some (.int .i64 b) := by rw [hA, World.cell?_more _ _ _ hsz2]; exact x2
  have y4 : A.cell? ⟨w.heap.size, 4, none⟩ = some (.int .i64 p) := by rw [hA, World.cell?_more _ _ _ hsz2]; exact x4
  clear hA hAs x0 x1 x2 x4 hsz hsz2 hal hbal
  refine wp_loop_rounds 3 ?_
  rw [rounds_succ]
  go_wp2_with fail
  refine (HA.out _).mono ?_
  rintro e w' ⟨a0, rfl, ha0, hba0, ja0, rfl⟩
  have HBa0 := Lib.hid hba0
  have HLa0 := Lib.hid ha0
  have HZa0 := Lib.hid hba0.lt
  clear hba0 ha0
  go_wp2_with fail
  refine (HD.out _).mono ?_
  rintro e w' ⟨d0, td0, rfl, htd0, hd0, hbd0, hbtd0, jd0, rfl⟩
  clear hbd0 hbtd0 htd0 hd0
  go_wp2_with fail
  refine (HS.out _).mono ?_
  rintro e w' ⟨s0, rfl, hs0, hbs0, js0, rfl⟩
  clear hbs0 hs0
  go_wp2_with fail
  refine (HK.out _).mono ?_
  rintro e w' ⟨k0, rfl, hk0, hbk0, jk0, rfl⟩
  clear hbk0 hk0
  go_wp2_with fail
  refine (HP.out _).mono ?_
  rintro e w' ⟨q0, rfl, jq0, rfl⟩
  go_wp2_with fail
  rw [rounds_succ]
  go_wp2_with fail
  refine (HA.out _).mono ?_
  rintro e w' ⟨a1, rfl, ha1, hba1, ja1, rfl⟩
  simp only [World.more_more, Array.append_assoc] at hba1 ha1
  have HBa1 := Lib.hid hba1
  have HLa1 := Lib.hid ha1
  have HZa1 := Lib.hid hba1.lt
  clear hba1 ha1
  go_wp2_with fail
  refine (HD.out _).mono ?_
  rintro e w' ⟨d1, td1, rfl, htd1, hd1, hbd1, hbtd1, jd1, rfl⟩
  clear hbd1 hbtd1 htd1 hd1
  go_wp2_with fail
  refine (HS.out _).mono ?_
  rintro e w' ⟨s1, rfl, hs1, hbs1, js1, rfl⟩
  clear hbs1 hs1
  go_wp2_with fail
  refine (HK.out _).mono ?_
  rintro e w' ⟨k1, rfl, hk1, hbk1, jk1, rfl⟩
  clear hbk1 hk1
  go_wp2_with fail
  refine (HP.out _).mono ?_
  rintro e w' ⟨q1, rfl, jq1, rfl⟩
  go_wp2_with fail
  rw [rounds_succ]
  go_wp2_with fail
  go_ret2
  refine ⟨_, a0, d0, s0, k0, q0, a1, d1, s1, k1, q1, al, rfl, HAW.out, blk, Blk.later HBa0.out _ (by simp only [Array.append_assoc]; rfl) (by have := HLa0.out; simp at this; omega), Blk.later HBa1.out _ (by simp only [Array.append_assoc]; rfl) (by have := HLa1.out; simp at this; omega), by have := HLa0.out; simp at this; omega, ?_, ?_⟩
  · have h1 := HZa0.out
    have h2 := HLa1.out
    simp at h1 h2
    omega
  · exact Below.junk (Below.moreS (Below.allocS HBA.out _) _)
end Go.Proofs.YtfloijkagfabpaaGreatDoor
