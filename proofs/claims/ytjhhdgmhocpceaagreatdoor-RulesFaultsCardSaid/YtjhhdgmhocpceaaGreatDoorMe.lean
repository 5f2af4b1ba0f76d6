/-
  Parts of the proof, one behind the other: contracts of the program and plain laws; no condition of their own.
-/
import Derived.Test.YtjhhdgmhocpceaaGreatDoorMd
import Derived.Deep.RegionHeld3
import Derived.Maps.AppendAt
/-
  A region that draws its order, in which one block is written and all else only grows.
-/
namespace Go.Proofs.YtjhhdgmhocpceaaGreatDoor
set_option linter.unusedSimpArgs false
set_option linter.unusedVariables false
set_option linter.unusedSectionVars false
open Go.ChangeShapes Go.WideShapes Go.ChangeAt Go.RowKit Go.Deep

section
variable {P : Program} {ops : Array Oper} {Q : Exit → Act → World → Prop} {md : Region.Mode} {mb : Nat}
def Gm (mb : Nat) (w w' : World) : Prop := w.grownBy w' (some mb)
theorem Gm.refl (w : World) : Gm mb w w := World.grownBy.refl w _
theorem Gm.cell {w w' : World} (h : Gm mb w w') (b o : Nat) (hb : b < w.heap.size) (hne : b ≠ mb) : w'.cell? ⟨b, o, none⟩ = w.cell? ⟨b, o, none⟩ :=
  World.cell?_of_block (h.block b hb (by simpa using hne))
theorem gm_mono {S S' : World → Prop} (hS : ∀ w, S' w → S w) : ∀ (fuel : Nat) (listed : Array Bool) (a : Act) (w : World), wpAnyH P md ops Q S' fuel listed a w → wpAnyH P md ops Q S fuel listed a w
  | 0, _, _, _, h => h
  | fuel + 1, listed, a, w, h => ⟨h.1, fun i hi => wpOp_mono (fun a' w' h' => ⟨hS _ h'.1, gm_mono hS fuel _ a' w' h'.2⟩) (h.2 i hi)⟩
theorem gm_start {id : Nat} {a : Act} {w : World} (mb : Nat) (hm : P.follows .mixedOrders = true)
    (h : wpAnyH P .any ops Q (Gm mb w.drew) ops.size (Array.replicate ops.size false) a w.drew) : (Code.region id ops true).wp P Q a w :=
  wp_region_held_drew hm (Gm.refl _) (fun _ => h)
theorem gm_take (i : Nat) {oi : Oper} {v : Value} {fuel : Nat} {listed : Array Bool} {a : Act} {w : World} (hi : ops[i]? = some oi)
    (hs : Region.noSelect ops = true) (hf : Region.free md ops listed i = true) (hr : (Region.ready md ops listed).contains i = true)
    (hQ : ∀ c a w, Q (.panic c) (a.put oi.dst v) w → Q (.panic c) a w) (hy : YieldsIf P ops (Gm mb w) oi v a)
    (h : wpAnyH P md ops Q (Gm mb w) fuel (listed.setIfInBounds i true) (a.put oi.dst v) w) : wpAnyH P md ops Q (Gm mb w) (fuel + 1) listed a w :=
  wpAnyH_take hi hs hf hr hQ hy (Gm.refl _) h
theorem gm_one {i : Nat} {o : Oper} {fuel : Nat} {listed : Array Bool} {a : Act} {w : World} (ho : ops[i]? = some o)
    (h : ∀ K' : Act → World → Prop, Shut (∀ a' w', Gm mb w w' → wpAnyH P md ops Q (Gm mb w') fuel (listed.setIfInBounds i true) a' w' → K' a' w') → if Region.wanted o (yielded ops a.tmps) = true then Oper.wp P o a w K' Q else K' (a.put o.dst undef) w)
    {rs : List Nat} (hrs : AllReadyH P md ops Q (Gm mb w) fuel listed a w rs) : AllReadyH P md ops Q (Gm mb w) fuel listed a w (i :: rs) :=
  AllReadyH.cons ho (fun K' hK => h K' (fun a' w' hg hw => hK.out a' w' hg (fun _ => gm_mono (fun w2 h2 => hg.trans h2) _ _ _ _ hw))) hrs
theorem gm_step (i : Nat) {o : Oper} {fuel : Nat} {listed : Array Bool} {a : Act} {w : World} (hr : Region.ready md ops listed = [i]) (ho : ops[i]? = some o)
    (h : ∀ K' : Act → World → Prop, Shut (∀ a' w', Gm mb w w' → wpAnyH P md ops Q (Gm mb w') fuel (listed.setIfInBounds i true) a' w' → K' a' w') → if Region.wanted o (yielded ops a.tmps) = true then Oper.wp P o a w K' Q else K' (a.put o.dst undef) w) :
    wpAnyH P md ops Q (Gm mb w) (fuel + 1) listed a w :=
  wpAnyH_ready hr (by simp) (gm_one ho h AllReadyH.nil)
theorem gm_two (i j : Nat) {o p : Oper} {fuel : Nat} {listed : Array Bool} {a : Act} {w : World} (hr : Region.ready md ops listed = [i, j]) (ho : ops[i]? = some o) (hp : ops[j]? = some p)
    (h : ∀ K' : Act → World → Prop, Shut (∀ a' w', Gm mb w w' → wpAnyH P md ops Q (Gm mb w') fuel (listed.setIfInBounds i true) a' w' → K' a' w') → if Region.wanted o (yielded ops a.tmps) = true then Oper.wp P o a w K' Q else K' (a.put o.dst undef) w)
    (h2 : ∀ K' : Act → World → Prop, Shut (∀ a' w', Gm mb w w' → wpAnyH P md ops Q (Gm mb w') fuel (listed.setIfInBounds j true) a' w' → K' a' w') → if Region.wanted p (yielded ops a.tmps) = true then Oper.wp P p a w K' Q else K' (a.put p.dst undef) w) :
    wpAnyH P md ops Q (Gm mb w) (fuel + 1) listed a w :=
  wpAnyH_ready hr (by simp) (gm_one ho h (gm_one hp h2 AllReadyH.nil))
end
/-! A region in which nothing floats but what asks no world. -/
section
variable {P : Program} {ops : Array Oper} {Q : Exit → Act → World → Prop} {md : Region.Mode}
theorem gt_start {id : Nat} {a : Act} {w : World} (hm : P.follows .mixedOrders = true)
    (h : wpAnyH P .any ops Q (fun _ => True) ops.size (Array.replicate ops.size false) a w.drew) : (Code.region id ops true).wp P Q a w :=
  wp_region_held_drew hm trivial (fun _ => h)
theorem gt_take (i : Nat) {oi : Oper} {v : Value} {fuel : Nat} {listed : Array Bool} {a : Act} {w : World} (hi : ops[i]? = some oi)
    (hs : Region.noSelect ops = true) (hf : Region.free md ops listed i = true) (hr : (Region.ready md ops listed).contains i = true)
    (hQ : ∀ c a w, Q (.panic c) (a.put oi.dst v) w → Q (.panic c) a w) (hy : YieldsIf P ops (fun _ => True) oi v a)
    (h : wpAnyH P md ops Q (fun _ => True) fuel (listed.setIfInBounds i true) (a.put oi.dst v) w) : wpAnyH P md ops Q (fun _ => True) (fuel + 1) listed a w :=
  wpAnyH_take hi hs hf hr hQ hy trivial h
theorem gt_step (i : Nat) {o : Oper} {fuel : Nat} {listed : Array Bool} {a : Act} {w : World} (hr : Region.ready md ops listed = [i]) (ho : ops[i]? = some o)
    (h : ∀ K' : Act → World → Prop, Shut (∀ a' w', wpAnyH P md ops Q (fun _ => True) fuel (listed.setIfInBounds i true) a' w' → K' a' w') → if Region.wanted o (yielded ops a.tmps) = true then Oper.wp P o a w K' Q else K' (a.put o.dst undef) w) :
    wpAnyH P md ops Q (fun _ => True) (fuel + 1) listed a w :=
  wpAnyH_ready hr (by simp) (AllReadyH.cons ho (fun K' hK => h K' (fun a' w' hw => hK.out a' w' trivial (fun _ => hw))) AllReadyH.nil)
end
/-! Steps whose run is known. -/
section
variable {P : Program} {ops : Array Oper} {o : Oper} {a : Act} {K : Act → World → Prop} {Q : Exit → Act → World → Prop} {E : Prop} {w w' : World}
theorem step_look {t : TypeId} {m x : Operand} {vm vx v : Value} (hw : Region.wanted o (yielded ops a.tmps) = true) (ho : o.op = .lookup t m x false) (hm : a.eval m = vm) (hx : a.eval x = vx)
    (hrun : (Instr.lookup t vm vx false).run P w = .ok v w') (h : K (a.put o.dst v) w') : if Region.wanted o (yielded ops a.tmps) = true then Oper.wp P o a w K Q else E := by
  rw [if_pos hw]
  unfold Oper.wp
  simp [execOp, ho, hm, hx, hrun, Result.andThen]
  exact h
theorem step_entry {t : TypeId} {m x : Operand} {vm vx v : Value} (hw : Region.wanted o (yielded ops a.tmps) = true) (ho : o.op = .mapEntry t m x) (hm : a.eval m = vm) (hx : a.eval x = vx)
    (hrun : (Instr.mapEntry t vm vx).run P w = .ok v w') (h : K (a.put o.dst v) w') : if Region.wanted o (yielded ops a.tmps) = true then Oper.wp P o a w K Q else E := by
  rw [if_pos hw]
  unfold Oper.wp
  simp [execOp, ho, hm, hx, hrun, Result.andThen]
  exact h
theorem step_estore {t : TypeId} {m s x : Operand} {vm vs vx : Value} (hw : Region.wanted o (yielded ops a.tmps) = true) (ho : o.op = .entryStore t m s x) (hm : a.eval m = vm) (hs : a.eval s = vs) (hx : a.eval x = vx)
    (hrun : (Instr.entryStore t vm vs vx).run P w = .ok () w') (h : K (a.put o.dst undef) w') : if Region.wanted o (yielded ops a.tmps) = true then Oper.wp P o a w K Q else E := by
  rw [if_pos hw]
  unfold Oper.wp
  simp [execOp, ho, hm, hs, hx, hrun, Result.andThen]
  exact h
theorem step_delete {t k : TypeId} {m x : Operand} {vm vx : Value} (hw : Region.wanted o (yielded ops a.tmps) = true) (ho : o.op = .call { callee := .builtin .delete, args := #[m, x], argTypes := #[t, k] }) (hm : a.eval m = vm) (hx : a.eval x = vx)
    (hrun : (Builtin.delete_ #[t, k] o.type #[vm, vx]).run P w = .ok (.tuple #[]) w') (h : K (a.put o.dst (.tuple #[])) w') : if Region.wanted o (yielded ops a.tmps) = true then Oper.wp P o a w K Q else E := by
  rw [if_pos hw]
  unfold Oper.wp
  simp [execOp, ho, resolve, invoke, builtin, hm, hx, hrun, Result.andThen]
  exact h
end
end Go.Proofs.YtjhhdgmhocpceaaGreatDoor
/-
  A region that draws its order, in which some blocks are written and all else only grows.
-/
namespace Go.Proofs.YtjhhdgmhocpceaaGreatDoor
set_option linter.unusedSimpArgs false
set_option linter.unusedVariables false
set_option linter.unusedSectionVars false
open Go.ChangeShapes Go.WideShapes Go.ChangeAt Go.RowKit Go.Deep

/-- All blocks but those of p stay as they were. -/
structure Gp (p : Nat → Prop) (w w' : World) : Prop where
  os : w'.os = w.os
  tape : w'.tape = w.tape
  output : w'.output = w.output
  size : w.heap.size ≤ w'.heap.size
  block : ∀ k, k < w.heap.size → ¬ p k → w'.heap[k]? = w.heap[k]?
theorem Gp.refl {p : Nat → Prop} (w : World) : Gp p w w := ⟨rfl, rfl, rfl, Nat.le_refl _, fun _ _ _ => rfl⟩
theorem Gp.trans {p : Nat → Prop} {a b c : World} (h : Gp p a b) (h2 : Gp p b c) : Gp p a c :=
  ⟨h2.os.trans h.os, h2.tape.trans h.tape, h2.output.trans h.output, Nat.le_trans h.size h2.size, fun k hk hp => (h2.block k (Nat.lt_of_lt_of_le hk h.size) hp).trans (h.block k hk hp)⟩
theorem Gp.cell {p : Nat → Prop} {w w' : World} (h : Gp p w w') (b o : Nat) (hb : b < w.heap.size) (hne : ¬ p b) : w'.cell? ⟨b, o, none⟩ = w.cell? ⟨b, o, none⟩ :=
  World.cell?_of_block (h.block b hb hne)
theorem Gp.of_gm {p : Nat → Prop} {w w' : World} {g : Nat} (h : Gm g w w') (hp : p g) : Gp p w w' :=
  ⟨h.os, h.tape, h.output, h.size, fun k hk hn => h.block k hk (fun e => hn (by injection e with e; rw [e]; exact hp))⟩
theorem Gp.of_below {p : Nat → Prop} {w w' : World} (h : Below w.heap.size w w') : Gp p w w' := ⟨h.os, h.tape, h.output, h.size, fun k hk _ => h.block k hk⟩
theorem Gp.below {p : Nat → Prop} {w w' : World} {B : Nat} (h : Gp p w w') (hB : ∀ k, p k → B ≤ k) (hz : B ≤ w.heap.size) : Below B w w' := ⟨h.os, h.tape, h.output, h.size, fun k hk => h.block k (by omega) (fun hp => by have := hB k hp; omega)⟩
theorem Gp.blk {p : Nat → Prop} {w w' : World} {g : Nat} {t : TypeId} {cs : Array Value} (h : Gp p w w') (hb : Blk w g t cs) (hn : ¬ p g) : Blk w' g t cs := (h.block g hb.lt hn).trans hb
theorem Gp.set {p : Nat → Prop} {w : World} {g o : Nat} (v : Value) (hp : p g) : Gp p w (w.setCell ⟨g, o, none⟩ v) :=
  have hb := (Below.refl 0 w).setCell (p := ⟨g, o, none⟩) (Nat.zero_le _) v
  ⟨hb.os, hb.tape, hb.output, hb.size, fun k _ hne => Below.heap_setCell w ⟨g, o, none⟩ v k (fun e => hne (by rw [show k = g from e]; exact hp))⟩

/-- One of two blocks. -/
def P2 (g h : Nat) (k : Nat) : Prop := k = g ∨ k = h
theorem Gp.cell2 {g h : Nat} {w w' : World} (hp : Gp (P2 g h) w w') (b o : Nat) (hb : b < w.heap.size) (h1 : b ≠ g) (h2 : b ≠ h) : w'.cell? ⟨b, o, none⟩ = w.cell? ⟨b, o, none⟩ :=
  hp.cell b o hb (fun e => e.elim h1 h2)

section
variable {P : Program} {ops : Array Oper} {Q : Exit → Act → World → Prop} {md : Region.Mode} {p : Nat → Prop}
theorem gp_mono {S S' : World → Prop} (hS : ∀ w, S' w → S w) : ∀ (fuel : Nat) (listed : Array Bool) (a : Act) (w : World), wpAnyH P md ops Q S' fuel listed a w → wpAnyH P md ops Q S fuel listed a w
  | 0, _, _, _, h => h
  | fuel + 1, listed, a, w, h => ⟨h.1, fun i hi => wpOp_mono (fun a' w' h' => ⟨hS _ h'.1, gp_mono hS fuel _ a' w' h'.2⟩) (h.2 i hi)⟩
theorem gp_start {id : Nat} {a : Act} {w : World} (p : Nat → Prop) (hm : P.follows .mixedOrders = true)
    (h : wpAnyH P .any ops Q (Gp p w.drew) ops.size (Array.replicate ops.size false) a w.drew) : (Code.region id ops true).wp P Q a w :=
  wp_region_held_drew hm (Gp.refl _) (fun _ => h)
theorem gp_take (i : Nat) {oi : Oper} {v : Value} {fuel : Nat} {listed : Array Bool} {a : Act} {w : World} (hi : ops[i]? = some oi)
    (hs : Region.noSelect ops = true) (hf : Region.free md ops listed i = true) (hr : (Region.ready md ops listed).contains i = true)
    (hQ : ∀ c a w, Q (.panic c) (a.put oi.dst v) w → Q (.panic c) a w) (hy : YieldsIf P ops (Gp p w) oi v a)
    (h : wpAnyH P md ops Q (Gp p w) fuel (listed.setIfInBounds i true) (a.put oi.dst v) w) : wpAnyH P md ops Q (Gp p w) (fuel + 1) listed a w :=
  wpAnyH_take hi hs hf hr hQ hy (Gp.refl _) h
theorem gp_one {i : Nat} {o : Oper} {fuel : Nat} {listed : Array Bool} {a : Act} {w : World} (ho : ops[i]? = some o)
    (h : ∀ K' : Act → World → Prop, Shut (∀ a' w', Gp p w w' → wpAnyH P md ops Q (Gp p w') fuel (listed.setIfInBounds i true) a' w' → K' a' w') → if Region.wanted o (yielded ops a.tmps) = true then Oper.wp P o a w K' Q else K' (a.put o.dst undef) w)
    {rs : List Nat} (hrs : AllReadyH P md ops Q (Gp p w) fuel listed a w rs) : AllReadyH P md ops Q (Gp p w) fuel listed a w (i :: rs) :=
  AllReadyH.cons ho (fun K' hK => h K' (fun a' w' hg hw => hK.out a' w' hg (fun _ => gp_mono (fun w2 h2 => hg.trans h2) _ _ _ _ hw))) hrs
theorem gp_step (i : Nat) {o : Oper} {fuel : Nat} {listed : Array Bool} {a : Act} {w : World} (hr : Region.ready md ops listed = [i]) (ho : ops[i]? = some o)
    (h : ∀ K' : Act → World → Prop, Shut (∀ a' w', Gp p w w' → wpAnyH P md ops Q (Gp p w') fuel (listed.setIfInBounds i true) a' w' → K' a' w') → if Region.wanted o (yielded ops a.tmps) = true then Oper.wp P o a w K' Q else K' (a.put o.dst undef) w) :
    wpAnyH P md ops Q (Gp p w) (fuel + 1) listed a w :=
  wpAnyH_ready hr (by simp) (gp_one ho h AllReadyH.nil)
theorem gp_undrew {w w' : World} (h : Gp p w w') : Gp p w.drew w' := ⟨h.os, h.tape, h.output, h.size, h.block⟩
end
end Go.Proofs.YtjhhdgmhocpceaaGreatDoor
/-
  The cursor: what it has left, a number, bytes. Its block is written in place; all other blocks stay.
-/
namespace Go.Proofs.YtjhhdgmhocpceaaGreatDoor
set_option linter.unusedSimpArgs false
set_option linter.unusedVariables false
set_option linter.unusedSectionVars false
open Go.ChangeShapes Go.WideShapes Go.ChangeAt Go.RowKit Go.Deep Go.Shelf

abbrev CurT : TypeId := 145
theorem Gp.imp {p q : Nat → Prop} {w w' : World} (h : Gp p w w') (hpq : ∀ k, p k → q k) : Gp q w w' := ⟨h.os, h.tape, h.output, h.size, fun k hk hn => h.block k hk (fun hp => hn (hpq k hp))⟩
theorem Gp.then {p : Nat → Prop} {w1 w3 w5 : World} (h : Gp p w1 w3) (hb : Below w1.heap.size w3 w5) : Gp p w1 w5 := ⟨hb.os.trans h.os, hb.tape.trans h.tape, hb.output.trans h.output, Nat.le_trans h.size hb.size, fun k hk hn => (hb.block k hk).trans (h.block k hk hn)⟩
/-- A cursor: where its bytes lie, its bytes, and how many it has passed. -/
def Cur (w : World) (C : Nat) (A : Option Addr × Nat) (l : List UInt8) (n : Nat) : Prop := n ≤ l.length ∧ Blk w C CurT #[.slice A.1 l.length A.2, .int .i64 (n : Int)] ∧ SlB w w.heap.size A.1 l ∧ l.length ≤ A.2
theorem SlB.off {w : World} {B : Nat} {a : Option Addr} {l : List UInt8} (h : SlB w B a l) {g : Nat} {t : TypeId} {cs : Array Value} (hg : Blk w g t cs) (hcs : ∀ (i : Nat) (x : UInt8), cs[i]? ≠ some (.int .u8 (x.toNat : Int))) : ∀ k, k < l.length → ∃ b o, a = some ⟨b, o, none⟩ ∧ b ≠ g := by
  intro k hk
  obtain ⟨b, o, ha, hb, hc⟩ := SlR.atB h hk
  refine ⟨b, o, ha, fun e => ?_⟩
  subst e
  rw [hg.cell] at hc
  exact hcs _ _ hc
theorem SlB.gp {p : Nat → Prop} {w w' : World} {a : Option Addr} {l : List UInt8} (h : SlB w w.heap.size a l) (hg : Gp p w w') (hp : ∀ k, p k → ∃ t cs, Blk w k t cs ∧ ∀ (i : Nat) (x : UInt8), cs[i]? ≠ some (.int .u8 (x.toNat : Int))) : SlB w' w'.heap.size a l := by
  intro k hk
  obtain ⟨b, o, cs, ha, hb, hR, hc⟩ := h k hk
  have hne : ¬ p b := fun hpb => by
    obtain ⟨t, cs2, hb2, hx⟩ := hp b hpb
    obtain ⟨b3, o3, ha3, hn⟩ := SlB.off h hb2 hx k hk
    rw [ha] at ha3
    injection ha3 with ha3
    injection ha3 with ha3
    exact hn ha3.symm
  exact ⟨b, o, cs, ha, Nat.lt_of_lt_of_le hb hg.size, hR, fun j v hj => (hg.cell b _ hb hne).trans (hc j v hj)⟩
theorem SlB.grow {w w' : World} {a : Option Addr} {l : List UInt8} (h : SlB w w.heap.size a l) (hb : Below w.heap.size w w') : SlB w' w'.heap.size a l := (h.below hb (Nat.le_refl _)).mono hb.size (fun _ _ _ h => h)
theorem cur_cells {a : Option Addr} {n c : Nat} {x : Int} : ∀ (i : Nat) (y : UInt8), (#[.slice a n c, .int .i64 x] : Array Value)[i]? ≠ some (.int .u8 (y.toNat : Int))
  | 0, y => by simp
  | 1, y => by simp
  | i + 2, y => by simp
theorem Cur.gp {p : Nat → Prop} {w w' : World} {C : Nat} {A : Option Addr × Nat} {l : List UInt8} {n : Nat} (h : Cur w C A l n) (hg : Gp p w w') (hC : ¬ p C) (hp : ∀ k, p k → ∃ t cs, Blk w k t cs ∧ ∀ (i : Nat) (x : UInt8), cs[i]? ≠ some (.int .u8 (x.toNat : Int))) : Cur w' C A l n := by
  obtain ⟨hn, hb, hs, hc⟩ := h
  exact ⟨hn, hg.blk hb hC, SlB.gp hs hg hp, hc⟩
theorem Cur.below {w w' : World} {C : Nat} {A : Option Addr × Nat} {l : List UInt8} {n : Nat} (h : Cur w C A l n) (hb : Below w.heap.size w w') : Cur w' C A l n := by
  obtain ⟨hn, hk, hs, hc⟩ := h
  exact ⟨hn, hk.below hb hk.lt, (hs.below hb (Nat.le_refl _)).mono hb.size (fun _ _ _ h => h), hc⟩
theorem OwnB.full {B : Nat} {w : World} {v : Value} {l : List UInt8} (h : OwnB B w v l) : ∃ a cap, v = .slice a l.length cap ∧ l.length ≤ cap ∧ SlB w w.heap.size a l ∧ ∀ p, a = some p → B ≤ p.block := by
  obtain ⟨a, cap, rfl, hs⟩ := h.read
  refine ⟨a, cap, rfl, ?_, hs, ?_⟩
  all_goals rcases (show w.ownsRow B 5 1 _ l.length (Lib.byteCells l) from h).2 with ⟨he, hn⟩ | ⟨g, cap', cur, he, hg, hh, h3, h4, h5, h6⟩
  · have : l = [] := List.eq_nil_of_length_eq_zero hn
    subst this
    exact Nat.zero_le _
  · injection he with _ _ e3
    rw [e3]
    exact h3
  · injection he with e1 _ _
    intro p hp
    rw [e1] at hp
    cases hp
  · injection he with e1 _ _
    intro p hp
    rw [e1] at hp
    cases hp
    exact hg
set_option maxRecDepth 100000 in
theorem cursor_New (a : Option Addr) (c : Nat) (l : List UInt8) (w : World) (h : SlB w w.heap.size a l) (hl : l.length ≤ 1099511627776) :
    Calls Tryz.prog 80 #[.slice a l.length c] w fun e w' => ∃ C A, e = .returned (.pointer (some ⟨C, 0, none⟩)) ∧ Cur w' C A l 0 ∧ w.heap.size ≤ C ∧ Below w.heap.size w w' := by
  have HC := Lib.hid (slices_CloneB a c l w h hl)
  clear h
  go_enter Tryz.func80, Tryz.ntmps80
  go_wp2_with (go_at_call 112; refine HC.out.mono ?_; rintro e w1 ⟨v', rfl, ho, hb⟩; obtain ⟨a1, c1, rfl, hc1, hs1, -⟩ := OwnB.full ho; have HB := Lib.hid hb; have HS := Lib.hid hs1; clear ho hb hs1)
  go_ret
  refine ⟨_, (a1, c1), rfl, ⟨Nat.zero_le _, show Blk _ _ CurT #[.slice a1 l.length c1, .int .i64 0] from blk, (HS.out.below bel (Nat.le_refl _)).mono (by simp) (fun _ _ _ h => h), hc1⟩, HB.out.size, HB.out.alloc HB.out.size _⟩
set_option maxRecDepth 100000 in
theorem cursor_rest (C : Nat) (A : Option Addr × Nat) (l : List UInt8) (n : Nat) (w : World) (h : Cur w C A l n) :
    Calls Tryz.prog 116 #[.pointer (some ⟨C, 0, none⟩)] w fun e w' => (∃ a c, e = .returned (.slice a (l.length - n) c) ∧ SlB w w.heap.size a (l.drop n) ∧ l.length - n ≤ c) ∧ ∃ j, w' = w.more j := by
  obtain ⟨hn, hk, hs, hc⟩ := h
  obtain ⟨a, c⟩ := A
  simp only at hk hs hc
  have h0 : w.cell? ⟨C, 0, none⟩ = some (.slice a l.length c) := hk.cell 0
  have h1 : w.cell? ⟨C, 1, none⟩ = some (.int .i64 (n : Int)) := hk.cell 1
  have hlt := hk.lt
  have HS := Lib.hid hs
  clear hk hs
  go_enter Tryz.func116, Tryz.ntmps116
  go_wp2_with fail
  refine wp_region_more (by kernel_rfl) (by kernel_rfl) ?_
  repeat (quiet_step (first | fail))
  refine wpQuiet_nil ?_
  intro w' hw'
  obtain ⟨j, rfl⟩ := hw'
  go_wp2_with fail
  · go_ret
    obtain rfl : l.length = n := by omega
    exact ⟨⟨_, _, rfl, by rw [List.drop_length]; exact .nil, by omega⟩, _, rfl⟩
  · go_ret
    exact ⟨⟨_, _, rfl, by have := SlR.drop HS.out n; rwa [Nat.mul_one] at this, by omega⟩, _, rfl⟩
set_option maxRecDepth 100000 in
theorem cursor_Left (C : Nat) (A : Option Addr × Nat) (l : List UInt8) (n : Nat) (w : World) (h : Cur w C A l n) :
    Calls Tryz.prog 83 #[.pointer (some ⟨C, 0, none⟩)] w fun e w' => e = .returned (.int .i64 ((l.length - n : Nat) : Int)) ∧ ∃ j, w' = w.more j := by
  have HR := Lib.hid (cursor_rest C A l n w h)
  clear h
  go_enter Tryz.func83, Tryz.ntmps83
  go_wp2_with (go_at_call 116; refine HR.out.mono ?_; rintro e w1 ⟨⟨a1, c1, rfl, hs1, hc1⟩, j, rfl⟩)
  go_ret
  exact ⟨rfl, _, rfl⟩
set_option maxRecDepth 100000 in
theorem cursor_pass (C : Nat) (A : Option Addr × Nat) (l : List UInt8) (n k : Nat) (w : World) (h : Cur w C A l n) (hk : n + k ≤ l.length) (hl : l.length ≤ 1099511627776) :
    Calls Tryz.prog 117 #[.pointer (some ⟨C, 0, none⟩), .int .i64 (k : Int)] w fun e w' => e = .returned (.tuple #[]) ∧ Cur w' C A l (n + k) ∧ Gp (fun q => q = C) w w' := by
  obtain ⟨hn, hb, hs, hc⟩ := h
  obtain ⟨a, c⟩ := A
  simp only at hb hs hc
  have h1 : w.cell? ⟨C, 1, none⟩ = some (.int .i64 (n : Int)) := hb.cell 1
  have h2 := hb.frozen 1
  have hlt := hb.lt
  have hw : IntKind.i64.wrap ((n : Int) + k) = ((n + k : Nat) : Int) := by rw [IntWalk.i64_in _ (by omega)]; omega
  have HS := Lib.hid hs
  have HB := Lib.hid hb
  clear hb hs
  go_enter Tryz.func117, Tryz.ntmps117
  go_wp2_with fail
  refine bodyPost_end (results_none rfl _ _ _) rfl ?_
  have hg : Gp (fun q => q = C) w (w.setCell ⟨C, 1, none⟩ (.int .i64 ((n + k : Nat) : Int))) := Gp.set _ rfl
  exact ⟨rfl, ⟨hk, HB.out.set_ 1 _, SlB.gp HS.out hg (fun q hq => ⟨_, _, hq ▸ HB.out, cur_cells⟩), hc⟩, hg⟩
/-- A number read: what it is, and whether it was there. -/
def numF (k : Nat) (l : List UInt8) (n : Nat) : Int × Int := getF k (l.drop n)
set_option maxRecDepth 100000 in
theorem cursor_Number (C : Nat) (A : Option Addr × Nat) (l : List UInt8) (n k : Nat) (h1 : 1 ≤ k) (h2 : k ≤ 4) (w : World) (h : Cur w C A l n) (hl : l.length ≤ 1099511627776) :
    Calls Tryz.prog 113 #[.pointer (some ⟨C, 0, none⟩), .int .i64 (k : Int)] w fun e w' => e = .returned (.tuple #[.int .i64 (numF k l n).1, .int .i64 (numF k l n).2]) ∧ Cur w' C A l (if n + k ≤ l.length then n + k else n) ∧ Gp (fun q => q = C) w w' := by
  have HR := Lib.hid (cursor_rest C A l n w h)
  have HG : Hid (∀ a c W, SlB w w.heap.size a (l.drop n) → Below w.heap.size w W → l.length - n ≤ c → Calls Tryz.prog 127 #[.slice a ((l.length - n : Nat) : Nat) c, .int .i64 k] W fun e w' => e = .returned (.tuple #[.int .i64 (numF k l n).1, .int .i64 (numF k l n).2]) ∧ W = w') := fun a c W hs hb hc => by
    have := octet_Get k h1 h2 a c (l.drop n) W ((hs.below hb (Nat.le_refl _)).mono hb.size (fun _ _ _ h => h)) (by simpa using hc)
    rwa [List.length_drop] at this
  have HP : Hid (n + k ≤ l.length → ∀ W, Below w.heap.size w W → Calls Tryz.prog 117 #[.pointer (some ⟨C, 0, none⟩), .int .i64 (k : Int)] W fun e w' => e = .returned (.tuple #[]) ∧ Cur w' C A l (n + k) ∧ Gp (fun q => q = C) W w') := fun hk W hb => cursor_pass C A l n k W (h.below hb) hk hl
  have HC := Lib.hid h
  have hn : (numF k l n).2 = if n + k ≤ l.length then 0 else 3 := by
    have := h.1
    unfold numF getF
    rw [List.length_drop]
    by_cases hk : n + k ≤ l.length
    · rw [if_pos (by omega), if_pos hk]
    · rw [if_neg (by omega), if_neg hk]
  generalize numF k l n = R at HG hn ⊢
  obtain ⟨v, er⟩ := R
  simp only at hn
  clear h
  by_cases hk : n + k ≤ l.length
  · rw [if_pos hk] at hn ⊢
    subst hn
    have HP2 := Lib.hid (HP.out hk)
    clear hk HP
    go_enter Tryz.func113, Tryz.ntmps113
    go_wp2_with (go_at_call 116; refine HR.out.mono ?_; rintro e w1 ⟨⟨a1, c1, rfl, hs1, hc1⟩, j, rfl⟩; have HS := Lib.hid hs1; have HC1 := Lib.hid hc1; clear hs1 hc1)
    refine (HG.out a1 c1 _ HS.out bel HC1.out).mono ?_
    rintro e w' ⟨rfl, rfl⟩
    go_wp2_with fail
    refine (HP2.out _ bel).mono ?_
    rintro e w2 ⟨rfl, hc2, hg2⟩
    have HG2 : Hid (Gp (fun q => q = C) w w2) := (Gp.of_below bel).trans hg2
    have HC2 := Lib.hid hc2
    clear hc2 hg2
    go_wp2_with fail
    go_ret2
    exact ⟨rfl, HC2.out, HG2.out⟩
  · rw [if_neg hk] at hn ⊢
    subst hn
    clear hk HP
    go_enter Tryz.func113, Tryz.ntmps113
    go_wp2_with (go_at_call 116; refine HR.out.mono ?_; rintro e w1 ⟨⟨a1, c1, rfl, hs1, hc1⟩, j, rfl⟩; have HS := Lib.hid hs1; have HC1 := Lib.hid hc1; clear hs1 hc1)
    refine (HG.out a1 c1 _ HS.out bel HC1.out).mono ?_
    rintro e w' ⟨rfl, rfl⟩
    go_wp2_with fail
    go_ret2
    exact ⟨rfl, HC.out.below bel, Gp.of_below bel⟩
set_option maxRecDepth 100000 in
theorem cursor_Bytes (C : Nat) (A : Option Addr × Nat) (l : List UInt8) (n k : Nat) (hk : n + k ≤ l.length) (w : World) (h : Cur w C A l n) (hl : l.length ≤ 1099511627776) :
    Calls Tryz.prog 85 #[.pointer (some ⟨C, 0, none⟩), .int .i64 (k : Int)] w fun e w' => ∃ a c, e = .returned (.tuple #[.slice a k c, .int .i64 0]) ∧ SlB w' w'.heap.size a ((l.drop n).take k) ∧ k ≤ c ∧ (∀ p, a = some p → w.heap.size ≤ p.block) ∧ Cur w' C A l (n + k) ∧ Gp (fun q => q = C) w w' := by
  have HR : Hid (∀ W, Below w.heap.size w W → Calls Tryz.prog 116 #[.pointer (some ⟨C, 0, none⟩)] W fun e w' => (∃ a c, e = .returned (.slice a (l.length - n) c) ∧ SlB W W.heap.size a (l.drop n) ∧ l.length - n ≤ c) ∧ ∃ j, w' = W.more j) := fun W hb => cursor_rest C A l n W (h.below hb)
  have HL : Hid (∀ W, Below w.heap.size w W → Calls Tryz.prog 83 #[.pointer (some ⟨C, 0, none⟩)] W fun e w' => e = .returned (.int .i64 ((l.length - n : Nat) : Int)) ∧ ∃ j, w' = W.more j) := fun W hb => cursor_Left C A l n W (h.below hb)
  have HP : Hid (∀ W, Below w.heap.size w W → Calls Tryz.prog 117 #[.pointer (some ⟨C, 0, none⟩), .int .i64 (k : Int)] W fun e w' => e = .returned (.tuple #[]) ∧ Cur w' C A l (n + k) ∧ Gp (fun q => q = C) W w') := fun W hb => cursor_pass C A l n k W (h.below hb) hk hl
  have HC := Lib.hid h
  have HK := Lib.hid hk
  have g0 : ¬ (k : Int) < 0 := by omega
  have g1 : ¬ (k : Int) > ((l.length - n : Nat) : Int) := by omega
  have g2 : k ≤ l.length - n := by omega
  obtain ⟨r, hr⟩ : ∃ r, r = l.length - n := ⟨_, rfl⟩
  rw [← hr] at g1 g2
  have HRR := Lib.hid hr
  rw [← hr] at HR HL
  clear h hk hr
  go_enter Tryz.func85, Tryz.ntmps85
  go_wp2_with (go_at_call 83; refine (HL.out _ bel).mono ?_; rintro e w' ⟨rfl, j, rfl⟩)
  refine (HR.out _ bel).mono ?_
  rintro e w1 ⟨⟨a1, c1, rfl, hs1, hc1⟩, j1, rfl⟩
  have HS := Lib.hid hs1
  clear hs1
  have g3 : k ≤ c1 := by omega
  have HCl : Hid (∀ W, SlB W W.heap.size a1 (l.drop n) → Calls Tryz.prog 112 #[.slice a1 k c1] W fun e w' => ∃ v', e = .returned v' ∧ OwnB W.heap.size w' v' ((l.drop n).take k) ∧ Below W.heap.size W w') := fun W hs => by
    have hle : ((l.drop n).take k).length = k := by have := HK.out; simp; omega
    have := slices_CloneB a1 c1 ((l.drop n).take k) W (SlR.take hs k) (by rw [hle]; have := HK.out; omega)
    rwa [hle] at this
  go_wp2_with fail
  refine (HCl.out _ (HS.out.grow belm)).mono ?_
  rintro e w2 ⟨v', rfl, ho, hb⟩
  have HB2 : Hid (Below w.heap.size w w2) := Below.trans (B := w.heap.size) bel (hb.mono (by simp))
  obtain ⟨a2, c2, rfl, hc2, hs2, hn2⟩ := OwnB.full ho
  have hle : ((l.drop n).take k).length = k := by have := HK.out; simp; omega
  rw [hle] at hc2 ⊢
  have HS2 := Lib.hid hs2
  have HN2 : Hid (∀ p, a2 = some p → w.heap.size ≤ p.block) := fun p hp => by have := hn2 p hp; simp at this; omega
  have HC2 := Lib.hid hc2
  clear ho hb hs2 hn2 hc2 hle
  go_wp2_with fail
  refine (HP.out _ HB2.out).mono ?_
  rintro e w3 ⟨rfl, hc3, hg3⟩
  have HC3 := Lib.hid hc3
  have HG3 := Lib.hid hg3
  clear hc3 hg3
  go_wp2_with fail
  go_ret2
  refine ⟨a2, c2, rfl, SlB.gp HS2.out HG3.out (fun q hq => ?_), HC2.out, HN2.out, HC3.out, (Gp.of_below HB2.out).trans HG3.out⟩
  obtain ⟨_, hb5, _⟩ := HC.out.below HB2.out
  exact ⟨_, _, hq ▸ hb5, cur_cells⟩
end Go.Proofs.YtjhhdgmhocpceaaGreatDoor
/-
  The reader of a frame: numbers, one behind the other; whether one was not there.
-/
namespace Go.Proofs.YtjhhdgmhocpceaaGreatDoor
set_option linter.unusedSimpArgs false
set_option linter.unusedVariables false
set_option linter.unusedSectionVars false
open Go.ChangeShapes Go.WideShapes Go.ChangeAt Go.RowKit Go.Deep Go.Shelf

abbrev RdrT : TypeId := 114
def Rdr (w : World) (C R : Nat) (l : List UInt8) (n : Nat) (sh : Bool) : Prop := (∃ A, Cur w C A l n) ∧ Blk w R RdrT #[.pointer (some ⟨C, 0, none⟩), .bool sh] ∧ C ≠ R ∧ l.length ≤ 1099511627776
theorem rdr_cells {p : Option Addr} {b : Bool} : ∀ (i : Nat) (y : UInt8), (#[.pointer p, .bool b] : Array Value)[i]? ≠ some (.int .u8 (y.toNat : Int))
  | 0, y => by simp
  | 1, y => by simp
  | i + 2, y => by simp
theorem Rdr.gp {p : Nat → Prop} {w w' : World} {C R : Nat} {l : List UInt8} {n : Nat} {sh : Bool} (h : Rdr w C R l n sh) (hg : Gp p w w') (hC : ¬ p C) (hR : ¬ p R) (hp : ∀ k, p k → ∃ t cs, Blk w k t cs ∧ ∀ (i : Nat) (x : UInt8), cs[i]? ≠ some (.int .u8 (x.toNat : Int))) : Rdr w' C R l n sh :=
  ⟨h.1.imp fun _ hc => hc.gp hg hC hp, hg.blk h.2.1 hR, h.2.2⟩
theorem Rdr.below {w w' : World} {C R : Nat} {l : List UInt8} {n : Nat} {sh : Bool} (h : Rdr w C R l n sh) (hb : Below w.heap.size w w') : Rdr w' C R l n sh := ⟨h.1.imp fun _ hc => hc.below hb, h.2.1.below hb h.2.1.lt, h.2.2⟩
def nxtN (k : Nat) (l : List UInt8) (n : Nat) : Nat := if n + k ≤ l.length then n + k else n
def nxtS (k : Nat) (l : List UInt8) (n : Nat) (sh : Bool) : Bool := sh || decide (¬ n + k ≤ l.length)
def NumP (C R k : Nat) (l : List UInt8) (n : Nat) (sh : Bool) (w : World) (e : Ending) (w' : World) : Prop := e = .returned (.int .i64 (numF k l n).1) ∧ Rdr w' C R l (nxtN k l n) (nxtS k l n sh) ∧ Gp (P2 C R) w w'
set_option maxRecDepth 100000 in
theorem reader_number (C R : Nat) (l : List UInt8) (n k : Nat) (sh : Bool) (h1 : 1 ≤ k) (h2 : k ≤ 4) (w : World) (h : Rdr w C R l n sh) :
    Calls Tryz.prog 81 #[.pointer (some ⟨R, 0, none⟩), .int .i64 (k : Int)] w (NumP C R k l n sh w) := by
  obtain ⟨⟨A, hc⟩, hb, hne, hl⟩ := h
  have HN := Lib.hid (cursor_Number C A l n k h1 h2 w hc hl)
  have c0 : w.cell? ⟨R, 0, none⟩ = some (.pointer (some ⟨C, 0, none⟩)) := hb.cell 0
  have hn : (numF k l n).2 = if n + k ≤ l.length then 0 else 3 := by
    have := hc.1
    unfold numF getF
    rw [List.length_drop]
    by_cases hk : n + k ≤ l.length
    · rw [if_pos (by omega), if_pos hk]
    · rw [if_neg (by omega), if_neg hk]
  have HNX : Hid ((if n + k ≤ l.length then n + k else n) = nxtN k l n) := rfl
  have HSX : Hid (nxtS k l n sh = (sh || decide (¬ n + k ≤ l.length))) := rfl
  rw [HNX.out] at HN
  unfold NumP
  generalize nxtS k l n sh = S at HSX ⊢
  generalize nxtN k l n = N at HN HNX ⊢
  generalize numF k l n = V at HN hn ⊢
  obtain ⟨v, er⟩ := V
  simp only at hn
  have HB := Lib.hid hb
  have HL := Lib.hid hl
  clear hc hb h1 h2
  have hS : S = (sh || decide (¬ n + k ≤ l.length)) := HSX.out
  obtain ⟨ok, hok⟩ : ∃ ok : Bool, ok = decide (n + k ≤ l.length) := ⟨_, rfl⟩
  have hS2 : S = (sh || !ok) := by rw [hS, hok, decide_not]
  have hn2 : er = if ok = true then 0 else 3 := by rw [hn, hok]; simp
  have HNE := Lib.hid hne
  clear hS hn HSX HNX hok hne hl
  cases ok <;> cases sh
  all_goals
    simp only [Bool.not_true, Bool.not_false, Bool.or_true, Bool.or_false, if_true, if_false, Bool.false_eq_true] at hS2 hn2
    subst hS2 hn2
    go_enter Tryz.func81, Tryz.ntmps81
    go_wp2_with fail
    refine HN.out.mono ?_
    rintro e w1 ⟨rfl, hc1, hg1⟩
    have HC1 := Lib.hid hc1
    have HG1 := Lib.hid hg1
    have hb1 := hg1.blk HB.out (fun e => HNE.out e.symm)
    have HB1 := Lib.hid hb1
    have d1 := hb1.cell 1
    have f1 := hb1.frozen 1
    have l1 := hb1.lt
    clear hc1 hg1 hb1
    go_wp2_with fail
    go_ret
    exact ⟨rfl, ⟨⟨A, HC1.out.gp (p := fun q => q = R) (Gp.set _ rfl) HNE.out (fun q hq => ⟨_, _, hq ▸ HB1.out, rdr_cells⟩)⟩, HB1.out.set_ 1 _, HNE.out, HL.out⟩, (HG1.out.imp (fun q hq => .inl hq)).trans (Gp.set _ (.inr rfl))⟩
set_option maxRecDepth 100000 in
theorem reader_low (C R : Nat) (l : List UInt8) (n : Nat) (sh : Bool) (w : World) (h : Rdr w C R l n sh) :
    Calls Tryz.prog 115 #[.pointer (some ⟨R, 0, none⟩)] w fun e w' => e = .returned (.tuple #[.int .i64 (lowF (numF 4 l n).1).1, .bool (lowF (numF 4 l n).1).2]) ∧ Rdr w' C R l (nxtN 4 l n) (nxtS 4 l n sh) ∧ Gp (P2 C R) w w' := by
  have HN := Lib.hid (reader_number C R l n 4 sh (by decide) (by decide) w h)
  obtain ⟨v, hv, hv2⟩ : ∃ v : Nat, (numF 4 l n).1 = (v : Int) ∧ v < 4294967296 := by
    unfold numF getF
    split
    · exact ⟨_, rfl, beN_small (by simp; omega)⟩
    · exact ⟨0, rfl, by decide⟩
  have HL : Hid (∀ W, Calls Tryz.prog 128 #[.int .i64 (v : Int)] W fun e w' => e = .returned (.tuple #[.int .i64 (lowF v).1, .bool (lowF v).2]) ∧ W = w') := octet_Low v hv2
  unfold NumP at HN
  rw [hv] at HN ⊢
  generalize lowF v = L at HL ⊢
  clear h hv
  go_enter Tryz.func115, Tryz.ntmps115
  go_wp2_with fail
  refine HN.out.mono ?_
  rintro e w1 ⟨rfl, hc1, hg1⟩
  have HC1 := Lib.hid hc1
  have HG1 := Lib.hid hg1
  clear hc1 hg1
  go_wp2_with (go_at_call 128; (with_reducible refine (HL.out _).mono ?_); rintro e w' ⟨rfl, rfl⟩)
  go_ret2
  exact ⟨rfl, HC1.out, HG1.out⟩
end Go.Proofs.YtjhhdgmhocpceaaGreatDoor
/-
  Kinds of frames: which flags a frame has, to which streams it belongs; the program's and the document's; the document's numbers of bytes.
-/
namespace Go.Proofs.YtjhhdgmhocpceaaGreatDoor
set_option linter.unusedSimpArgs false
set_option linter.unusedVariables false
set_option linter.unusedSectionVars false
open Go.ChangeShapes Go.WideShapes Go.ChangeAt Go.RowKit Go.Deep Go.Shelf

def usedF (t : Int) : Int := if t = 0 then 9 else if t = 1 then 45 else if t = 4 then 1 else if t = 6 then 1 else if t = 5 then 12 else if t = 9 then 4 else 0
def usesF (t g : Int) : Bool := decide (usedF t / g % 2 = 1)
def hasF (t fl g : Int) : Bool := usesF t g && decide (fl / g % 2 = 1)
theorem usedF_mem (t : Int) : usedF t ∈ [0, 9, 45, 1, 12, 4] := by unfold usedF; repeat' split
                                                                   all_goals simp
theorem has_bits0 : ∀ u ∈ ([0, 9, 45, 1, 12, 4] : List Int), ∀ g ∈ ([1, 4, 8, 32] : List Int), ∀ f : Fin 256, (bits .and .i64 (bits .and .i64 u (f.val : Int)) g != 0) = (decide (u / g % 2 = 1) && decide ((f.val : Int) / g % 2 = 1)) := by decide +kernel
theorem has_bits (t g : Int) (hg : g ∈ ([1, 4, 8, 32] : List Int)) (fl : Int) (h0 : 0 ≤ fl) (h1 : fl ≤ 255) : (bits .and .i64 (bits .and .i64 (usedF t) fl) g != 0) = hasF t fl g := by
  obtain ⟨n, rfl⟩ := Int.eq_ofNat_of_zero_le h0
  exact has_bits0 _ (usedF_mem t) g hg ⟨n, by omega⟩
set_option maxRecDepth 100000 in
theorem kinds_Used (t : Int) (w : World) : Calls Tryz.prog 111 #[.int .i64 t] w fun e w' => e = .returned (.int .i64 (usedF t)) ∧ w = w' := by
  have hc : t = 0 ∨ t = 1 ∨ t = 4 ∨ t = 6 ∨ t = 5 ∨ t = 9 ∨ (¬ t = 0 ∧ ¬ t = 1 ∧ ¬ t = 4 ∧ ¬ t = 6 ∧ ¬ t = 5 ∧ ¬ t = 9) := by omega
  rcases hc with rfl | rfl | rfl | rfl | rfl | rfl | ⟨h0, h1, h4, h6, h5, h9⟩
  all_goals
    go_enter Tryz.func111, Tryz.ntmps111
    go_wp2_with fail
    go_ret
    exact ⟨by simp [usedF, *], rfl⟩
set_option maxRecDepth 100000 in
theorem kinds_Has (t fl g : Int) (hg : g ∈ ([1, 4, 8, 32] : List Int)) (h0 : 0 ≤ fl) (h1 : fl ≤ 255) (w : World) : Calls Tryz.prog 79 #[.int .i64 t, .int .i64 fl, .int .i64 g] w fun e w' => e = .returned (.bool (hasF t fl g)) ∧ w = w' := by
  have HU : Hid (∀ W, Calls Tryz.prog 111 #[.int .i64 t] W fun e w' => e = .returned (.int .i64 (usedF t)) ∧ W = w') := kinds_Used t
  have hb := has_bits t g hg fl h0 h1
  generalize usedF t = U at HU hb
  generalize hasF t fl g = R at hb ⊢
  have hf : fl ≥ 0 := h0
  clear h0 h1
  simp only [List.mem_cons, List.not_mem_nil, or_false] at hg
  rcases hg with rfl | rfl | rfl | rfl
  all_goals
    have HB := Lib.hid hb
    clear hb
    go_enter Tryz.func79, Tryz.ntmps79
    go_wp2_with (go_at_call 111; (with_reducible refine (HU.out _).mono ?_); rintro e w' ⟨rfl, rfl⟩)
    go_ret
    refine ⟨?_, rfl⟩
    rw [← HB.out]
    rfl
set_option maxRecDepth 100000 in
theorem ref08_Uses (t g : Int) (hg : g ∈ ([1, 4, 8, 32] : List Int)) (w : World) : Calls Tryz.prog 91 #[.int .i64 t, .int .i64 g] w fun e w' => e = .returned (.bool (usesF t g)) ∧ w = w' := by
  simp only [List.mem_cons, List.not_mem_nil, or_false] at hg
  have hc : t = 0 ∨ t = 1 ∨ t = 4 ∨ t = 6 ∨ t = 5 ∨ t = 9 ∨ (¬ t = 0 ∧ ¬ t = 1 ∧ ¬ t = 4 ∧ ¬ t = 6 ∧ ¬ t = 5 ∧ ¬ t = 9) := by omega
  rcases hc with rfl | rfl | rfl | rfl | rfl | rfl | ⟨h0, h1, h4, h6, h5, h9⟩ <;> rcases hg with rfl | rfl | rfl | rfl
  all_goals
    go_enter Tryz.func91, Tryz.ntmps91
    go_wp2_with fail
    go_ret
    exact ⟨by simp [usesF, usedF, *], rfl⟩
set_option maxRecDepth 100000 in
theorem ref08_Has (t fl g : Int) (hg : g ∈ ([1, 4, 8, 32] : List Int)) (h0 : 0 ≤ fl) (h1 : fl ≤ 255) (w : World) : Calls Tryz.prog 57 #[.int .i64 t, .int .i64 fl, .int .i64 g] w fun e w' => e = .returned (.bool (hasF t fl g)) ∧ w = w' := by
  have HU : Hid (∀ W, Calls Tryz.prog 91 #[.int .i64 t, .int .i64 g] W fun e w' => e = .returned (.bool (usesF t g)) ∧ W = w') := ref08_Uses t g hg
  have hr : hasF t fl g = (usesF t g && decide (fl / g % 2 = 1)) := rfl
  generalize usesF t g = U at HU hr
  generalize hasF t fl g = R at hr ⊢
  have HR := Lib.hid hr
  clear hr
  have hf : fl ≥ 0 := h0
  simp only [List.mem_cons, List.not_mem_nil, or_false] at hg
  rcases hg with rfl | rfl | rfl | rfl <;> cases U
  all_goals
    go_enter Tryz.func57, Tryz.ntmps57
    go_wp2_with (go_at_call 91; (with_reducible refine (HU.out _).mono ?_); rintro e w' ⟨rfl, rfl⟩)
    go_ret
    exact ⟨by rw [HR.out]; first | rfl | (rw [Int.ediv_one]; rfl), rfl⟩
def strF (t : Int) : Int := if t = 4 ∨ t = 6 ∨ t = 7 then 0 else if 0 ≤ t ∧ t < 10 ∧ ¬ t = 8 then 1 else 2
set_option maxRecDepth 100000 in
theorem kinds_Streams (t : Int) (w : World) : Calls Tryz.prog 78 #[.int .i64 t] w fun e w' => e = .returned (.int .i64 (strF t)) ∧ w = w' := by
  have hc : t = 0 ∨ t = 1 ∨ t = 2 ∨ t = 3 ∨ t = 4 ∨ t = 5 ∨ t = 6 ∨ t = 7 ∨ t = 9 ∨ (¬ t = 0 ∧ ¬ t = 1 ∧ ¬ t = 2 ∧ ¬ t = 3 ∧ ¬ t = 4 ∧ ¬ t = 5 ∧ ¬ t = 6 ∧ ¬ t = 7 ∧ ¬ t = 9) := by omega
  have hs : strF t = strF t := rfl
  rcases hc with rfl | rfl | rfl | rfl | rfl | rfl | rfl | rfl | rfl | ⟨h0, h1, h2, h3, h4, h5, h6, h7, h9⟩
  all_goals
    go_enter Tryz.func78, Tryz.ntmps78
    go_wp2_with fail
    go_ret
    exact ⟨by first | rfl | (unfold strF; rw [if_neg (by omega), if_neg (by omega)]; rfl), rfl⟩
set_option maxRecDepth 100000 in
theorem ref08_Streams (t : Int) (w : World) : Calls Tryz.prog 88 #[.int .i64 t] w fun e w' => e = .returned (.int .i64 (strF t)) ∧ w = w' := by
  by_cases h4 : t = 4
  · subst h4
    go_enter Tryz.func88, Tryz.ntmps88
    go_wp2_with fail
    go_ret
    exact ⟨rfl, rfl⟩
  by_cases h6 : t = 6
  · subst h6
    go_enter Tryz.func88, Tryz.ntmps88
    go_wp2_with fail
    go_ret
    exact ⟨rfl, rfl⟩
  by_cases h7 : t = 7
  · subst h7
    go_enter Tryz.func88, Tryz.ntmps88
    go_wp2_with fail
    go_ret
    exact ⟨rfl, rfl⟩
  by_cases h0 : t ≥ 0 <;> by_cases h1 : t < 10 <;> by_cases h8 : t = 8
  all_goals
    first
      | (exfalso; omega)
      | (go_enter Tryz.func88, Tryz.ntmps88
         go_wp2_with fail
         go_ret
         exact ⟨by unfold strF; rw [if_neg (by omega)]; first | (rw [if_pos (by omega)]; done) | (rw [if_neg (by omega)]; done) | (rw [if_pos (by omega)]; rfl) | (rw [if_neg (by omega)]; rfl), rfl⟩)
set_option maxRecDepth 100000 in
theorem ref01_Low (n : Int) (h0 : 0 ≤ n) (h1 : n < 4294967296) (w : World) : Calls Tryz.prog 93 #[.int .i64 n] w fun e w' => e = .returned (.tuple #[.int .i64 (lowF n).1, .bool (lowF n).2]) ∧ w = w' := by
  have g0 : ¬ n < 0 := by omega
  have g1 : ¬ n ≥ 4294967296 := by omega
  by_cases h : n ≥ 2147483648
  · have hl : lowF n = (n - 2147483648, true) := by unfold lowF; rw [if_pos ⟨h0, h1⟩, if_pos h]
    rw [hl]
    clear hl
    go_enter Tryz.func93, Tryz.ntmps93
    go_wp2_with fail
    go_ret2
    exact ⟨rfl, rfl⟩
  · have hl : lowF n = (n, false) := by unfold lowF; rw [if_pos ⟨h0, h1⟩, if_neg h]
    rw [hl]
    clear hl
    go_enter Tryz.func93, Tryz.ntmps93
    go_wp2_with fail
    go_ret2
    exact ⟨rfl, rfl⟩
end Go.Proofs.YtjhhdgmhocpceaaGreatDoor
