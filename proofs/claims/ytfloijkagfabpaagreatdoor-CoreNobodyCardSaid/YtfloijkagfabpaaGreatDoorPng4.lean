/-
  Pings: those that wait: asked for, made, counted.
-/
import Derived.Test.YtfloijkagfabpaaGreatDoorPng3
import Derived.Test.YtfloijkagfabpaaGreatDoorMb
namespace Go.Proofs.YtfloijkagfabpaaGreatDoor
set_option linter.unusedSimpArgs false
set_option linter.unusedVariables false
set_option linter.unusedSectionVars false
set_option maxRecDepth 100000
open Go.ChangeShapes Go.WideShapes Go.ChangeAt Go.RowKit Go.Deep

abbrev PsT : TypeId := 178
/-- Block b holds pings of which those of l wait; mb is its map. -/
structure Pg (w : World) (b mb : Nat) (most : Int) (n : Nat) (l : List (List UInt8)) : Prop where
  blk : Blk w b PsT #[.int .i64 most, .int .i64 (l.length : Int), .map (some mb)]
  map : PgMap w mb n (fun k => (l.count k : Int))
  ne : b ≠ mb
/-- All blocks that stood are as they were, but for two. -/
structure Beside (b mb : Nat) (w w' : World) : Prop where
  os : w'.os = w.os
  tape : w'.tape = w.tape
  output : w'.output = w.output
  size : w.heap.size ≤ w'.heap.size
  block : ∀ k, k < w.heap.size → k ≠ b → k ≠ mb → w'.heap[k]? = w.heap[k]?
theorem Beside.refl (b mb : Nat) (w : World) : Beside b mb w w := ⟨rfl, rfl, rfl, Nat.le_refl _, fun _ _ _ _ => rfl⟩
theorem Beside.trans {b mb : Nat} {w w1 w2 : World} (h : Beside b mb w w1) (k : Beside b mb w1 w2) : Beside b mb w w2 :=
  ⟨k.os.trans h.os, k.tape.trans h.tape, k.output.trans h.output, Nat.le_trans h.size k.size, fun i hi h1 h2 => (k.block i (Nat.lt_of_lt_of_le hi h.size) h1 h2).trans (h.block i hi h1 h2)⟩
theorem Beside.below {b mb B : Nat} {w w' : World} (h : Beside b mb w w') (hb : B ≤ b) (hm : B ≤ mb) (hB : B ≤ w.heap.size) : Below B w w' :=
  ⟨h.os, h.tape, h.output, h.size, fun k hk => h.block k (Nat.lt_of_lt_of_le hk hB) (by omega) (by omega)⟩
theorem Beside.of_below {b mb : Nat} {w w' : World} (h : Below w.heap.size w w') : Beside b mb w w' := ⟨h.os, h.tape, h.output, h.size, fun k hk _ _ => h.block k hk⟩
theorem Beside.of_grown {b mb : Nat} {w w' : World} (h : w.grownBy w' (some mb)) : Beside b mb w w' := ⟨h.os, h.tape, h.output, h.size, fun k hk _ h2 => h.block k hk (by simpa using h2)⟩
theorem Beside.of_set {b mb : Nat} (w : World) (i : Nat) (v : Value) : Beside b mb w (w.setCell ⟨b, i, none⟩ v) :=
  ⟨rfl, rfl, rfl, by simp [World.setCell], fun k _ h1 _ => Below.heap_setCell w ⟨b, i, none⟩ v k h1⟩
theorem PgMap.block {w w' : World} {mb n : Nat} {f : List UInt8 → Int} (h : PgMap w mb n f) (hb : w'.heap[mb]? = w.heap[mb]?) : PgMap w' mb n f := by
  obtain ⟨D, ⟨es, clock, h1, h2⟩, h3⟩ := h
  exact ⟨D, ⟨es, clock, hb.trans h1, h2⟩, h3⟩
theorem PgMap.below {w w' : World} {mb n : Nat} {f : List UInt8 → Int} (h : PgMap w mb n f) (hb : Below w.heap.size w w') : PgMap w' mb n f := h.block (hb.block mb h.lt)
theorem Pg.below {w w' : World} {b mb : Nat} {most : Int} {n : Nat} {l : List (List UInt8)} (h : Pg w b mb most n l) (hb : Below w.heap.size w w') : Pg w' b mb most n l :=
  ⟨h.blk.below hb h.blk.lt, h.map.below hb, h.ne⟩
theorem exec_look {P : Program} {o : Oper} {ev : Operand → Value} {t : TypeId} {m x : Operand} {vm vx v : Value} {w : World} (ho : o.op = .lookup t m x false) (hm : ev m = vm) (hx : ev x = vx)
    (hrun : (Instr.lookup t vm vx false).run P w = .ok v w) : (execOp ev o).run P w = .ok (.value v) w := by
  simp [execOp, ho, hm, hx, hrun, Result.andThen]

def NewPost (most : Int) (w : World) (e : Ending) (w' : World) : Prop := ∃ b mb, e = .returned (.pointer (some ⟨b, 0, none⟩)) ∧ Pg w' b mb most 0 [] ∧ w.heap.size ≤ b ∧ w.heap.size ≤ mb ∧ Below w.heap.size w w'
set_option maxHeartbeats 4000000 in
set_option maxRecDepth 100000 in
theorem pings_New (most : Int) (w : World) : Calls Tryz.prog 33 #[.int .i64 most] w (NewPost (if most < 0 then 0 else most) w) := by
  have hmm := @run_makeMap Tryz.prog
  by_cases h0 : most < 0
  · rw [if_pos h0]
    go_enter Tryz.func33, Tryz.ntmps33
    go_wp2_with fail
    go_ret
    exact ⟨_, _, rfl, ⟨Blk.at_ _ _ _ (by simp), ((PgMap.made w).below ((Below.refl _ _).alloc (Nat.le_refl _) _)).congr (fun k _ => by simp), by omega⟩, by omega, Nat.le_refl _, bel⟩
  · rw [if_neg h0]
    have h1 : 0 ≤ most := by omega
    go_enter Tryz.func33, Tryz.ntmps33
    go_wp2_with fail
    go_ret
    exact ⟨_, _, rfl, ⟨Blk.at_ _ _ _ (by simp), ((PgMap.made w).below ((Below.refl _ _).alloc (Nat.le_refl _) _)).congr (fun k _ => by simp), by omega⟩, by omega, Nat.le_refl _, bel⟩
end Go.Proofs.YtfloijkagfabpaaGreatDoor
