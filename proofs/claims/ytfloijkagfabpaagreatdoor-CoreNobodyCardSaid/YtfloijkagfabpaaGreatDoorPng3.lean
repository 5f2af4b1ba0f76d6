/-
  Pings: the bytes of a ping as a key.
-/
import Derived.Test.YtfloijkagfabpaaGreatDoorPng2
import Derived.Test.YtfloijkagfabpaaGreatDoorMa
import Derived.Test.YtfloijkagfabpaaGreatDoorBlk
import Derived.Laws.CopyOwn
import Derived.Deep.RegionHeld3
namespace Go.Proofs.YtfloijkagfabpaaGreatDoor
set_option linter.unusedSimpArgs false
set_option linter.unusedVariables false
set_option linter.unusedSectionVars false
set_option maxRecDepth 100000
open Go.ChangeShapes Go.WideShapes Go.ChangeAt Go.RowKit Go.Deep

/-! Bytes that lie in a slice. -/
def byC (x : UInt8) : List Value := [.int .u8 (x.toNat : Int)]
abbrev SlY (w : World) (B : Nat) (a : Option Addr) (l : List UInt8) : Prop := SlR w B 1 (fun x cs => cs = byC x) a l
theorem SlR.atY {w : World} {B : Nat} {a : Option Addr} {l : List UInt8} (h : SlY w B a l) {k : Nat} (hk : k < l.length) : ∃ b off, a = some ⟨b, off, none⟩ ∧ b < B ∧ w.cell? ⟨b, off + k, none⟩ = some (.int .u8 (l[k].toNat : Int)) := by
  obtain ⟨b, off, cs, ha, hb, rfl, hc⟩ := h k hk
  have := hc 0 _ rfl
  rw [Nat.mul_one, Nat.add_zero] at this
  exact ⟨b, off, ha, hb, this⟩
theorem SlY.keep {w w' : World} {a : Option Addr} {l : List UInt8} (h : SlY w w.heap.size a l) (hb : Below w.heap.size w w') : SlY w' w'.heap.size a l :=
  (h.below hb (Nat.le_refl _)).mono hb.size (fun _ _ _ h => h)
theorem st_key : StructTy Tryz.prog PkT 8 := ⟨_, Tryz.underlying336, rfl, by kernel_rfl⟩
def byCs (k : List UInt8) : List Value := k.map fun c => Value.int .u8 (c.toNat : Int)

theorem setRow_new (w : World) (t : TypeId) (a b : Array Value) : (w.alloc (.cells a t)).setRow w.heap.size b = w.alloc (.cells b t) := by
  unfold World.setRow World.alloc
  congr 1
  apply Array.ext_getElem?
  intro i
  rw [Array.getElem?_modify, Array.getElem?_push, Array.getElem?_push]
  by_cases h : w.heap.size = i
  · subst h; simp
  · rw [if_neg h, if_neg (fun e => h e.symm), if_neg (fun e => h e.symm)]
theorem key_world (w : World) (a0 a1 a2 a3 a4 a5 a6 a7 : UInt8) : ((w.alloc (.cells #[.int .u8 0, .int .u8 0, .int .u8 0, .int .u8 0, .int .u8 0, .int .u8 0, .int .u8 0, .int .u8 0] PkT)).alloc (.cells #[.int .u8 0, .int .u8 0, .int .u8 0, .int .u8 0, .int .u8 0, .int .u8 0, .int .u8 0, .int .u8 0] PkT)).setRow (w.heap.size + 1) ((#[.int .u8 0, .int .u8 0, .int .u8 0, .int .u8 0, .int .u8 0, .int .u8 0, .int .u8 0, .int .u8 0] : Array Value).toList.take 0 ++ (byCs [a0, a1, a2, a3, a4, a5, a6, a7] ++ (#[.int .u8 0, .int .u8 0, .int .u8 0, .int .u8 0, .int .u8 0, .int .u8 0, .int .u8 0, .int .u8 0] : Array Value).toList.drop (0 + (byCs [a0, a1, a2, a3, a4, a5, a6, a7]).length))).toArray = (w.alloc (.cells #[.int .u8 0, .int .u8 0, .int .u8 0, .int .u8 0, .int .u8 0, .int .u8 0, .int .u8 0, .int .u8 0] PkT)).alloc (.cells #[.int .u8 (a0.toNat : Int), .int .u8 (a1.toNat : Int), .int .u8 (a2.toNat : Int), .int .u8 (a3.toNat : Int), .int .u8 (a4.toNat : Int), .int .u8 (a5.toNat : Int), .int .u8 (a6.toNat : Int), .int .u8 (a7.toNat : Int)] PkT) := by
  have hs : w.heap.size + 1 = (w.alloc (.cells #[.int .u8 0, .int .u8 0, .int .u8 0, .int .u8 0, .int .u8 0, .int .u8 0, .int .u8 0, .int .u8 0] PkT)).heap.size := by simp
  rw [hs]
  exact setRow_new _ _ _ _
set_option maxHeartbeats 4000000 in
set_option maxRecDepth 100000 in
theorem pings_key8 (a : Option Addr) (cap : Nat) (a0 a1 a2 a3 a4 a5 a6 a7 : UInt8) (w : World) (hS : SlY w w.heap.size a [a0, a1, a2, a3, a4, a5, a6, a7]) :
    Calls Tryz.prog 236 #[.slice a 8 cap] w fun e w' => e = .returned (kv [a0, a1, a2, a3, a4, a5, a6, a7]) ∧ ∃ j, w' = w.more j := by
  obtain ⟨b, off, rfl, hb, _⟩ := SlR.atY hS (k := 0) (by simp)
  have hcell : ∀ W', Below w.heap.size w W' → ∀ j v, (byCs [a0, a1, a2, a3, a4, a5, a6, a7])[j]? = some v → W'.cell? ((⟨b, off, none⟩ : Addr).add j) = some v := fun W' hW j v hv => by
    unfold byCs at hv
    rw [List.getElem?_map] at hv
    obtain ⟨x, hx, rfl⟩ := Option.map_eq_some_iff.1 hv
    obtain ⟨hlt, rfl⟩ := List.getElem?_eq_some_iff.1 hx
    obtain ⟨b', off', e, _, hc⟩ := SlR.atY hS hlt
    injection e with e
    injection e with e1 e2
    subst e1 e2
    have e3 : (⟨b, off, none⟩ : Addr).add j = ⟨b, off + j, none⟩ := by unfold Addr.add; by_cases hj : j = 0 <;> simp [hj]
    rw [e3]
    exact (hW.cell (p := ⟨b, off + j, none⟩) hb).trans hc
  have HC := Lib.hid hcell
  clear hcell hS
  go_enter Tryz.func236, Tryz.ntmps236
  go_wp2_with (refine wpList_copy_own rfl (.tmp 4) (.tmp 5) 54 54 rfl 5 Tryz.underlying54 (by kernel_rfl) (w.heap.size + 1) 0 _ _ ⟨b, off, none⟩ _ _ rfl rfl #[.int .u8 0, .int .u8 0, .int .u8 0, .int .u8 0, .int .u8 0, .int .u8 0, .int .u8 0, .int .u8 0] PkT (Blk.at_ _ _ _ (by simp)) (byCs [a0, a1, a2, a3, a4, a5, a6, a7]) rfl (HC.out _ bel) (by show 0 + 8 ≤ 8; omega) (by intro v hv; simp [byCs] at hv; rcases hv with rfl | rfl | rfl | rfl | rfl | rfl | rfl | rfl <;> rfl) ?_; rw [key_world])
  refine bodyPost_ret (res_cell (cs := #[.int .u8 (a0.toNat : Int), .int .u8 (a1.toNat : Int), .int .u8 (a2.toNat : Int), .int .u8 (a3.toNat : Int), .int .u8 (a4.toNat : Int), .int .u8 (a5.toNat : Int), .int .u8 (a6.toNat : Int), .int .u8 (a7.toNat : Int)]) rfl st_key rfl blk rfl) rfl ⟨rfl, Below.junk bel⟩
theorem pings_key (a : Option Addr) (cap : Nat) (k : List UInt8) (hk : k.length = 8) (w : World) (hS : SlY w w.heap.size a k) :
    Calls Tryz.prog 236 #[.slice a 8 cap] w fun e w' => e = .returned (kv k) ∧ ∃ j, w' = w.more j := by
  match k, hk with
  | [a0, a1, a2, a3, a4, a5, a6, a7], _ => exact pings_key8 a cap a0 a1 a2 a3 a4 a5 a6 a7 w hS
end Go.Proofs.YtfloijkagfabpaaGreatDoor
