/-
  Pings: the map of those that wait: what it holds of each bytes, and what each operation on it does.
-/
import Derived.Test.YtfloijkagfabpaaGreatDoorBase
import Derived.Test.YtfloijkagfabpaaGreatDoorMa
import Derived.Maps.Own
import Derived.Maps.OwnOps
import Derived.Maps.OwnSet
import Derived.Maps.Views
import Derived.DeepKeys4
import Derived.WideKeyEntry
namespace Go.Proofs.YtfloijkagfabpaaGreatDoor
set_option linter.unusedSimpArgs false
set_option linter.unusedVariables false
set_option linter.unusedSectionVars false
open Go.ChangeShapes Go.WideShapes Go.ChangeAt Go.RowKit Go.Deep Go.Maps

abbrev PkT : TypeId := 336
abbrev PmT : TypeId := 176
theorem pk_laidOut : laidOutB Tryz.prog = true := by kernel_rfl
theorem pk_row : PkT < Tryz.prog.types.size := of_decide_eq_true (by kernel_rfl)
theorem pk_wide : (match Tryz.prog.underlying PkT with | some (.array _ _) | some (.struct _) => true | _ => false) = true := by rw [Tryz.underlying336]
set_option maxRecDepth 100000 in
theorem pk_klaw : WideMaps.KeyLaw Tryz.prog PkT := deep_law_laid pk_laidOut (m := 2) (by omega) pk_row (by kernel_rfl) pk_wide
set_option maxRecDepth 100000 in
theorem pk_law : Keyed Tryz.prog PkT := Keyed.of_law pk_klaw
theorem pz (w : World) : (zeroValue 3).run Tryz.prog w = .ok (.int .i64 0) w := by kernel_rfl

/-- A key: eight bytes. -/
def kv (k : List UInt8) : Value := .agg (k.map fun c => Value.int .u8 (c.toNat : Int)).toArray
theorem bytes_inj : ∀ {k l : List UInt8}, (k.map fun c => Value.int .u8 (c.toNat : Int)) = (l.map fun c => Value.int .u8 (c.toNat : Int)) → k = l
  | [], [], _ => rfl
  | [], b :: l, h => by simp at h
  | a :: k, [], h => by simp at h
  | a :: k, b :: l, h => by
    simp only [List.map_cons, List.cons.injEq, Value.int.injEq, true_and] at h
    rw [UInt8.toNat_inj.1 (by omega : a.toNat = b.toNat), bytes_inj h.2]
theorem kv_inj {k l : List UInt8} (h : kv k = kv l) : k = l := by
  unfold kv at h
  injection h with h
  injection h with h
  exact bytes_inj h
theorem u8_wf (c : UInt8) : (Lit.int .u8 (c.toNat : Int)).wf = true := by
  have := c.toNat_lt
  simp [Lit.wf, IntKind.min, IntKind.max, IntKind.signed, IntKind.bits]
  omega
theorem pk_keyType : Tryz.prog.keyType PkT = true := by kernel_rfl
set_option maxRecDepth 100000 in
theorem pk_size : ∃ m, Tryz.prog.types.size = m + 1 := ⟨Tryz.prog.types.size - 1, (Nat.succ_pred_eq_of_pos (Nat.lt_of_le_of_lt (Nat.zero_le _) pk_row)).symm⟩
theorem pk_cells : Tryz.prog.cellsOf PkT = 8 := by kernel_rfl
theorem u8_cells : Tryz.prog.cellsOf 5 = 1 := by kernel_rfl
set_option maxRecDepth 100000 in
theorem key_of {k : List UInt8} (h : k.length = 8) : ∃ l, keyOf Tryz.prog PkT (kv k) = some l := by
  match k, h with
  | [a0, a1, a2, a3, a4, a5, a6, a7], _ =>
    obtain ⟨m, hm⟩ := pk_size
    have hf : (kv [a0, a1, a2, a3, a4, a5, a6, a7]).formed Tryz.prog PkT = true := by simp [kv, Value.formed, Tryz.underlying336, pk_cells]
    unfold keyOf
    simp only [Tryz.underlying336]
    rw [if_pos (by rw [pk_keyType, hf]; rfl), hm]
    unfold Program.keyLits
    simp only [Tryz.underlying336, kv, Value.cells]
    rw [if_pos (by rw [pk_cells]; rfl), show List.range 8 = [0, 1, 2, 3, 4, 5, 6, 7] from rfl]
    simp [u8_cells, Program.keyLits, Tryz.underlying5, u8_wf]

/-! What the map holds: of each key a number. -/
noncomputable abbrev pgR : Value → Option (DataW Unit × List MemPlace) := plainElem Tryz.prog 3
def i64L (c : Int) : DataW Unit := .lit (.int .i64 c)
def PgMap (w : World) (mb n : Nat) (f : List UInt8 → Int) : Prop :=
  ∃ D : DataW Unit, w.ownsMap Tryz.prog PkT pgR mb n D ∧ ∀ k kl, k.length = 8 → keyOf Tryz.prog PkT (kv k) = some kl → D.atKey kl (i64L 0) = i64L (f k)
theorem own_isMap {w : World} {mb n : Nat} {D : DataW Unit} (h : w.ownsMap Tryz.prog PkT pgR mb n D) : IsMap D := by
  obtain ⟨es, clock, _, _, _, hD⟩ := h
  exact ⟨_, hD⟩
theorem PgMap.lt {w : World} {mb n : Nat} {f : List UInt8 → Int} (h : PgMap w mb n f) : mb < w.heap.size := by
  obtain ⟨D, h, _⟩ := h
  exact h.lt
theorem PgMap.grown {w w' : World} {mb n : Nat} {f : List UInt8 → Int} {row : Option Nat} (h : PgMap w mb n f) (hg : w.grownBy w' row) (hne : some mb ≠ row) : PgMap w' mb n f := by
  obtain ⟨D, h, h2⟩ := h
  exact ⟨D, h.kept hg hne, h2⟩
theorem PgMap.congr {w : World} {mb n : Nat} {f g : List UInt8 → Int} (h : PgMap w mb n f) (hfg : ∀ k, k.length = 8 → f k = g k) : PgMap w mb n g := by
  obtain ⟨D, h, h2⟩ := h
  exact ⟨D, h, fun k kl hk hkl => by rw [h2 k kl hk hkl, hfg k hk]⟩
theorem PgMap.mono {w : World} {mb n n' : Nat} {f : List UInt8 → Int} (h : PgMap w mb n f) (hn : n ≤ n') : PgMap w mb n' f := by
  obtain ⟨D, h, h2⟩ := h
  exact ⟨D, h.mono hn, h2⟩
theorem PgMap.made (w : World) : PgMap (w.alloc (.map #[] 0)) w.heap.size 0 (fun _ => 0) :=
  ⟨.map [], World.ownsMap_made w _ _ _, fun k kl _ _ => by simp [DataW.atKey]⟩
set_option maxRecDepth 100000 in
theorem PgMap.look {w : World} {mb n : Nat} {f : List UInt8 → Int} (h : PgMap w mb n f) {k : List UInt8} (hk : k.length = 8) :
    (Instr.lookup PmT (.map (some mb)) (kv k) false).run Tryz.prog w = .ok (.int .i64 (f k)) w := by
  obtain ⟨D, h, h2⟩ := h
  obtain ⟨kl, hkl⟩ := key_of hk
  obtain ⟨c, hrun, hat, _⟩ := h.lookup_int pk_law Tryz.underlying176 Tryz.underlying3 (pz w) hkl
  have := h2 k kl hk hkl
  rw [show (DataW.lit (.int .i64 0) : DataW Unit) = i64L 0 from rfl, this] at hat
  unfold i64L at hat
  injection hat with hat
  injection hat with _ hat
  rw [hrun, hat]
def upd (f : List UInt8 → Int) (k : List UInt8) (c : Int) : List UInt8 → Int := fun k' => if k' = k then c else f k'
set_option maxRecDepth 100000 in
theorem lit_ne {k k' : List UInt8} {kl kl' : Lit} (h : keyOf Tryz.prog PkT (kv k) = some kl) (h' : keyOf Tryz.prog PkT (kv k') = some kl') (hne : k' ≠ k) : kl' ≠ kl := by
  intro e
  subst e
  exact hne (kv_inj (pk_law.inj h' h))
set_option maxRecDepth 100000 in
theorem PgMap.set {w' : World} {mb n' : Nat} {f : List UInt8 → Int} {D : DataW Unit} {k : List UInt8} {kl : Lit} {c : Int} (hkl : keyOf Tryz.prog PkT (kv k) = some kl) (hD : IsMap D)
    (h2 : ∀ k kl, k.length = 8 → keyOf Tryz.prog PkT (kv k) = some kl → D.atKey kl (i64L 0) = i64L (f k)) (hown : w'.ownsMap Tryz.prog PkT pgR mb n' (D.put kl (i64L c))) : PgMap w' mb n' (upd f k c) := by
  refine ⟨_, hown, fun k' kl' hk' hkl' => ?_⟩
  unfold upd
  by_cases he : k' = k
  · subst he
    obtain rfl : kl' = kl := Option.some.inj (hkl'.symm.trans hkl)
    rw [if_pos rfl]
    exact atKey_put_same hD (pk_law.key hkl) _ _
  · rw [if_neg he, ← h2 k' kl' hk' hkl']
    exact atKey_put_other (lit_ne hkl hkl' he) _ _
end Go.Proofs.YtfloijkagfabpaaGreatDoor
