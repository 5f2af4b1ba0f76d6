/-
  A builder's next byte and next text: blocks of other types stay.
-/
import Derived.Test.YtbdmepidabnfkaaGreatDoorMb
namespace Go.Proofs.YtbdmepidabnfkaaGreatDoor
set_option linter.unusedSimpArgs false
set_option linter.unusedVariables false
set_option linter.unusedSectionVars false
open Go.ChangeShapes Go.WideShapes Go.ChangeAt Go.RowKit Go.Deep Go.Shelf

/-- Blocks that are no builder's stay. -/
def Stay (w w' : World) : Prop := ∀ g t cs, Blk w g t cs → t ≠ BT → t ≠ BytT → Blk w' g t cs
theorem Stay.refl (w : World) : Stay w w := fun _ _ _ h _ _ => h
theorem Stay.trans {a b c : World} (h : Stay a b) (h2 : Stay b c) : Stay a c := fun g t cs hb h1 h3 => h2 g t cs (h g t cs hb h1 h3) h1 h3
theorem stay_alloc (w : World) (o : Obj) : Stay w (w.alloc o) := fun _ _ _ h _ _ => h.alloc o
theorem stay_more (w : World) (j : Junk) : Stay w (w.more j) := fun _ _ _ h _ _ => h.more j
theorem stay_below {w w' : World} (hb : Below w.heap.size w w') : Stay w w' := fun _ _ _ h _ _ => h.below hb h.lt
theorem blk_ty {w : World} {g : Nat} {t u : TypeId} {cs ds : Array Value} (h : Blk w g t cs) (h2 : w.heap[g]? = some (.cells ds u (0, 0))) : t = u := by
  have h1 : w.heap[g]? = some (.cells cs t (0, 0)) := h
  rw [h2] at h1
  injection h1 with h1
  injection h1 with _ h1 _
  exact h1.symm
theorem stay_set {B b : Nat} {p : Value} {bs : List Value} {w : World} (h : Lib.BuilderAt BT BytT B b p bs w) (u : Value) : Stay w (w.setCell ⟨b, 0, none⟩ u) := fun g t cs hb h1 h2 => by
  obtain ⟨_, v, hbk, _, _⟩ := h
  exact hb.far (p := ⟨b, 0, none⟩) (fun e => h1 (blk_ty (ds := #[p, v]) hb (by rw [show g = b from e]; exact hbk))) u
theorem stay_put {b : Nat} {ds : Array Value} {w : World} (hbk : w.heap[b]? = some (.cells ds BT (0, 0))) (u : Value) : Stay w (w.setCell ⟨b, 1, none⟩ u) := fun g t cs hb h1 h2 =>
  hb.far (p := ⟨b, 1, none⟩) (fun e => h1 (blk_ty (ds := ds) hb (by rw [show g = b from e]; exact hbk))) u
theorem stay_buf {B b : Nat} {p : Value} {bs : List Value} {w : World} (h : Lib.BuilderAt BT BytT B b p bs w) : ∀ v, w.heap[b]? = some (.cells #[p, v] BT (0, 0)) → ∀ k, v.ownBlock = some k → ∃ cur, w.heap[k]? = some (.cells cur BytT (0, 0)) := fun v hv k hk => by
  obtain ⟨_, v', hbk, hown, _⟩ := h
  rw [hbk] at hv
  injection hv with hv
  injection hv with hv _ _
  obtain rfl : v' = v := by
    have := congrArg (fun x : Array Value => x[1]?) hv
    simpa using this
  rcases hown.2 with ⟨rfl, _⟩ | ⟨g, cap, cur, rfl, _, hg, _⟩
  · cases hk
  · simp only [Value.ownBlock, Option.some.injEq] at hk
    subst hk
    exact ⟨cur, hg⟩
theorem stay_grown {w w' : World} {row : Option Nat} (h : w.grownBy w' row) (hr : ∀ k, row = some k → ∃ cur, w.heap[k]? = some (.cells cur BytT (0, 0))) : Stay w w' := fun g t cs hb h1 h2 =>
  hb.grown h (fun e => by
    obtain ⟨cur, hc⟩ := hr g e.symm
    exact h2 (blk_ty hb hc))

theorem copyCheckK (B b : Nat) (bs : List Value) (w : World) (h : Lib.IsBuilder BT BytT B b bs w) :
    Calls Tryz.prog 98 #[.pointer (some ⟨b, 0, none⟩)] w fun e w' => e = .returned (.tuple #[]) ∧ (Lib.BuilderAt BT BytT B b (.pointer (some ⟨b, 0, none⟩)) bs w' ∧ Below B w w' ∧ Stay w w') := by
  rcases h with h | h
  · refine (copyCheck_fresh b w h.cell0 h.shape h.frozen0).mono ?_
    rintro e w' ⟨rfl, rfl⟩
    exact ⟨rfl, h.used _, (Below.refl B w).setCell (p := ⟨b, 0, none⟩) h.1 _, stay_set h _⟩
  · refine (copyCheck_used b w h.cell0).mono ?_
    rintro e w' ⟨rfl, rfl⟩
    exact ⟨rfl, h, Below.refl B _, Stay.refl _⟩

set_option maxHeartbeats 2000000 in
set_option maxRecDepth 100000 in
theorem writeByteK (B b : Nat) (bs : List Value) (c : Int) (w : World) (h : Lib.IsBuilder BT BytT B b bs w) (hlen : bs.length + 1 ≤ 140737488355328) (hBw : B ≤ w.heap.size) :
    Calls Tryz.prog 60 #[.pointer (some ⟨b, 0, none⟩), .int .u8 c] w fun e w' => e = .returned .nilIface ∧ (Lib.BuilderAt BT BytT B b (.pointer (some ⟨b, 0, none⟩)) (bs ++ [.int .u8 c]) w' ∧ Below B w w' ∧ Stay w w') := by
  obtain ⟨i0, hi, hz0, hz1, hz2⟩ := info_parts Tryz.Builder_Extra_169.infoByte
  go_enter Tryz.func60, Tryz.ntmps60
  go_wp2_with (go_at_call 98; refine (copyCheckK B b bs _ h).mono ?_)
  rintro e w1 ⟨rfl, h1, hb1, hst⟩
  have hbk0 := stay_buf h1
  obtain ⟨hB, v, hbk, hown, hne⟩ := h1
  have hbuf := hbk0 v hbk
  have c0 : w1.cell? ⟨b, 0, none⟩ = some (.pointer (some ⟨b, 0, none⟩)) := by rw [Lib.cell_of_heap hbk]; rfl
  have c1 : w1.cell? ⟨b, 1, none⟩ = some v := by rw [Lib.cell_of_heap hbk]; rfl
  go_wp2_with (at_builtin; refine wpList_append_own _ rfl _ _ 48 rfl B 5 i0 (.int .u8 0) 1 1 Tryz.underlying48 hi hz0 hz1 hz2 rfl (by decide) _ _ _ rfl (hown.alloc _) ⟨w1.heap.size, 0, none⟩ 1 1 [.int .u8 c] rfl rfl ?c1 ?c2 ?c3 ?c4 ?c5 ?_)
  case c1 =>
    intro j u hj
    match j, hj with
    | 0, hj => simp at hj; subst hj; simp [Addr.add]
  case c2 => intro u hu; simp at hu; subst hu; rfl
  case c3 => unfold maxLen; omega
  case c4 => omega
  case c5 => have := hb1.size; simp; omega
  intro v' w2 hown' hgrow _
  have hlt : b < w1.heap.size := by
    rcases Nat.lt_or_ge b w1.heap.size with h' | h'
    · exact h'
    · simp [Array.getElem?_eq_none h'] at hbk
  have hb2 : w2.heap[b]? = some (.cells #[.pointer (some ⟨b, 0, none⟩), v] BT (0, 0)) := by
    rw [hgrow.block b (by simp; omega) (fun e => hne e.symm), Lib.alloc_old w1 _ b hlt]
    exact hbk
  have d0 : w2.cell? ⟨b, 0, none⟩ = some (.pointer (some ⟨b, 0, none⟩)) := by rw [Lib.cell_of_heap hb2]; rfl
  have d1 : w2.cell? ⟨b, 1, none⟩ = some v := by rw [Lib.cell_of_heap hb2]; rfl
  have f1 : w2.frozen? ⟨b, 1, none⟩ = false := Lib.frozen_of_heap hb2 1
  obtain ⟨g, cap, rfl⟩ : ∃ g cap, v' = .slice (some ⟨g, 0, none⟩) (bs.length + 1) cap := by
    rcases hown'.2 with ⟨_, h0⟩ | ⟨g, cap, cur, hv, _⟩
    · omega
    · exact ⟨g, cap, hv⟩
  go_wp2
  go_ret
  refine ⟨rfl, ?_, ?_, ?_⟩
  · exact Lib.BuilderAt.put (T := BT) (e := BytT) hB hb2 (bs' := bs ++ [.int .u8 c]) (by simpa using hown') Tryz.Builder_Extra_169.neB5
  · exact ((hb1.alloc (by have := hb1.size; omega) _).grown hgrow (by have := hb1.size; simp; omega) (fun k hk => (hown.lt k hk).1)).setCell (p := ⟨b, 1, none⟩) hB _
  · exact hst.trans ((stay_alloc _ _).trans ((stay_grown hgrow (fun k hk => by rw [Lib.alloc_old w1 _ k (hown.lt k hk).2]; exact hbuf k hk)).trans (stay_put hb2 _)))

set_option maxHeartbeats 2000000 in
set_option maxRecDepth 100000 in
theorem writeStringK (B b : Nat) (bs : List Value) (s : ByteArray) (w : World) (h : Lib.IsBuilder BT BytT B b bs w) (hlen : bs.length + s.size ≤ 140737488355328) (hBw : B ≤ w.heap.size) :
    Calls Tryz.prog 59 #[.pointer (some ⟨b, 0, none⟩), .string s] w fun e w' => e = .returned (.tuple #[.int .i64 s.size, .nilIface]) ∧ (Lib.BuilderAt BT BytT B b (.pointer (some ⟨b, 0, none⟩)) (bs ++ Lib.strCells s) w' ∧ Below B w w' ∧ Stay w w') := by
  obtain ⟨i0, hi, hz0, hz1, hz2⟩ := info_parts Tryz.Builder_Extra_169.infoByte
  go_enter Tryz.func59, Tryz.ntmps59
  go_wp2_with (go_at_call 98; refine (copyCheckK B b bs _ h).mono ?_)
  rintro e w1 ⟨rfl, h1, hb1, hst⟩
  have hbk0 := stay_buf h1
  obtain ⟨hB, v, hbk, hown, hne⟩ := h1
  have hbuf := hbk0 v hbk
  have c0 : w1.cell? ⟨b, 0, none⟩ = some (.pointer (some ⟨b, 0, none⟩)) := by rw [Lib.cell_of_heap hbk]; rfl
  have c1 : w1.cell? ⟨b, 1, none⟩ = some v := by rw [Lib.cell_of_heap hbk]; rfl
  go_wp2_with (at_builtin; refine Lib.wpList_append_own_string _ rfl _ _ 48 9 rfl B 5 i0 Tryz.underlying48 Tryz.underlying9 hi hz0 hz1 hz2 _ _ _ rfl hown s rfl ?c3 ?c4 ?c5 ?_)
  case c3 => unfold maxLen; omega
  case c4 => omega
  case c5 => have := hb1.size; omega
  intro v' w2 hown' hgrow _
  have hlt : b < w1.heap.size := by
    rcases Nat.lt_or_ge b w1.heap.size with h' | h'
    · exact h'
    · simp [Array.getElem?_eq_none h'] at hbk
  have hb2 : w2.heap[b]? = some (.cells #[.pointer (some ⟨b, 0, none⟩), v] BT (0, 0)) := by
    rw [hgrow.block b hlt (fun e => hne e.symm)]
    exact hbk
  have d0 : w2.cell? ⟨b, 0, none⟩ = some (.pointer (some ⟨b, 0, none⟩)) := by rw [Lib.cell_of_heap hb2]; rfl
  have d1 : w2.cell? ⟨b, 1, none⟩ = some v := by rw [Lib.cell_of_heap hb2]; rfl
  have f1 : w2.frozen? ⟨b, 1, none⟩ = false := Lib.frozen_of_heap hb2 1
  obtain ⟨ao, n', cap, rfl⟩ : ∃ ao n' cap, v' = .slice ao n' cap := by
    rcases hown'.2 with ⟨hv, _⟩ | ⟨g, cap, cur, hv, _⟩
    · exact ⟨_, _, _, hv⟩
    · exact ⟨_, _, _, hv⟩
  go_wp2
  go_ret2
  refine ⟨rfl, ?_, ?_, ?_⟩
  · exact Lib.BuilderAt.put (T := BT) (e := BytT) hB hb2 (bs' := bs ++ Lib.strCells s) (by simpa [Lib.strCells_length] using hown') Tryz.Builder_Extra_169.neB5
  · exact (hb1.grown hgrow (by have := hb1.size; omega) (fun k hk => (hown.lt k hk).1)).setCell (p := ⟨b, 1, none⟩) hB _
  · exact hst.trans ((stay_grown hgrow hbuf).trans (stay_put hb2 _))

theorem writeBK (B b : Nat) (l : List UInt8) (c : UInt8) (w : World) (h : Lib.IsBuilder BT BytT B b (Lib.byteCells l) w) (hlen : l.length + 1 ≤ 140737488355328) (hBw : B ≤ w.heap.size) :
    Calls Tryz.prog 60 #[.pointer (some ⟨b, 0, none⟩), .int .u8 (c.toNat : Int)] w fun e w' => e = .returned .nilIface ∧ (Lib.IsBuilder BT BytT B b (Lib.byteCells (l ++ [c])) w' ∧ Below B w w' ∧ Stay w w') :=
  (writeByteK B b (Lib.byteCells l) c.toNat w h (by rw [byteCells_len]; exact hlen) hBw).mono fun e w' ⟨he, h1, h2⟩ => ⟨he, Or.inr (by rw [byteCells_snoc]; exact h1), h2⟩
theorem writeSK (B b : Nat) (l t : List UInt8) (w : World) (h : Lib.IsBuilder BT BytT B b (Lib.byteCells l) w) (hlen : l.length + t.length ≤ 140737488355328) (hBw : B ≤ w.heap.size) :
    Calls Tryz.prog 59 #[.pointer (some ⟨b, 0, none⟩), bstr t] w fun e w' => e = .returned (.tuple #[.int .i64 (t.length : Int), .nilIface]) ∧ (Lib.IsBuilder BT BytT B b (Lib.byteCells (l ++ t)) w' ∧ Below B w w' ∧ Stay w w') :=
  (writeStringK B b (Lib.byteCells l) ⟨t.toArray⟩ w h (by rw [byteCells_len]; exact hlen) hBw).mono fun e w' ⟨he, h1, h2⟩ => ⟨he, Or.inr (by rw [strCells_list, byteCells_app] at h1; exact h1), h2⟩
end Go.Proofs.YtbdmepidabnfkaaGreatDoor
