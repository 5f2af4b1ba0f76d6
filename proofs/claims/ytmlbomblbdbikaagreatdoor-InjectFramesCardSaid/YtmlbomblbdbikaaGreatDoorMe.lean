/-
  Parts of the proof, one behind the other: contracts of the program and plain laws; no condition of their own.
-/
import Derived.Test.YtmlbomblbdbikaaGreatDoorMb
import Derived.Deep.RegionHeld3
import Derived.Test.YtmlbomblbdbikaaGreatDoorMa
import Derived.Deep.MidRow
import Derived.Test.YtmlbomblbdbikaaGreatDoorMd
import Derived.Deep.RegionWith
import Derived.Test.YtmlbomblbdbikaaGreatDoorMc
/-
  A region that draws its order, whose operations only make memory: the loads are taken first as soon as their cells are known; what is known grows with the world.
-/
namespace Go.Proofs.YtmlbomblbdbikaaGreatDoor
set_option linter.unusedSimpArgs false
set_option linter.unusedVariables false
set_option linter.unusedSectionVars false
open Go.ChangeShapes Go.WideShapes Go.ChangeAt Go.RowKit Go.Deep

section
variable {P : Program} {ops : Array Oper} {Q : Exit → Act → World → Prop} {md : Region.Mode}
def Grown (w w' : World) : Prop := Below w.heap.size w w'
theorem Grown.cell {w w' : World} (h : Grown w w') (b o : Nat) (hb : b < w.heap.size) : w'.cell? ⟨b, o, none⟩ = w.cell? ⟨b, o, none⟩ := Below.cell (p := ⟨b, o, none⟩) h hb
theorem wpAnyH_mono {S S' : World → Prop} (hS : ∀ w, S' w → S w) : ∀ (fuel : Nat) (listed : Array Bool) (a : Act) (w : World), wpAnyH P md ops Q S' fuel listed a w → wpAnyH P md ops Q S fuel listed a w
  | 0, _, _, _, h => h
  | fuel + 1, listed, a, w, h => ⟨h.1, fun i hi => wpOp_mono (fun a' w' h' => ⟨hS _ h'.1, wpAnyH_mono hS fuel _ a' w' h'.2⟩) (h.2 i hi)⟩
theorem grown_start {id : Nat} {a : Act} {w : World} (hm : P.follows .mixedOrders = true)
    (h : wpAnyH P .any ops Q (Grown w.drew) ops.size (Array.replicate ops.size false) a w.drew) : (Code.region id ops true).wp P Q a w :=
  wp_region_held_drew hm (Below.refl _ _) (fun _ => h)
theorem grown_take (i : Nat) {oi : Oper} {v : Value} {fuel : Nat} {listed : Array Bool} {a : Act} {w : World} (hi : ops[i]? = some oi)
    (hs : Region.noSelect ops = true) (hf : Region.free md ops listed i = true) (hr : (Region.ready md ops listed).contains i = true)
    (hQ : ∀ c a w, Q (.panic c) (a.put oi.dst v) w → Q (.panic c) a w) (hy : YieldsIf P ops (Grown w) oi v a)
    (h : wpAnyH P md ops Q (Grown w) fuel (listed.setIfInBounds i true) (a.put oi.dst v) w) : wpAnyH P md ops Q (Grown w) (fuel + 1) listed a w :=
  wpAnyH_take hi hs hf hr hQ hy (Below.refl _ _) h
theorem grown_step (i : Nat) {o : Oper} {fuel : Nat} {listed : Array Bool} {a : Act} {w : World} (hr : Region.ready md ops listed = [i]) (ho : ops[i]? = some o)
    (h : ∀ K' : Act → World → Prop, Shut (∀ a' w', Grown w w' → wpAnyH P md ops Q (Grown w') fuel (listed.setIfInBounds i true) a' w' → K' a' w') → if Region.wanted o (yielded ops a.tmps) = true then Oper.wp P o a w K' Q else K' (a.put o.dst undef) w) :
    wpAnyH P md ops Q (Grown w) (fuel + 1) listed a w :=
  wpAnyH_ready hr (by simp) (AllReadyH.cons ho (fun K' hK => h K' (fun a' w' hg hw => hK.out a' w' hg (fun _ => wpAnyH_mono (fun w2 h2 => hg.trans (h2.mono (Below.size hg))) _ _ _ _ hw))) AllReadyH.nil)
theorem grown_undrew {w w' : World} (h : Below w.heap.size w w') : Below w.drew.heap.size w.drew w' := ⟨h.os, h.tape, h.output, h.size, h.block⟩
theorem grown_app (w : World) (j k : Junk) (x : Array Obj) (h : k.heap = j.heap ++ x) : Below (w.more j).heap.size (w.more j) (w.more k) := by
  have := Below.moreS (Below.refl (w.more j).heap.size (w.more j)) ⟨x, k.drawn⟩
  rw [World.more_more, ← h] at this
  exact this
theorem grown_merge (w : World) (j : Junk) (x : Array Obj) (d : Nat) : Below (w.more j).heap.size (w.more j) (w.more ⟨j.heap ++ x, d⟩) := grown_app w j _ x rfl
theorem grown_merge2 (w : World) (a b c : Array Obj) (d e : Nat) : Below (w.more ⟨a ++ b, d⟩).heap.size (w.more ⟨a ++ b, d⟩) (w.more ⟨a ++ (b ++ c), e⟩) := grown_app w _ _ c (by simp [Array.append_assoc])
theorem grown_merge3 (w : World) (a b c x : Array Obj) (d e : Nat) : Below (w.more ⟨a ++ (b ++ c), d⟩).heap.size (w.more ⟨a ++ (b ++ c), d⟩) (w.more ⟨a ++ (b ++ (c ++ x)), e⟩) := grown_app w _ _ x (by simp [Array.append_assoc])
theorem belm {B : Nat} {a w : World} (h : Below B a w := by repeat (first | (with_reducible exact Below.refl _ _) | (with_reducible exact grown_merge _ _ _ _) | (with_reducible exact grown_merge2 _ _ _ _ _ _) | (with_reducible exact grown_merge3 _ _ _ _ _ _ _) | (with_reducible refine Below.allocS ?_ _) | (with_reducible refine Below.moreS ?_ _) | (with_reducible refine Below.drew ?_))) : Below B a w := h
theorem belg {a w : World} (h : Below a.heap.size a w := by ((try (with_reducible refine grown_undrew ?_)); exact belm)) : Grown a w := h
end
end Go.Proofs.YtmlbomblbdbikaaGreatDoor
/-
  A region that draws its order, in which all below a fixed block number stays.
-/
namespace Go.Proofs.YtmlbomblbdbikaaGreatDoor
set_option linter.unusedSimpArgs false
set_option linter.unusedVariables false
set_option linter.unusedSectionVars false
open Go.ChangeShapes Go.WideShapes Go.ChangeAt Go.RowKit Go.Deep

section
variable {P : Program} {ops : Array Oper} {Q : Exit → Act → World → Prop} {md : Region.Mode} {B : Nat}
def Gb (B : Nat) (w w' : World) : Prop := Below B w w'
theorem Gb.cell {w w' : World} (h : Gb B w w') (b o : Nat) (hb : b < B) : w'.cell? ⟨b, o, none⟩ = w.cell? ⟨b, o, none⟩ := Below.cell (p := ⟨b, o, none⟩) h hb
theorem gb_mono {S S' : World → Prop} (hS : ∀ w, S' w → S w) : ∀ (fuel : Nat) (listed : Array Bool) (a : Act) (w : World), wpAnyH P md ops Q S' fuel listed a w → wpAnyH P md ops Q S fuel listed a w
  | 0, _, _, _, h => h
  | fuel + 1, listed, a, w, h => ⟨h.1, fun i hi => wpOp_mono (fun a' w' h' => ⟨hS _ h'.1, gb_mono hS fuel _ a' w' h'.2⟩) (h.2 i hi)⟩
theorem gb_start {id : Nat} {a : Act} {w : World} (B : Nat) (hm : P.follows .mixedOrders = true)
    (h : wpAnyH P .any ops Q (Gb B w.drew) ops.size (Array.replicate ops.size false) a w.drew) : (Code.region id ops true).wp P Q a w :=
  wp_region_held_drew hm (Below.refl _ _) (fun _ => h)
theorem gb_take (i : Nat) {oi : Oper} {v : Value} {fuel : Nat} {listed : Array Bool} {a : Act} {w : World} (hi : ops[i]? = some oi)
    (hs : Region.noSelect ops = true) (hf : Region.free md ops listed i = true) (hr : (Region.ready md ops listed).contains i = true)
    (hQ : ∀ c a w, Q (.panic c) (a.put oi.dst v) w → Q (.panic c) a w) (hy : YieldsIf P ops (Gb B w) oi v a)
    (h : wpAnyH P md ops Q (Gb B w) fuel (listed.setIfInBounds i true) (a.put oi.dst v) w) : wpAnyH P md ops Q (Gb B w) (fuel + 1) listed a w :=
  wpAnyH_take hi hs hf hr hQ hy (Below.refl _ _) h
theorem gb_step (i : Nat) {o : Oper} {fuel : Nat} {listed : Array Bool} {a : Act} {w : World} (hr : Region.ready md ops listed = [i]) (ho : ops[i]? = some o)
    (h : ∀ K' : Act → World → Prop, Shut (∀ a' w', Gb B w w' → wpAnyH P md ops Q (Gb B w') fuel (listed.setIfInBounds i true) a' w' → K' a' w') → if Region.wanted o (yielded ops a.tmps) = true then Oper.wp P o a w K' Q else K' (a.put o.dst undef) w) :
    wpAnyH P md ops Q (Gb B w) (fuel + 1) listed a w :=
  wpAnyH_ready hr (by simp) (AllReadyH.cons ho (fun K' hK => h K' (fun a' w' hg hw => hK.out a' w' hg (fun _ => gb_mono (fun w2 h2 => Below.trans hg h2) _ _ _ _ hw))) AllReadyH.nil)
theorem gb_one {i : Nat} {o : Oper} {fuel : Nat} {listed : Array Bool} {a : Act} {w : World} (ho : ops[i]? = some o)
    (h : ∀ K' : Act → World → Prop, Shut (∀ a' w', Gb B w w' → wpAnyH P md ops Q (Gb B w') fuel (listed.setIfInBounds i true) a' w' → K' a' w') → if Region.wanted o (yielded ops a.tmps) = true then Oper.wp P o a w K' Q else K' (a.put o.dst undef) w)
    {rs : List Nat} (hrs : AllReadyH P md ops Q (Gb B w) fuel listed a w rs) : AllReadyH P md ops Q (Gb B w) fuel listed a w (i :: rs) :=
  AllReadyH.cons ho (fun K' hK => h K' (fun a' w' hg hw => hK.out a' w' hg (fun _ => gb_mono (fun w2 h2 => Below.trans hg h2) _ _ _ _ hw))) hrs
theorem gb_two (i j : Nat) {o p : Oper} {fuel : Nat} {listed : Array Bool} {a : Act} {w : World} (hr : Region.ready md ops listed = [i, j]) (ho : ops[i]? = some o) (hp : ops[j]? = some p)
    (h : ∀ K' : Act → World → Prop, Shut (∀ a' w', Gb B w w' → wpAnyH P md ops Q (Gb B w') fuel (listed.setIfInBounds i true) a' w' → K' a' w') → if Region.wanted o (yielded ops a.tmps) = true then Oper.wp P o a w K' Q else K' (a.put o.dst undef) w)
    (h2 : ∀ K' : Act → World → Prop, Shut (∀ a' w', Gb B w w' → wpAnyH P md ops Q (Gb B w') fuel (listed.setIfInBounds j true) a' w' → K' a' w') → if Region.wanted p (yielded ops a.tmps) = true then Oper.wp P p a w K' Q else K' (a.put p.dst undef) w) :
    wpAnyH P md ops Q (Gb B w) (fuel + 1) listed a w :=
  wpAnyH_ready hr (by simp) (gb_one ho h (gb_one hp h2 AllReadyH.nil))
/-- A whole row, loaded early: it lies below what may change. -/
theorem gb_load (i : Nat) {oi : Oper} {fuel : Nat} {listed : Array Bool} {a : Act} {w : World} (hi : ops[i]? = some oi)
    (hs : Region.noSelect ops = true) (hf : Region.free md ops listed i = true) (hr : (Region.ready md ops listed).contains i = true)
    (ty : TypeId) (x : Operand) (cs : Array Value) (hQ : ∀ c a w, Q (.panic c) (a.put oi.dst (.agg cs)) w → Q (.panic c) a w) (hw : Region.wanted oi (yielded ops a.tmps) = true) (ho : oi.op = .load ty x) (b : Nat) (hx : a.eval x = .pointer (some ⟨b, 0, none⟩)) {t : TypeId} (hb : Blk w b t cs) (hbB : b < B) (d : TypeDesc)
    (hu : P.underlying ty = some d) (hd : d.isRow = true) (hsz : (P.info? ty).map (·.size) = some cs.size)
    (h : wpAnyH P md ops Q (Gb B w) fuel (listed.setIfInBounds i true) (a.put oi.dst (.agg cs)) w) : wpAnyH P md ops Q (Gb B w) (fuel + 1) listed a w :=
  gb_take i hi hs hf hr hQ (by
    have := yieldsIf_load_mid (P := P) (ops := ops) (S := Gb B w) (op := oi) (a := a) hw ty x ho b 0 hx cs.toList d (fun w' hw' j v hj => by
      rw [Nat.zero_add, Gb.cell hw' b j hbB, hb.cell j, ← Array.getElem?_toList]
      exact hj) hu hd (by simpa using hsz)
    simpa using this) h
theorem gb_undrew {w w' : World} (h : Below B w w') : Below B w.drew w' := ⟨h.os, h.tape, h.output, h.size, h.block⟩
theorem gbb {C B : Nat} {a w : World} (hB : C ≤ B) (h : Below B a w := by first | exact belm | (refine gb_undrew ?_; exact belm)) : Gb C a w := Below.mono h hB
end
end Go.Proofs.YtmlbomblbdbikaaGreatDoor
/-
  How a field is written outside of tables: the program's road.
-/
namespace Go.Proofs.YtmlbomblbdbikaaGreatDoor
set_option linter.unusedSimpArgs false
set_option linter.unusedVariables false
set_option linter.unusedSectionVars false
open Go.ChangeShapes Go.WideShapes Go.ChangeAt Go.RowKit Go.Deep

abbrev TbPT : TypeId := 148
set_option maxHeartbeats 4000000 in
set_option maxRecDepth 100000 in
theorem table_Len0 (b : Nat) (w : World) (h : Blk w b TbPT #[.slice none 0 0, .int .i64 0, .int .i64 0]) : Calls Tryz.prog 134 #[.pointer (some ⟨b, 0, none⟩)] w fun e w' => e = .returned (.int .i64 0) ∧ w = w' := by
  have hc : w.cell? ⟨b, 0, none⟩ = some (.slice none 0 0) := (h.cell 0).trans rfl
  clear h
  go_enter Tryz.func134, Tryz.ntmps134
  go_wp2_with fail
  go_ret
  exact ⟨rfl, rfl⟩
set_option maxHeartbeats 4000000 in
set_option maxRecDepth 100000 in
theorem table_Find0 (b : Nat) (n v : List UInt8) (w : World) (h : Blk w b TbPT #[.slice none 0 0, .int .i64 0, .int .i64 0]) : Calls Tryz.prog 132 #[.pointer (some ⟨b, 0, none⟩), bstr n, bstr v] w fun e w' => e = .returned (.tuple #[.int .i64 0, .bool false]) ∧ w = w' := by
  have HL := Lib.hid (table_Len0 b w h)
  clear h
  go_enter Tryz.func132, Tryz.ntmps132
  go_wp2_with fail
  refine wp_loop_rounds 1 ?_
  rw [rounds_succ]
  go_wp2_with (go_at_call 134; (with_reducible refine (HL.out).mono ?_); rintro e w' ⟨rfl, rfl⟩)
  go_ret2
  exact ⟨rfl, rfl⟩
set_option maxHeartbeats 4000000 in
set_option maxRecDepth 100000 in
theorem encoder_at (i : Int) (h : 1 ≤ i ∧ i ≤ 61) (w : World) : Calls Tryz.prog 133 #[.int .i64 i] w fun e w' => e = .returned (bstr (nmF i)) ∧ ∃ j, w' = w.more j := by
  have HA : Hid (∀ W, Calls Tryz.prog 137 #[.int .i64 i] W fun e w' => e = .returned (.tuple #[.agg #[bstr (nmF i), bstr (svlF i), .bool false], .bool true]) ∧ ∃ j, w' = W.more j) := static_At i h
  generalize nmF i = N at HA ⊢
  generalize svlF i = V at HA
  clear h
  go_enter Tryz.func133, Tryz.ntmps133
  go_wp2_with (go_at_call 137; (with_reducible refine (HA.out _).mono ?_); rintro e w' ⟨rfl, j, rfl⟩)
  go_ret
  exact ⟨rfl, Below.junk bel⟩
set_option maxHeartbeats 4000000 in
set_option maxRecDepth 100000 in
theorem encoder_kind0 (n v : List UInt8) (w : World) : Calls Tryz.prog 118 #[.agg #[bstr n, bstr v, .bool false], .agg #[.int .i64 2, .bool false, .bool false, .bool false]] w fun e w' => e = .returned (.int .i64 3) ∧ ∃ j, w' = w.more j := by
  go_enter Tryz.func118, Tryz.ntmps118
  go_wp2_with fail
  go_ret
  exact ⟨rfl, Below.junk bel⟩
set_option maxHeartbeats 4000000 in
set_option maxRecDepth 100000 in
theorem encoder_place0 (b : Nat) (n v : List UInt8) (w : World) (h : Blk w b TbPT #[.slice none 0 0, .int .i64 0, .int .i64 0]) : Calls Tryz.prog 117 #[.pointer (some ⟨b, 0, none⟩), .agg #[bstr n, bstr v, .bool false]] w fun e w' => (∃ x y, e = .returned (.tuple #[.int .i64 x, .bool y])) ∧ ∃ j, w' = w.more j := by
  have HF : Hid (∀ W, Calls Tryz.prog 131 #[bstr n, bstr v] W fun e w' => e = .returned (.tuple #[.int .i64 (fndS n v).1, .bool (fndS n v).2]) ∧ ∃ j, w' = W.more j) := static_Find n v
  have HT : Hid (∀ W, Below w.heap.size w W → Calls Tryz.prog 132 #[.pointer (some ⟨b, 0, none⟩), bstr n, bstr v] W fun e w' => e = .returned (.tuple #[.int .i64 0, .bool false]) ∧ W = w') := fun W hW => table_Find0 b n v W (h.below hW h.lt)
  generalize (fndS n v).1 = i at HF
  generalize (fndS n v).2 = is at HF
  clear h
  go_enter Tryz.func117, Tryz.ntmps117
  go_wp2_with (first | (go_at_call 131; (with_reducible refine (HF.out _).mono ?_); rintro e w' ⟨rfl, j, rfl⟩) | (go_at_call 132; (with_reducible refine (HT.out _ bel).mono ?_); rintro e w' ⟨rfl, rfl⟩))
  all_goals
    go_ret2
    exact ⟨⟨_, _, rfl⟩, Below.junk bel⟩
theorem below_two {B : Nat} {w x y : World} (h1 : Below B w x) (h2 : Below B w y) (hs : x.heap.size ≤ y.heap.size) : Below B x y :=
  ⟨h2.os.trans h1.os.symm, h2.tape.trans h1.tape.symm, h2.output.trans h1.output.symm, hs, fun k hk => (h2.block k hk).trans (h1.block k hk).symm⟩
theorem blk_rowE {w : World} {g : Nat} {t : TypeId} {old : Array Value} (h : Blk w g t old) (cs : Array Value) : Blk (w.setRow g cs) g t cs := by
  unfold Blk at h ⊢
  simp [World.setRow, Array.getElem?_modify, h]
theorem below_rowE {B : Nat} {a w : World} (h : Below B a w) {g : Nat} (hg : B ≤ g) (cs : Array Value) : Below B a (w.setRow g cs) :=
  ⟨h.os, h.tape, h.output, Nat.le_trans h.size (by simp [World.setRow]), fun k hk => by
    have : (w.setRow g cs).heap[k]? = w.heap[k]? := by simp only [World.setRow, Array.getElem?_modify]; rw [if_neg (by omega)]
    rw [this]; exact h.block k hk⟩
theorem re_one (k i : Int) (n v : List UInt8) : (#[.int .i64 k, .int .i64 i, bstr n, .bool false, bstr v, .bool false, .int .i64 0] : Array Value).all (·.oneCell') = true := by simp [Value.oneCell']
/-- The least place of a name is found at once. -/
def NmOne (n : List UInt8) (i : Int) : Prop := (fndS n []).1 = i ∧ (i = 0 ∨ 2 ≤ i ∧ i ≤ 61 ∧ nmF (i - 1) ≠ n)
set_option maxHeartbeats 4000000 in
set_option maxRecDepth 100000 in
theorem encoder_name0 (b : Nat) (n : List UInt8) (i : Int) (hi : NmOne n i) (w : World) (h : Blk w b TbPT #[.slice none 0 0, .int .i64 0, .int .i64 0]) : Calls Tryz.prog 119 #[.pointer (some ⟨b, 0, none⟩), bstr n] w fun e w' => e = .returned (.int .i64 i) ∧ ∃ j, w' = w.more j := by
  have HF : Hid (∀ W, Calls Tryz.prog 131 #[bstr n, .string { data := #[] }] W fun e w' => e = .returned (.tuple #[.int .i64 (fndS n []).1, .bool (fndS n []).2]) ∧ ∃ j, w' = W.more j) := static_Find n []
  have HL : Hid (∀ W, Below w.heap.size w W → Calls Tryz.prog 134 #[.pointer (some ⟨b, 0, none⟩)] W fun e w' => e = .returned (.int .i64 0) ∧ W = w') := fun W hW => table_Len0 b W (h.below hW h.lt)
  rw [hi.1] at HF
  generalize (fndS n []).2 = is at HF
  rcases hi.2 with rfl | ⟨h2, h61, hne⟩
  · clear h hi
    go_enter Tryz.func119, Tryz.ntmps119
    go_wp2_with (go_at_call 131; (with_reducible refine (HF.out _).mono ?_); rintro e w' ⟨rfl, j, rfl⟩)
    refine wp_loop_rounds 1 ?_
    rw [rounds_succ]
    go_wp2_with (go_at_call 134; (with_reducible refine (HL.out _ bel).mono ?_); rintro e w' ⟨rfl, rfl⟩)
    go_ret
    exact ⟨rfl, Below.junk bel⟩
  · have HA : Hid (∀ W, Calls Tryz.prog 133 #[.int .i64 (i - 1)] W fun e w' => e = .returned (bstr (nmF (i - 1))) ∧ ∃ j, w' = W.more j) := encoder_at (i - 1) ⟨by omega, by omega⟩
    have e1 : (nmF (i - 1) == n) = false := by simpa using hne
    generalize nmF (i - 1) = M at HA e1
    have d1 : decide (0 < i) = true := decide_eq_true (by omega)
    have d2 : decide (1 < i) = true := decide_eq_true (by omega)
    have w1 : IntKind.i64.wrap (i - 1) = i - 1 := IntWalk.i64_in _ (by omega)
    clear h hi hne h2 h61
    go_enter Tryz.func119, Tryz.ntmps119
    go_wp2_with (go_at_call 131; (with_reducible refine (HF.out _).mono ?_); rintro e w' ⟨rfl, j, rfl⟩)
    refine wp_loop_rounds 1 ?_
    rw [rounds_succ]
    go_wp2_with (go_at_call 133; (with_reducible refine (HA.out _).mono ?_); rintro e w' ⟨rfl, j, rfl⟩)
    go_ret
    exact ⟨rfl, Below.junk bel⟩
theorem st_Re1 : StructTy Tryz.prog 102 7 := ⟨_, Tryz.underlying102, rfl, by kernel_rfl⟩
set_option maxHeartbeats 8000000 in
set_option maxRecDepth 100000 in
theorem encoder_one0 (b : Nat) (n v : List UInt8) (i : Int) (hi : NmOne n i) (w : World) (h : Blk w b TbPT #[.slice none 0 0, .int .i64 0, .int .i64 0]) : Calls Tryz.prog 96 #[.pointer (some ⟨b, 0, none⟩), .agg #[bstr n, bstr v, .bool false], .agg #[.int .i64 2, .bool false, .bool false, .bool false]] w fun e w' => e = .returned (.agg (reC i (if i = 0 then n else []) v)) ∧ ∃ j, w' = w.more j := by
  have HP : Hid (∀ W, Below w.heap.size w W → Calls Tryz.prog 117 #[.pointer (some ⟨b, 0, none⟩), .agg #[bstr n, bstr v, .bool false]] W fun e w' => (∃ x y, e = .returned (.tuple #[.int .i64 x, .bool y])) ∧ ∃ j, w' = W.more j) := fun W hW => encoder_place0 b n v W (h.below hW h.lt)
  have HN : Hid (∀ W, Below w.heap.size w W → Calls Tryz.prog 119 #[.pointer (some ⟨b, 0, none⟩), bstr n] W fun e w' => e = .returned (.int .i64 i) ∧ ∃ j, w' = W.more j) := fun W hW => encoder_name0 b n i hi W (h.below hW h.lt)
  have HK : Hid (∀ W, Calls Tryz.prog 118 #[.agg #[bstr n, bstr v, .bool false], .agg #[.int .i64 2, .bool false, .bool false, .bool false]] W fun e w' => e = .returned (.int .i64 3) ∧ ∃ j, w' = W.more j) := encoder_kind0 n v
  clear h hi
  cases e1 : (i == 0)
  · have n1 : ¬ i = 0 := by simpa using e1
    rw [if_neg n1]
    go_enter Tryz.func96, Tryz.ntmps96
    go_wp2_with (first | (go_at_call 117; (with_reducible refine (HP.out _ bel).mono ?_); rintro e w' ⟨⟨x, y, rfl⟩, j, rfl⟩))
    all_goals
      refine wnm fun w1 hw1 => ?_
      have HB1 : Hid (Below w.heap.size w w1) := by show Below _ _ _; rw [hw1]; exact bel
      have HX1 : Hid (Blk w1 w.heap.size 65 #[bstr n, bstr v, .bool false]) := by show Blk _ _ _ _; rw [hw1]; exact blk
      have HY1 : Hid (Blk w1 (w.heap.size + 1) 123 #[.int .i64 2, .bool false, .bool false, .bool false]) := by show Blk _ _ _ _; rw [hw1]; exact blk
      have HZ1 : Hid (Blk w1 (w.heap.size + 1 + 1) 102 #[.int .i64 0, .int .i64 0, .string { data := #[] }, .bool false, .string { data := #[] }, .bool false, .int .i64 0]) := by show Blk _ _ _ _; rw [hw1]; exact blk
      clear hw1
      refine gb_start w1.heap.size (by kernel_rfl) ?_
      obtain ⟨w2, hw2⟩ : ∃ w2, w2 = w1.drew := ⟨_, rfl⟩
      rw [← hw2]
      have HB2 : Hid (Below w.heap.size w w2) := by show Below _ _ _; rw [hw2]; exact Below.drew HB1.out
      have HX2 : Hid (Blk w2 w.heap.size 65 #[bstr n, bstr v, .bool false]) := by show Blk _ _ _ _; rw [hw2]; exact HX1.out
      have HY2 : Hid (Blk w2 (w.heap.size + 1) 123 #[.int .i64 2, .bool false, .bool false, .bool false]) := by show Blk _ _ _ _; rw [hw2]; exact HY1.out
      have HZ2 : Hid (Blk w2 (w.heap.size + 1 + 1) 102 #[.int .i64 0, .int .i64 0, .string { data := #[] }, .bool false, .string { data := #[] }, .bool false, .int .i64 0]) := by show Blk _ _ _ _; rw [hw2]; exact HZ1.out
      have hs2 : w2.heap.size = w1.heap.size := by rw [hw2]; rfl
      rw [← hs2]
      have x1 : w2.cell? ⟨w.heap.size, 1, none⟩ = some (bstr v) := HX2.out.cell 1
      have x0 : w2.cell? ⟨w.heap.size, 0, none⟩ = some (bstr n) := HX2.out.cell 0
      have y1 : w2.cell? ⟨w.heap.size + 1, 1, none⟩ = some (.bool false) := HY2.out.cell 1
      have y2 : w2.cell? ⟨w.heap.size + 1, 2, none⟩ = some (.bool false) := HY2.out.cell 2
      have y3 : w2.cell? ⟨w.heap.size + 1, 3, none⟩ = some (.bool false) := HY2.out.cell 3
      have zx : w.heap.size < w2.heap.size := HX2.out.lt
      have zy : w.heap.size + 1 < w2.heap.size := HY2.out.lt
      have zz : w.heap.size + 1 + 1 < w2.heap.size := HZ2.out.lt
      clear hw2 hs2 HX1 HY1 HZ1 HB1
      refine gb_load 0 rfl (by kernel_rfl) (by kernel_rfl) (by kernel_rfl) 65 _ _ (fun _ _ _ h => h) (by first | kernel_rfl | rfl) rfl _ rfl HX2.out zx _ Tryz.underlying65 rfl (by kernel_rfl) ?_
      try simp only [Act.put, nfa, nfb, nfc, nfd, List.set_cons_zero, List.set_cons_succ]
      refine gb_load 1 rfl (by kernel_rfl) (by kernel_rfl) (by kernel_rfl) 123 _ _ (fun _ _ _ h => h) (by first | kernel_rfl | rfl) rfl _ rfl HY2.out zy _ Tryz.underlying123 rfl (by kernel_rfl) ?_
      try simp only [Act.put, nfa, nfb, nfc, nfd, List.set_cons_zero, List.set_cons_succ]
      refine tk 3 ?_
      refine tk 4 ?_
      refine tk 5 ?_
      refine tk 6 ?_
      refine tk 7 ?_
      refine gb_two 2 9 (by kernel_rfl) rfl rfl (fun K hK => ?_) (fun K hK => ?_)
      · go_simp
        go_wp2_with fail
        refine (HK.out _).mono ?_
        rintro e w' ⟨rfl, j, rfl⟩
        go_wp2_with fail
        refine hK.out _ _ (show Below _ _ _ from bel) ?_
        clear hK K
        try simp only [Act.put, nfa, nfb, nfc, nfd, List.set_cons_zero, List.set_cons_succ]
        refine tk 8 ?_
        refine gb_step 9 (by kernel_rfl) rfl (fun K hK => ?_)
        go_simp
        go_wp2_with fail
        refine hK.out _ _ (show Below _ _ _ from Below.mono (B := (w2.more j).heap.size) bel (by simp)) ?_
        clear hK K
        try simp only [Act.put, nfa, nfb, nfc, nfd, List.set_cons_zero, List.set_cons_succ]
        refine gb_step 10 (by kernel_rfl) rfl (fun K hK => ?_)
        go_simp
        go_wp2_with fail
        refine hK.out _ _ (show Below _ _ _ from below_two (w := w2) bel bel (by simp)) ?_
        clear hK K
        try simp only [Act.put, nfa, nfb, nfc, nfd, List.set_cons_zero, List.set_cons_succ]
        refine wpAnyH_done (by kernel_rfl) ?_ _
        go_wp2_with (first | (go_at_call 119; (with_reducible refine (HN.out _ (HB2.out.trans (Below.mono (B := w2.heap.size) bel (by omega)))).mono ?_); rintro e w' ⟨rfl, j, rfl⟩) | (refine wpList_store_row rfl 102 _ _ rfl (w.heap.size + 1 + 1) _ rfl rfl 102 _ (HZ2.out.below bel zz) (by kernel_rfl) rfl (re_one _ _ _ _) ?_))
        refine bodyPost_ret (res_cell rfl st_Re1 rfl (blk_rowE (HZ2.out.below bel zz) _) rfl) rfl ⟨rfl, Below.junk (below_rowE (HB2.out.trans (Below.mono (B := w2.heap.size) bel (by omega))) (by omega) _)⟩
      · go_simp
        go_wp2_with fail
        refine hK.out _ _ (show Below _ _ _ from bel) ?_
        clear hK K
        try simp only [Act.put, nfa, nfb, nfc, nfd, List.set_cons_zero, List.set_cons_succ]
        refine gb_step 2 (by kernel_rfl) rfl (fun K hK => ?_)
        go_simp
        go_wp2_with fail
        refine (HK.out _).mono ?_
        rintro e w' ⟨rfl, j, rfl⟩
        go_wp2_with fail
        refine hK.out _ _ (show Below _ _ _ from below_two (w := w2) bel bel (by simp)) ?_
        clear hK K
        try simp only [Act.put, nfa, nfb, nfc, nfd, List.set_cons_zero, List.set_cons_succ]
        refine tk 8 ?_
        refine gb_step 10 (by kernel_rfl) rfl (fun K hK => ?_)
        go_simp
        go_wp2_with fail
        refine hK.out _ _ (show Below _ _ _ from below_two (w := w2) bel bel (by simp)) ?_
        clear hK K
        try simp only [Act.put, nfa, nfb, nfc, nfd, List.set_cons_zero, List.set_cons_succ]
        refine wpAnyH_done (by kernel_rfl) ?_ _
        go_wp2_with (first | (go_at_call 119; (with_reducible refine (HN.out _ (HB2.out.trans (Below.mono (B := w2.heap.size) bel (by omega)))).mono ?_); rintro e w' ⟨rfl, j, rfl⟩) | (refine wpList_store_row rfl 102 _ _ rfl (w.heap.size + 1 + 1) _ rfl rfl 102 _ (HZ2.out.below bel zz) (by kernel_rfl) rfl (re_one _ _ _ _) ?_))
        refine bodyPost_ret (res_cell rfl st_Re1 rfl (blk_rowE (HZ2.out.below bel zz) _) rfl) rfl ⟨rfl, Below.junk (below_rowE (HB2.out.trans (Below.mono (B := w2.heap.size) bel (by omega))) (by omega) _)⟩
  · have n1 : i = 0 := by simpa using e1
    rw [if_pos n1]
    subst n1
    go_enter Tryz.func96, Tryz.ntmps96
    go_wp2_with (first | (go_at_call 117; (with_reducible refine (HP.out _ bel).mono ?_); rintro e w' ⟨⟨x, y, rfl⟩, j, rfl⟩))
    all_goals
      refine wnm fun w1 hw1 => ?_
      have HB1 : Hid (Below w.heap.size w w1) := by show Below _ _ _; rw [hw1]; exact bel
      have HX1 : Hid (Blk w1 w.heap.size 65 #[bstr n, bstr v, .bool false]) := by show Blk _ _ _ _; rw [hw1]; exact blk
      have HY1 : Hid (Blk w1 (w.heap.size + 1) 123 #[.int .i64 2, .bool false, .bool false, .bool false]) := by show Blk _ _ _ _; rw [hw1]; exact blk
      have HZ1 : Hid (Blk w1 (w.heap.size + 1 + 1) 102 #[.int .i64 0, .int .i64 0, .string { data := #[] }, .bool false, .string { data := #[] }, .bool false, .int .i64 0]) := by show Blk _ _ _ _; rw [hw1]; exact blk
      clear hw1
      refine gb_start w1.heap.size (by kernel_rfl) ?_
      obtain ⟨w2, hw2⟩ : ∃ w2, w2 = w1.drew := ⟨_, rfl⟩
      rw [← hw2]
      have HB2 : Hid (Below w.heap.size w w2) := by show Below _ _ _; rw [hw2]; exact Below.drew HB1.out
      have HX2 : Hid (Blk w2 w.heap.size 65 #[bstr n, bstr v, .bool false]) := by show Blk _ _ _ _; rw [hw2]; exact HX1.out
      have HY2 : Hid (Blk w2 (w.heap.size + 1) 123 #[.int .i64 2, .bool false, .bool false, .bool false]) := by show Blk _ _ _ _; rw [hw2]; exact HY1.out
      have HZ2 : Hid (Blk w2 (w.heap.size + 1 + 1) 102 #[.int .i64 0, .int .i64 0, .string { data := #[] }, .bool false, .string { data := #[] }, .bool false, .int .i64 0]) := by show Blk _ _ _ _; rw [hw2]; exact HZ1.out
      have hs2 : w2.heap.size = w1.heap.size := by rw [hw2]; rfl
      rw [← hs2]
      have x1 : w2.cell? ⟨w.heap.size, 1, none⟩ = some (bstr v) := HX2.out.cell 1
      have x0 : w2.cell? ⟨w.heap.size, 0, none⟩ = some (bstr n) := HX2.out.cell 0
      have y1 : w2.cell? ⟨w.heap.size + 1, 1, none⟩ = some (.bool false) := HY2.out.cell 1
      have y2 : w2.cell? ⟨w.heap.size + 1, 2, none⟩ = some (.bool false) := HY2.out.cell 2
      have y3 : w2.cell? ⟨w.heap.size + 1, 3, none⟩ = some (.bool false) := HY2.out.cell 3
      have zx : w.heap.size < w2.heap.size := HX2.out.lt
      have zy : w.heap.size + 1 < w2.heap.size := HY2.out.lt
      have zz : w.heap.size + 1 + 1 < w2.heap.size := HZ2.out.lt
      clear hw2 hs2 HX1 HY1 HZ1 HB1
      refine gb_load 0 rfl (by kernel_rfl) (by kernel_rfl) (by kernel_rfl) 65 _ _ (fun _ _ _ h => h) (by first | kernel_rfl | rfl) rfl _ rfl HX2.out zx _ Tryz.underlying65 rfl (by kernel_rfl) ?_
      try simp only [Act.put, nfa, nfb, nfc, nfd, List.set_cons_zero, List.set_cons_succ]
      refine gb_load 1 rfl (by kernel_rfl) (by kernel_rfl) (by kernel_rfl) 123 _ _ (fun _ _ _ h => h) (by first | kernel_rfl | rfl) rfl _ rfl HY2.out zy _ Tryz.underlying123 rfl (by kernel_rfl) ?_
      try simp only [Act.put, nfa, nfb, nfc, nfd, List.set_cons_zero, List.set_cons_succ]
      refine tk 3 ?_
      refine tk 4 ?_
      refine tk 5 ?_
      refine tk 6 ?_
      refine tk 7 ?_
      refine gb_two 2 9 (by kernel_rfl) rfl rfl (fun K hK => ?_) (fun K hK => ?_)
      · go_simp
        go_wp2_with fail
        refine (HK.out _).mono ?_
        rintro e w' ⟨rfl, j, rfl⟩
        go_wp2_with fail
        refine hK.out _ _ (show Below _ _ _ from bel) ?_
        clear hK K
        try simp only [Act.put, nfa, nfb, nfc, nfd, List.set_cons_zero, List.set_cons_succ]
        refine tk 8 ?_
        refine gb_step 9 (by kernel_rfl) rfl (fun K hK => ?_)
        go_simp
        go_wp2_with fail
        refine hK.out _ _ (show Below _ _ _ from Below.mono (B := (w2.more j).heap.size) bel (by simp)) ?_
        clear hK K
        try simp only [Act.put, nfa, nfb, nfc, nfd, List.set_cons_zero, List.set_cons_succ]
        refine gb_step 10 (by kernel_rfl) rfl (fun K hK => ?_)
        go_simp
        go_wp2_with fail
        refine hK.out _ _ (show Below _ _ _ from below_two (w := w2) bel bel (by simp)) ?_
        clear hK K
        try simp only [Act.put, nfa, nfb, nfc, nfd, List.set_cons_zero, List.set_cons_succ]
        refine wpAnyH_done (by kernel_rfl) ?_ _
        go_wp2_with (first | (go_at_call 119; (with_reducible refine (HN.out _ (HB2.out.trans (Below.mono (B := w2.heap.size) bel (by omega)))).mono ?_); rintro e w' ⟨rfl, j, rfl⟩) | (refine wpList_store_row rfl 102 _ _ rfl (w.heap.size + 1 + 1) _ rfl rfl 102 _ (HZ2.out.below bel zz) (by kernel_rfl) rfl (re_one _ _ _ _) ?_))
        refine bodyPost_ret (res_cell rfl st_Re1 rfl (blk_rowE (HZ2.out.below bel zz) _) rfl) rfl ⟨rfl, Below.junk (below_rowE (HB2.out.trans (Below.mono (B := w2.heap.size) bel (by omega))) (by omega) _)⟩
      · go_simp
        go_wp2_with fail
        refine hK.out _ _ (show Below _ _ _ from bel) ?_
        clear hK K
        try simp only [Act.put, nfa, nfb, nfc, nfd, List.set_cons_zero, List.set_cons_succ]
        refine gb_step 2 (by kernel_rfl) rfl (fun K hK => ?_)
        go_simp
        go_wp2_with fail
        refine (HK.out _).mono ?_
        rintro e w' ⟨rfl, j, rfl⟩
        go_wp2_with fail
        refine hK.out _ _ (show Below _ _ _ from below_two (w := w2) bel bel (by simp)) ?_
        clear hK K
        try simp only [Act.put, nfa, nfb, nfc, nfd, List.set_cons_zero, List.set_cons_succ]
        refine tk 8 ?_
        refine gb_step 10 (by kernel_rfl) rfl (fun K hK => ?_)
        go_simp
        go_wp2_with fail
        refine hK.out _ _ (show Below _ _ _ from below_two (w := w2) bel bel (by simp)) ?_
        clear hK K
        try simp only [Act.put, nfa, nfb, nfc, nfd, List.set_cons_zero, List.set_cons_succ]
        refine wpAnyH_done (by kernel_rfl) ?_ _
        go_wp2_with (first | (go_at_call 119; (with_reducible refine (HN.out _ (HB2.out.trans (Below.mono (B := w2.heap.size) bel (by omega)))).mono ?_); rintro e w' ⟨rfl, j, rfl⟩) | (refine wpList_store_row rfl 102 _ _ rfl (w.heap.size + 1 + 1) _ rfl rfl 102 _ (HZ2.out.below bel zz) (by kernel_rfl) rfl (re_one _ _ _ _) ?_))
        refine bodyPost_ret (res_cell rfl st_Re1 rfl (blk_rowE (HZ2.out.below bel zz) _) rfl) rfl ⟨rfl, Below.junk (below_rowE (HB2.out.trans (Below.mono (B := w2.heap.size) bel (by omega))) (by omega) _)⟩
end Go.Proofs.YtmlbomblbdbikaaGreatDoor
/-
  How a field stands in a block: the global table of its forms, both roads' beginnings.
-/
namespace Go.Proofs.YtmlbomblbdbikaaGreatDoor
set_option linter.unusedSimpArgs false
set_option linter.unusedVariables false
set_option linter.unusedSectionVars false
open Go.ChangeShapes Go.WideShapes Go.ChangeAt Go.RowKit Go.Deep

def rffC (k : Nat) : Int := [0, 0, 128, 7, 64, 6, 0, 4, 16, 4, 32, 5].getD k 0
def GF (w : World) : Prop := ∀ k, k < 12 → w.cell? ⟨1, k, none⟩ = some (.int .i64 (rffC k))
theorem GF.below {w w' : World} (h : GF w) (hb : Below w.heap.size w w') : GF w' :=
  fun k hk => (hb.cell (p := ⟨1, k, none⟩) (cell_lt (h 0 (by omega)))).trans (h k hk)
theorem GF.more {w : World} (h : GF w) (j : Junk) : GF (w.more j) := h.below (Below.moreS (Below.refl w.heap.size w) j)
theorem repr_texts (k : Int) (hk : 1 ≤ k ∧ k ≤ 5) (w : World) : Calls Tryz.prog 70 #[.int .i64 k] w fun e w' => e = .returned (.bool (decide (k ≠ 1 ∧ k ≠ 5))) ∧ w' = w := by
  obtain rfl | rfl | rfl | rfl | rfl : k = 1 ∨ k = 2 ∨ k = 3 ∨ k = 4 ∨ k = 5 := by omega
  all_goals
    go_enter Tryz.func70, Tryz.ntmps70
    go_wp2_with fail
    go_ret
    exact ⟨rfl, rfl⟩
def kfirst (k : Int) : Int := if k = 1 then 128 else if k = 2 then 64 else if k = 5 then 32 else if k = 4 then 16 else 0
theorem ref22_begin (k : Int) (hk : 1 ≤ k ∧ k ≤ 5) (w : World) : Calls Tryz.prog 42 #[.int .i64 k] w fun e w' => e = .returned (.tuple #[.int .i64 (kfirst k), .int .i64 (kbits k)]) ∧ w' = w := by
  obtain rfl | rfl | rfl | rfl | rfl : k = 1 ∨ k = 2 ∨ k = 3 ∨ k = 4 ∨ k = 5 := by omega
  all_goals
    go_enter Tryz.func42, Tryz.ntmps42
    go_wp2_with fail
    go_ret2
    exact ⟨rfl, rfl⟩
end Go.Proofs.YtmlbomblbdbikaaGreatDoor
/-
  How a field stands in a block, written: the program's road.
-/
namespace Go.Proofs.YtmlbomblbdbikaaGreatDoor
set_option linter.unusedSimpArgs false
set_option linter.unusedVariables false
set_option linter.unusedSectionVars false
open Go.ChangeShapes Go.WideShapes Go.ChangeAt Go.RowKit Go.Deep Go.Shelf

set_option maxHeartbeats 8000000 in
set_option maxRecDepth 100000 in
theorem repr_Right3 (i : Int) (n v : List UInt8) (hi : 0 ≤ i ∧ i ≤ 2147483647) (hin : i = 0 ∨ n = []) (w : World) : Calls Tryz.prog 68 #[.agg (reC i n v)] w fun e w' => e = .returned (.bool true) ∧ ∃ j, w' = w.more j := by
  have HW : Hid (∀ (m : Int), 0 ≤ m ∧ m ≤ 2147483647 → ∀ W, Calls Tryz.prog 89 #[.int .i64 m] W fun e w' => e = .returned (.bool true) ∧ W = w') := by
    intro m hm W
    have d1 : decide (0 ≤ m) = true := decide_eq_true (by omega)
    have d2 : decide (m ≤ 2147483647) = true := decide_eq_true (by omega)
    clear hm
    go_enter Tryz.func89, Tryz.ntmps89
    go_wp2_with fail
    go_ret
    exact ⟨rfl, rfl⟩
  have HW1 := Lib.hid (HW.out i hi)
  have HW0 := Lib.hid (HW.out 0 (by omega))
  have HB := Lib.hid hi
  clear hi HW
  rcases hin with rfl | rfl
  · clear HW1
    go_enter Tryz.func68, Tryz.ntmps68
    go_wp2_with (go_at_call 89; (with_reducible refine (HW0.out _).mono ?_); rintro e w' ⟨rfl, rfl⟩)
    go_ret
    exact ⟨rfl, Below.junk bel⟩
  · go_enter Tryz.func68, Tryz.ntmps68
    go_wp2_with (first | (go_at_call 89; (with_reducible refine (HW1.out _).mono ?_); rintro e w' ⟨rfl, rfl⟩) | (go_at_call 89; (with_reducible refine (HW0.out _).mono ?_); rintro e w' ⟨rfl, rfl⟩))
    all_goals
      go_ret
      exact ⟨rfl, Below.junk bel⟩
set_option maxHeartbeats 8000000 in
set_option maxRecDepth 100000 in
theorem repr_Right5 (z : Int) (hz : 0 ≤ z ∧ z ≤ 2147483647) (w : World) : Calls Tryz.prog 68 #[.agg #[.int .i64 5, .int .i64 0, bstr [], .bool false, bstr [], .bool false, .int .i64 z]] w fun e w' => e = .returned (.bool true) ∧ ∃ j, w' = w.more j := by
  have HW : Hid (∀ (m : Int), 0 ≤ m ∧ m ≤ 2147483647 → ∀ W, Calls Tryz.prog 89 #[.int .i64 m] W fun e w' => e = .returned (.bool true) ∧ W = w') := by
    intro m hm W
    have d1 : decide (0 ≤ m) = true := decide_eq_true (by omega)
    have d2 : decide (m ≤ 2147483647) = true := decide_eq_true (by omega)
    clear hm
    go_enter Tryz.func89, Tryz.ntmps89
    go_wp2_with fail
    go_ret
    exact ⟨rfl, rfl⟩
  have HW1 := Lib.hid (HW.out z hz)
  have HW0 := Lib.hid (HW.out 0 (by omega))
  clear hz HW
  go_enter Tryz.func68, Tryz.ntmps68
  go_wp2_with (first | (go_at_call 89; (with_reducible refine (HW1.out _).mono ?_); rintro e w' ⟨rfl, rfl⟩) | (go_at_call 89; (with_reducible refine (HW0.out _).mono ?_); rintro e w' ⟨rfl, rfl⟩))
  all_goals
    go_ret
    exact ⟨rfl, Below.junk bel⟩
/-- The bytes of a field whose value, and maybe whose name, stand there. -/
def repW (i : Nat) (n v : List UInt8) : List UInt8 := putL 0 4 i ++ (if i = 0 then litW n else []) ++ litW v
set_option maxHeartbeats 8000000 in
set_option maxRecDepth 100000 in
theorem repr_Put5 (z : Nat) (hz : z ≤ 2147483647) (w : World) (hG : GF w) : Calls Tryz.prog 52 #[.agg #[.int .i64 5, .int .i64 0, bstr [], .bool false, bstr [], .bool false, .int .i64 (z : Int)]] w (RowP (putL 32 5 z) w) := by
  have HR : Hid (∀ W, Calls Tryz.prog 68 #[.agg #[.int .i64 5, .int .i64 0, bstr [], .bool false, bstr [], .bool false, .int .i64 (z : Int)]] W fun e w' => e = .returned (.bool true) ∧ ∃ j, w' = W.more j) := repr_Right5 z (by omega)
  have HP : Hid (∀ W, Calls Tryz.prog 69 #[.int .i64 32, .int .i64 5, .int .i64 (z : Int)] W (RowP (putL 32 5 z) W)) := prefix_Put 32 5 z (.inr (.inr ⟨rfl, rfl⟩)) hz
  have HT : Hid (∀ W, Calls Tryz.prog 70 #[.int .i64 5] W fun e w' => e = .returned (.bool false) ∧ W = w') := fun W => (repr_texts 5 (by omega) W).mono fun _ _ h => ⟨h.1, h.2.symm⟩
  generalize putL 32 5 z = L at HP ⊢
  have HG := Lib.hid hG
  clear hz hG
  unfold RowP
  go_enter Tryz.func52, Tryz.ntmps52
  go_wp2_with (go_at_call 68; (with_reducible refine (HR.out _).mono ?_); rintro e w' ⟨rfl, j, rfl⟩)
  refine wnm fun w1 hw1 => ?_
  have HB1 : Hid (Below w.heap.size w w1) := by show Below _ _ _; rw [hw1]; exact bel
  have HX1 : Hid (Blk w1 w.heap.size 102 #[.int .i64 5, .int .i64 0, .string { data := #[] }, .bool false, .string { data := #[] }, .bool false, .int .i64 (z : Int)]) := by show Blk _ _ _ _; rw [hw1]; exact blk
  have x0 : w1.cell? ⟨w.heap.size, 0, none⟩ = some (.int .i64 5) := HX1.out.cell 0
  have g0 : w1.cell? ⟨1, 10, none⟩ = some (.int .i64 32) := (HG.out.below HB1.out) 10 (by omega)
  have g1 : w1.cell? ⟨1, 11, none⟩ = some (.int .i64 5) := (HG.out.below HB1.out) 11 (by omega)
  have hz1 := HB1.out.size
  clear hw1 HX1
  refine gb_start w1.heap.size (by kernel_rfl) ?_
  obtain ⟨w2, hw2⟩ : ∃ w2, w2 = w1.drew := ⟨_, rfl⟩
  rw [← hw2]
  have HB2 : Hid (Below w.heap.size w w2) := by show Below _ _ _; rw [hw2]; exact Below.drew HB1.out
  have y0 : w2.cell? ⟨w.heap.size, 0, none⟩ = some (.int .i64 5) := by rw [hw2]; exact x0
  have h0 : w2.cell? ⟨1, 10, none⟩ = some (.int .i64 32) := by rw [hw2]; exact g0
  have h1 : w2.cell? ⟨1, 11, none⟩ = some (.int .i64 5) := by rw [hw2]; exact g1
  have hs2 : w2.heap.size = w1.heap.size := by rw [hw2]; rfl
  rw [← hs2]
  have zx : w.heap.size < w2.heap.size := cell_lt y0
  have zg : 1 < w2.heap.size := by have := cell_lt (HG.out 0 (by omega)); omega
  clear hw2 hs2 x0 g0 g1 HB1 hz1
  refine tk 0 ?_
  refine tk 1 ?_
  refine tk 2 ?_
  refine tk 3 ?_
  refine tk 4 ?_
  refine tk 5 ?_
  refine tk 6 ?_
  refine tk 7 ?_
  refine tk 8 ?_
  refine tk 9 ?_
  refine tk 10 ?_
  refine gb_step 11 (by kernel_rfl) rfl (fun K hK => ?_)
  go_simp
  go_wp2_with fail
  refine (HP.out _).mono ?_
  rintro e w3 ⟨v3, rfl, ho3, hb3⟩
  have HO3 := Lib.hid ho3
  have HB3 := Lib.hid hb3
  have hz3 := hb3.size
  have x3 := (hb3.cell (p := ⟨w.heap.size, 0, none⟩) zx).trans y0
  clear hb3 ho3
  go_wp2_with fail
  refine hK.out _ _ (show Below _ _ _ from HB3.out) ?_
  clear hK K
  try simp only [Act.put, nfa, nfb, nfc, nfd, List.set_cons_zero, List.set_cons_succ]
  refine tk 12 ?_
  refine tk 13 ?_
  refine tk 14 ?_
  refine tk 15 ?_
  refine tk 16 ?_
  refine wpAnyH_done (by kernel_rfl) ?_ _
  go_wp2_with (go_at_call 70; (with_reducible refine (HT.out _).mono ?_); rintro e w' ⟨rfl, rfl⟩)
  go_ret2
  exact ⟨_, rfl, ownB_low HO3.out (by omega), HB2.out.trans (Below.mono HB3.out (by omega))⟩
set_option maxHeartbeats 16000000 in
set_option maxRecDepth 100000 in
theorem repr_Put3 (i : Nat) (n v : List UInt8) (hi : i ≤ 2147483647) (hin : i = 0 ∨ n = []) (hn : n.length ≤ 100000) (hv : v.length ≤ 100000) (w : World) (hG : GF w) : Calls Tryz.prog 52 #[.agg (reC (i : Int) n v)] w (RowP (repW i n v) w) := by
  have HR : Hid (∀ W, Calls Tryz.prog 68 #[.agg (reC (i : Int) n v)] W fun e w' => e = .returned (.bool true) ∧ ∃ j, w' = W.more j) := repr_Right3 i n v (by omega) (hin.imp (fun h => by omega) id)
  have HP : Hid (∀ W, Calls Tryz.prog 69 #[.int .i64 0, .int .i64 4, .int .i64 (i : Int)] W (RowP (putL 0 4 i) W)) := prefix_Put 0 4 i (.inr (.inl ⟨rfl, rfl⟩)) hi
  have HT : Hid (∀ W, Calls Tryz.prog 70 #[.int .i64 3] W fun e w' => e = .returned (.bool true) ∧ W = w') := fun W => (repr_texts 3 (by omega) W).mono fun _ _ h => ⟨h.1, h.2.symm⟩
  have HLN : Hid (∀ W, Calls Tryz.prog 71 #[bstr n, .bool false] W (RowQ (litW n) W)) := strlit_Put n hn
  have HLV : Hid (∀ W, Calls Tryz.prog 71 #[bstr v, .bool false] W (RowQ (litW v) W)) := strlit_Put v hv
  obtain ⟨R, hR⟩ : ∃ R, R = repW i n v := ⟨_, rfl⟩
  have HRR : Hid (R = putL 0 4 i ++ (if i = 0 then litW n else []) ++ litW v) := hR
  rw [← hR]
  have HL1 := Lib.hid (putL_len 0 4 i)
  have HL2 : Hid ((litW n).length ≤ 100006) := by have := putL_len 0 7 n.length; show _ ≤ _; simp only [litW, List.length_append]; omega
  have HL3 : Hid ((litW v).length ≤ 100006) := by have := putL_len 0 7 v.length; show _ ≤ _; simp only [litW, List.length_append]; omega
  generalize putL 0 4 i = L at HP HRR HL1
  generalize litW n = LN at HLN HRR HL2
  generalize litW v = LV at HLV HRR HL3
  have HG := Lib.hid hG
  clear hR hG hn hv hin
  unfold RowP
  have e1 : ((i : Int) == 0) = (i == 0) := by
    by_cases h : i = 0
    · subst h; rfl
    · have h' : ¬ (i : Int) = 0 := by omega
      rw [beq_eq_false_iff_ne.2 h, beq_eq_false_iff_ne.2 h']
  have HI0 : Hid ((i == 0) = true → i = 0) := fun h => by simpa using h
  have HI1 : Hid ((i == 0) = false → ¬ i = 0) := fun h => by simpa using h
  clear hi
  go_enter Tryz.func52, Tryz.ntmps52
  go_wp2_with (go_at_call 68; (with_reducible refine (HR.out _).mono ?_); rintro e w' ⟨rfl, j, rfl⟩)
  refine wnm fun w1 hw1 => ?_
  have HB1 : Hid (Below w.heap.size w w1) := by show Below _ _ _; rw [hw1]; exact bel
  have HX1 : Hid (Blk w1 w.heap.size 102 (reC (i : Int) n v)) := by show Blk _ _ _ _; rw [hw1]; exact blk
  clear hw1
  refine gb_start w1.heap.size (by kernel_rfl) ?_
  obtain ⟨w2, hw2⟩ : ∃ w2, w2 = w1.drew := ⟨_, rfl⟩
  rw [← hw2]
  have HB2 : Hid (Below w.heap.size w w2) := by show Below _ _ _; rw [hw2]; exact Below.drew HB1.out
  have HX2 : Hid (Blk w2 w.heap.size 102 (reC (i : Int) n v)) := by show Blk _ _ _ _; rw [hw2]; exact HX1.out
  have hs2 : w2.heap.size = w1.heap.size := by rw [hw2]; rfl
  rw [← hs2]
  have y0 : w2.cell? ⟨w.heap.size, 0, none⟩ = some (.int .i64 3) := HX2.out.cell 0
  have h0 : w2.cell? ⟨1, 6, none⟩ = some (.int .i64 0) := (HG.out.below HB2.out) 6 (by omega)
  have h1 : w2.cell? ⟨1, 7, none⟩ = some (.int .i64 4) := (HG.out.below HB2.out) 7 (by omega)
  have zx : w.heap.size < w2.heap.size := cell_lt y0
  have zg : 1 < w2.heap.size := by have := cell_lt (HG.out 0 (by omega)); omega
  clear hw2 hs2 HB1 HX1
  refine tk 0 ?_
  refine tk 1 ?_
  refine tk 2 ?_
  refine tk 3 ?_
  refine tk 4 ?_
  refine tk 5 ?_
  refine tk 6 ?_
  refine tk 7 ?_
  refine tk 8 ?_
  refine tk 9 ?_
  refine tk 10 ?_
  refine gb_step 11 (by kernel_rfl) rfl (fun K hK => ?_)
  go_simp
  go_wp2_with fail
  refine (HP.out _).mono ?_
  rintro e w3 ⟨v3, rfl, ho3, hb3⟩
  have HO3 := Lib.hid ho3
  have HB3 := Lib.hid hb3
  have hz3 := hb3.size
  have HX3 := Lib.hid (HX2.out.below hb3 zx)
  clear hb3 ho3
  go_wp2_with fail
  refine hK.out _ _ (show Below _ _ _ from HB3.out) ?_
  clear hK K
  try simp only [Act.put, nfa, nfb, nfc, nfd, List.set_cons_zero, List.set_cons_succ]
  refine tk 12 ?_
  refine tk 13 ?_
  refine tk 14 ?_
  refine tk 15 ?_
  refine tk 16 ?_
  refine wpAnyH_done (by kernel_rfl) ?_ _
  clear y0 h0 h1
  have x30 : w3.cell? ⟨w.heap.size, 0, none⟩ = some (.int .i64 3) := HX3.out.cell 0
  have x31 : w3.cell? ⟨w.heap.size, 1, none⟩ = some (.int .i64 (i : Int)) := HX3.out.cell 1
  have x32 : w3.cell? ⟨w.heap.size, 2, none⟩ = some (bstr n) := HX3.out.cell 2
  have x33 : w3.cell? ⟨w.heap.size, 3, none⟩ = some (.bool false) := HX3.out.cell 3
  have x34 : w3.cell? ⟨w.heap.size, 4, none⟩ = some (bstr v) := HX3.out.cell 4
  have x35 : w3.cell? ⟨w.heap.size, 5, none⟩ = some (.bool false) := HX3.out.cell 5
  cases e2 : (i == 0)
  · rw [e2] at e1
    have HRR2 : Hid (R = L ++ LV) := by show _ = _; rw [HRR.out, if_neg (HI1.out e2), List.append_nil]
    clear e2 HI0 HI1 HRR
    go_wp2_with (first | (go_at_call 70; (with_reducible refine (HT.out _).mono ?_); rintro e w' ⟨rfl, rfl⟩) | (go_at_call 71; (with_reducible refine (HLV.out _).mono ?_); rintro e w4 ⟨v4, rfl, ho4, hb4⟩; obtain ⟨a4, c4, rfl, hs4⟩ := ho4.read; have HS4 := Lib.hid hs4; have HB4 := Lib.hid hb4; clear hb4 ho4 hs4) | (at_builtin; refine app_bytes (.tmp 54) (.tmp 61) rfl rfl rfl (HO3.out.below HB4.out (Nat.le_refl _)) rfl rfl HS4.out (by have := HL1.out; have := HL3.out; omega) (by have := HB4.out.size; omega) ?_; intro v' w5 hown hbw hgw))
    go_ret2
    exact ⟨_, rfl, by rw [HRR2.out]; exact ownB_low hown (by omega), HB2.out.trans ((Below.mono HB3.out (by omega)).trans ((Below.mono HB4.out (by omega)).trans (Below.mono hbw (by omega))))⟩
  · rw [e2] at e1
    have HRR2 : Hid (R = (L ++ LN) ++ LV) := by show _ = _; rw [HRR.out, if_pos (HI0.out e2)]
    clear e2 HI0 HI1 HRR
    go_wp2_with (first | (go_at_call 70; (with_reducible refine (HT.out _).mono ?_); rintro e w' ⟨rfl, rfl⟩) | (go_at_call 71; (with_reducible refine (HLN.out _).mono ?_); rintro e w4 ⟨v4, rfl, ho4, hb4⟩; obtain ⟨a4, c4, rfl, hs4⟩ := ho4.read; have HS4 := Lib.hid hs4; have HB4 := Lib.hid hb4; clear hb4 ho4 hs4) | (at_builtin; refine app_bytes (.tmp 45) (.tmp 52) rfl rfl rfl (HO3.out.below HB4.out (Nat.le_refl _)) rfl rfl HS4.out (by have := HL1.out; have := HL2.out; omega) (by have := HB4.out.size; omega) ?_; intro v5 w5 hown5 hbw5 hgw5; have HO5 := Lib.hid hown5; have HB5 : Hid (Below w2.heap.size w3 w5) := (Below.mono HB4.out hz3).trans hbw5; have hz5 := HB5.out.size; have x54 := (HX3.out.below HB5.out zx).cell 4; have x55 := (HX3.out.below HB5.out zx).cell 5; clear hown5 hbw5 hgw5))
    go_wp2_with (first | (go_at_call 71; (with_reducible refine (HLV.out _).mono ?_); rintro e w6 ⟨v6, rfl, ho6, hb6⟩; obtain ⟨a6, c6, rfl, hs6⟩ := ho6.read; have HS6 := Lib.hid hs6; have HB6 := Lib.hid hb6; clear hb6 ho6 hs6) | (at_builtin; refine app_bytes (.tmp 54) (.tmp 61) rfl rfl rfl (HO5.out.below HB6.out (Nat.le_refl _)) rfl rfl HS6.out (by have := HL1.out; have := HL2.out; have := HL3.out; simp only [List.length_append]; omega) (by have := HB6.out.size; omega) ?_; intro v' w7 hown hbw hgw))
    go_ret2
    exact ⟨_, rfl, by rw [HRR2.out]; exact ownB_low hown (by omega), HB2.out.trans ((Below.mono HB3.out (by omega)).trans ((Below.mono HB5.out (by omega)).trans ((Below.mono HB6.out (by omega)).trans (Below.mono hbw (by omega)))))⟩
end Go.Proofs.YtmlbomblbdbikaaGreatDoor
/-
  How a field stands in a block, written: the document's road.
-/
namespace Go.Proofs.YtmlbomblbdbikaaGreatDoor
set_option linter.unusedSimpArgs false
set_option linter.unusedVariables false
set_option linter.unusedSectionVars false
open Go.ChangeShapes Go.WideShapes Go.ChangeAt Go.RowKit Go.Deep Go.Shelf

set_option maxHeartbeats 16000000 in
set_option maxRecDepth 100000 in
theorem ref22_Put5 (z : Nat) (hz : z ≤ 2147483647) (w : World) : Calls Tryz.prog 23 #[.agg #[.int .i64 5, .int .i64 0, bstr [], .bool false, bstr [], .bool false, .int .i64 (z : Int)]] w (RowQ (putL 32 5 z) w) := by
  have HP : Hid (∀ W, Calls Tryz.prog 43 #[.int .i64 32, .int .i64 5, .int .i64 (z : Int)] W (RowP (putL 32 5 z) W)) := ref18_Put 32 5 z (.inr (.inr ⟨rfl, rfl⟩)) hz
  have HT : Hid (∀ W, Calls Tryz.prog 42 #[.int .i64 5] W fun e w' => e = .returned (.tuple #[.int .i64 32, .int .i64 5]) ∧ W = w') := fun W => (ref22_begin 5 (by omega) W).mono fun _ _ h => ⟨h.1, h.2.symm⟩
  generalize putL 32 5 z = L at HP ⊢
  have wz : IntKind.i64.wrap (z : Int) = (z : Int) := IntWalk.i64_in _ (by omega)
  clear hz
  unfold RowQ
  go_enter Tryz.func23, Tryz.ntmps23
  go_wp2_with (first | (go_at_call 42; (with_reducible refine (HT.out _).mono ?_); rintro e w' ⟨rfl, rfl⟩) | (go_at_call 43; (with_reducible refine (HP.out _).mono ?_); rintro e w3 ⟨v3, rfl, ho3, hb3⟩; have HO3 := Lib.hid ho3; have HB3 := Lib.hid hb3; have hz3 := hb3.size; have x3 := hb3.cell (p := ⟨w.heap.size, 0, none⟩) (by simp); clear hb3 ho3))
  go_ret
  exact ⟨_, rfl, ownB_low HO3.out (by simp), (show Below w.heap.size w _ from bel).trans (Below.mono HB3.out (by simp))⟩
set_option maxHeartbeats 16000000 in
set_option maxRecDepth 100000 in
theorem ref22_Put3 (i : Nat) (n v : List UInt8) (hi : i ≤ 2147483647) (hn : n.length ≤ 100000) (hv : v.length ≤ 100000) (w : World) : Calls Tryz.prog 23 #[.agg (reC (i : Int) n v)] w (RowQ (repW i n v) w) := by
  have HP : Hid (∀ W, Calls Tryz.prog 43 #[.int .i64 0, .int .i64 4, .int .i64 (i : Int)] W (RowP (putL 0 4 i) W)) := ref18_Put 0 4 i (.inr (.inl ⟨rfl, rfl⟩)) hi
  have HT : Hid (∀ W, Calls Tryz.prog 42 #[.int .i64 3] W fun e w' => e = .returned (.tuple #[.int .i64 0, .int .i64 4]) ∧ W = w') := fun W => (ref22_begin 3 (by omega) W).mono fun _ _ h => ⟨h.1, h.2.symm⟩
  have HLN : Hid (∀ W, Calls Tryz.prog 44 #[bstr n, .bool false] W (RowQ (litW n) W)) := ref19_Put n hn
  have HLV : Hid (∀ W, Calls Tryz.prog 44 #[bstr v, .bool false] W (RowQ (litW v) W)) := ref19_Put v hv
  obtain ⟨R, hR⟩ : ∃ R, R = repW i n v := ⟨_, rfl⟩
  have HRR : Hid (R = putL 0 4 i ++ (if i = 0 then litW n else []) ++ litW v) := hR
  rw [← hR]
  have HL1 := Lib.hid (putL_len 0 4 i)
  have HL2 : Hid ((litW n).length ≤ 100006) := by have := putL_len 0 7 n.length; show _ ≤ _; simp only [litW, List.length_append]; omega
  have HL3 : Hid ((litW v).length ≤ 100006) := by have := putL_len 0 7 v.length; show _ ≤ _; simp only [litW, List.length_append]; omega
  generalize putL 0 4 i = L at HP HRR HL1
  generalize litW n = LN at HLN HRR HL2
  generalize litW v = LV at HLV HRR HL3
  have wi : IntKind.i64.wrap (i : Int) = (i : Int) := IntWalk.i64_in _ (by omega)
  clear hR hn hv
  unfold RowQ
  have e1 : ((i : Int) == 0) = (i == 0) := by
    by_cases h : i = 0
    · subst h; rfl
    · have h' : ¬ (i : Int) = 0 := by omega
      rw [beq_eq_false_iff_ne.2 h, beq_eq_false_iff_ne.2 h']
  have HI0 : Hid ((i == 0) = true → i = 0) := fun h => by simpa using h
  have HI1 : Hid ((i == 0) = false → ¬ i = 0) := fun h => by simpa using h
  clear hi
  go_enter Tryz.func23, Tryz.ntmps23
  cases e2 : (i == 0)
  · rw [e2] at e1
    have HRR2 : Hid (R = L ++ LV) := by show _ = _; rw [HRR.out, if_neg (HI1.out e2), List.append_nil]
    clear e2 HI0 HI1 HRR
    go_wp2_with (first | (go_at_call 42; (with_reducible refine (HT.out _).mono ?_); rintro e w' ⟨rfl, rfl⟩) | (go_at_call 43; (with_reducible refine (HP.out _).mono ?_); rintro e w3 ⟨v3, rfl, ho3, hb3⟩; have HO3 := Lib.hid ho3; have HB3 : Hid (Below w.heap.size w w3) := (show Below w.heap.size w _ from bel).trans (Below.mono hb3 (by simp)); have hz3 : w.heap.size + 1 ≤ w3.heap.size := (by have := hb3.size; simp at this; omega); have HX3 := Lib.hid ((show Blk (w.alloc (.cells #[.int .i64 3, .int .i64 (i : Int), bstr n, .bool false, bstr v, .bool false, .int .i64 0] 62)) w.heap.size 62 (reC (i : Int) n v) from Blk.new _ _ _).below hb3 (by simp)); clear hb3 ho3; have x30 : w3.cell? ⟨w.heap.size, 0, none⟩ = some (.int .i64 3) := HX3.out.cell 0; have x31 : w3.cell? ⟨w.heap.size, 1, none⟩ = some (.int .i64 (i : Int)) := HX3.out.cell 1; have x32 : w3.cell? ⟨w.heap.size, 2, none⟩ = some (bstr n) := HX3.out.cell 2; have x33 : w3.cell? ⟨w.heap.size, 3, none⟩ = some (.bool false) := HX3.out.cell 3; have x34 : w3.cell? ⟨w.heap.size, 4, none⟩ = some (bstr v) := HX3.out.cell 4; have x35 : w3.cell? ⟨w.heap.size, 5, none⟩ = some (.bool false) := HX3.out.cell 5) | (go_at_call 44; (with_reducible refine (HLV.out _).mono ?_); rintro e w4 ⟨v4, rfl, ho4, hb4⟩; obtain ⟨a4, c4, rfl, hs4⟩ := ho4.read; have HS4 := Lib.hid hs4; have HB4 := Lib.hid hb4; clear hb4 ho4 hs4) | (at_builtin; refine app_bytes (.tmp 43) (.tmp 48) rfl rfl rfl (HO3.out.below HB4.out (Nat.le_refl _)) rfl rfl HS4.out (by have := HL1.out; have := HL3.out; omega) (by have := HB4.out.size; simp only [World.size_alloc]; omega) ?_; intro v' w5 hown hbw hgw))
    go_ret
    exact ⟨_, rfl, by rw [HRR2.out]; exact ownB_low hown (by simp), HB3.out.trans ((Below.mono HB4.out (by omega)).trans (Below.mono hbw (by simp)))⟩
  · rw [e2] at e1
    have HRR2 : Hid (R = (L ++ LN) ++ LV) := by show _ = _; rw [HRR.out, if_pos (HI0.out e2)]
    clear e2 HI0 HI1 HRR
    go_wp2_with (first | (go_at_call 42; (with_reducible refine (HT.out _).mono ?_); rintro e w' ⟨rfl, rfl⟩) | (go_at_call 43; (with_reducible refine (HP.out _).mono ?_); rintro e w3 ⟨v3, rfl, ho3, hb3⟩; have HO3 := Lib.hid ho3; have HB3 : Hid (Below w.heap.size w w3) := (show Below w.heap.size w _ from bel).trans (Below.mono hb3 (by simp)); have hz3 : w.heap.size + 1 ≤ w3.heap.size := (by have := hb3.size; simp at this; omega); have HX3 := Lib.hid ((show Blk (w.alloc (.cells #[.int .i64 3, .int .i64 (i : Int), bstr n, .bool false, bstr v, .bool false, .int .i64 0] 62)) w.heap.size 62 (reC (i : Int) n v) from Blk.new _ _ _).below hb3 (by simp)); clear hb3 ho3; have x30 : w3.cell? ⟨w.heap.size, 0, none⟩ = some (.int .i64 3) := HX3.out.cell 0; have x31 : w3.cell? ⟨w.heap.size, 1, none⟩ = some (.int .i64 (i : Int)) := HX3.out.cell 1; have x32 : w3.cell? ⟨w.heap.size, 2, none⟩ = some (bstr n) := HX3.out.cell 2; have x33 : w3.cell? ⟨w.heap.size, 3, none⟩ = some (.bool false) := HX3.out.cell 3; have x34 : w3.cell? ⟨w.heap.size, 4, none⟩ = some (bstr v) := HX3.out.cell 4; have x35 : w3.cell? ⟨w.heap.size, 5, none⟩ = some (.bool false) := HX3.out.cell 5) | (go_at_call 44; (with_reducible refine (HLN.out _).mono ?_); rintro e w4 ⟨v4, rfl, ho4, hb4⟩; obtain ⟨a4, c4, rfl, hs4⟩ := ho4.read; have HS4 := Lib.hid hs4; have HB4 := Lib.hid hb4; clear hb4 ho4 hs4) | (at_builtin; refine app_bytes (.tmp 36) (.tmp 41) rfl rfl rfl (HO3.out.below HB4.out (Nat.le_refl _)) rfl rfl HS4.out (by have := HL1.out; have := HL2.out; omega) (by have := HB4.out.size; simp only [World.size_alloc]; omega) ?_; intro v5 w5 hown5 hbw5 hgw5; have HO5 := Lib.hid hown5; have HB5 : Hid (Below (w.heap.size + 1) w3 w5) := (Below.mono HB4.out hz3).trans (by simpa using hbw5); have hz5 := HB5.out.size; have x54 : w5.cell? ⟨w.heap.size, 4, none⟩ = some (bstr v) := (HX3.out.below HB5.out (by omega)).cell 4; have x55 : w5.cell? ⟨w.heap.size, 5, none⟩ = some (.bool false) := (HX3.out.below HB5.out (by omega)).cell 5; clear hown5 hbw5 hgw5))
    go_wp2_with (first | (go_at_call 44; (with_reducible refine (HLV.out _).mono ?_); rintro e w6 ⟨v6, rfl, ho6, hb6⟩; obtain ⟨a6, c6, rfl, hs6⟩ := ho6.read; have HS6 := Lib.hid hs6; have HB6 := Lib.hid hb6; clear hb6 ho6 hs6) | (at_builtin; refine app_bytes (.tmp 43) (.tmp 48) rfl rfl rfl (HO5.out.below HB6.out (Nat.le_refl _)) rfl rfl HS6.out (by have := HL1.out; have := HL2.out; have := HL3.out; simp only [List.length_append]; omega) (by have := HB6.out.size; simp only [World.size_alloc]; omega) ?_; intro v' w7 hown hbw hgw))
    go_ret
    exact ⟨_, rfl, by rw [HRR2.out]; exact ownB_low hown (by simp), HB3.out.trans ((Below.mono HB5.out (by omega)).trans ((Below.mono HB6.out (by omega)).trans (Below.mono hbw (by simp))))⟩
end Go.Proofs.YtmlbomblbdbikaaGreatDoor
