/-
  Parts of the proof, one behind the other: contracts of the program and plain laws; no condition of their own.
-/
import Derived.Test.YtjhhdgmhocpceaaGreatDoorMc
import Derived.Test.YtjhhdgmhocpceaaGreatDoorDig2
import Derived.Test.YtjhhdgmhocpceaaGreatDoorRec1
import Derived.Laws.StructEq
import Derived.Test.YtjhhdgmhocpceaaGreatDoorMa
import Derived.OrdersHeld
import Derived.Deep.RegionHeld3
import Derived.Deep.MidRow
import Derived.Laws.Tables
import Derived.Test.YtjhhdgmhocpceaaGreatDoorBase
import Derived.Laws.BitsAllLaws
import Derived.Laws.BitsLemmas
/-
  Numbers as digits: a text's value, the document's.
-/
namespace Go.Proofs.YtjhhdgmhocpceaaGreatDoor
set_option linter.unusedSimpArgs false
set_option linter.unusedVariables false
set_option linter.unusedSectionVars false
open Go.ChangeShapes Go.WideShapes Go.ChangeAt Go.RowKit Go.Deep Go.Shelf

def vlE (s : List UInt8) : Option Int → Int × Bool
  | some n => (n, !s.isEmpty)
  | none => (0, false)
end Go.Proofs.YtjhhdgmhocpceaaGreatDoor
/-
  Numbers as digits: a text read as a number, the document's road.
-/
namespace Go.Proofs.YtjhhdgmhocpceaaGreatDoor
set_option linter.unusedSimpArgs false
set_option linter.unusedVariables false
set_option linter.unusedSectionVars false
open Go.ChangeShapes Go.WideShapes Go.ChangeAt Go.RowKit Go.Deep Go.Shelf

theorem ref03_Text (n : Int) (h0 : -9223372036854775808 ≤ n) (h1 : n ≤ 9223372036854775807) (w : World) : RefText n w := by
  rcases Int.lt_or_le n 0 with h | h
  · obtain ⟨m, rfl⟩ : ∃ m : Nat, n = -(m : Int) := ⟨n.natAbs, by omega⟩
    exact text_neg m m (Nat.le_refl _) (by omega) (by omega) w
  · obtain ⟨m, rfl⟩ : ∃ m : Nat, n = (m : Int) := ⟨n.toNat, by omega⟩
    exact text_pos m m (Nat.le_refl _) (by omega) w
theorem readR_long {s : List UInt8} (h : 20 < (s.length : Int)) : readR s = (0, false) := by unfold readR; rw [if_pos (.inl h)]
theorem head45 (c : UInt8) (r : List UInt8) : ((c :: r).head?.map (· == 45) = some true) ↔ ((c.toNat : Int) == 45) = true := by
  simp only [List.head?_cons, Option.map_some, Option.some.injEq, beq_iff_eq, ← UInt8.toNat_inj]
  show c.toNat = 45 ↔ _
  omega
theorem readR_minus {c : UInt8} {r : List UInt8} (h : ¬ 20 < ((c :: r).length : Int)) (hc : ((c.toNat : Int) == 45) = true) :
    readR (c :: r) = if (vlF r).2 = true ∧ Lib.itoa (vlF r).1 = c :: r then ((vlF r).1, true) else (0, false) := by
  unfold readR
  rw [if_neg (by simp only [reduceCtorEq, or_false]; exact h), if_pos ((head45 c r).2 hc)]
  rfl
theorem readR_plus {c : UInt8} {r : List UInt8} (h : ¬ 20 < ((c :: r).length : Int)) (hc : ((c.toNat : Int) == 45) = false) :
    readR (c :: r) = if (vlF (c :: r)).1 = -9223372036854775808 then (0, false) else if (vlF (c :: r)).2 = true ∧ Lib.itoa (-(vlF (c :: r)).1) = c :: r then (-(vlF (c :: r)).1, true) else (0, false) := by
  unfold readR
  rw [if_neg (by simp only [reduceCtorEq, or_false]; exact h), if_neg (fun e => by rw [(head45 c r).1 e] at hc; cases hc)]

end Go.Proofs.YtjhhdgmhocpceaaGreatDoor
/-
  Records: names of sides, kinds and types, both roads.
-/
namespace Go.Proofs.YtjhhdgmhocpceaaGreatDoor
set_option linter.unusedSimpArgs false
set_option linter.unusedVariables false
set_option linter.unusedSectionVars false
open Go.ChangeShapes Go.WideShapes Go.ChangeAt Go.RowKit Go.Deep Go.Shelf

def EnvP (w : World) : Prop := Lib.TabIs Tryz.prog w "internal/strconv.uint64pow10" .u64 Lib.pow10Tab
set_option maxRecDepth 100000 in
theorem head_within (n m : Int) (w : World) : Calls Tryz.prog 77 #[.int .i64 n, .int .i64 m] w fun e w' => e = .returned (.bool (inB n m)) ∧ w = w' := by
  by_cases h0 : 0 ≤ n <;> by_cases h1 : n ≤ m
  all_goals
    go_enter Tryz.func77, Tryz.ntmps77
    go_wp2_with fail
    go_ret
    exact ⟨by simp [inB, h0, h1], rfl⟩
set_option maxRecDepth 100000 in
theorem head_Right (ln ty fl st : Int) (rs : Bool) (w : World) : Calls Tryz.prog 46 #[.agg #[.int .i64 ln, .int .i64 ty, .int .i64 fl, .int .i64 st, .bool rs]] w fun e w' => e = .returned (.bool (headR ln ty fl st)) ∧ ∃ j, w' = w.more j := by
  have H1 : Hid (∀ W, Calls Tryz.prog 77 #[.int .i64 ln, .int .i64 16777215] W fun e w' => e = .returned (.bool (inB ln 16777215)) ∧ W = w') := head_within ln 16777215
  have H2 : Hid (∀ W, Calls Tryz.prog 77 #[.int .i64 ty, .int .i64 255] W fun e w' => e = .returned (.bool (inB ty 255)) ∧ W = w') := head_within ty 255
  have H3 : Hid (∀ W, Calls Tryz.prog 77 #[.int .i64 fl, .int .i64 255] W fun e w' => e = .returned (.bool (inB fl 255)) ∧ W = w') := head_within fl 255
  have H4 : Hid (∀ W, Calls Tryz.prog 77 #[.int .i64 st, .int .i64 2147483647] W fun e w' => e = .returned (.bool (inB st 2147483647)) ∧ W = w') := head_within st 2147483647
  unfold headR
  generalize inB ln 16777215 = b1 at H1 ⊢
  generalize inB ty 255 = b2 at H2 ⊢
  generalize inB fl 255 = b3 at H3 ⊢
  generalize inB st 2147483647 = b4 at H4 ⊢
  cases b1 <;> cases b2 <;> cases b3
  all_goals
    go_enter Tryz.func46, Tryz.ntmps46
    go_wp2_with (first
      | (go_at_call 77; (with_reducible refine (H1.out _).mono ?_); rintro e w' ⟨rfl, rfl⟩)
      | (go_at_call 77; (with_reducible refine (H2.out _).mono ?_); rintro e w' ⟨rfl, rfl⟩)
      | (go_at_call 77; (with_reducible refine (H3.out _).mono ?_); rintro e w' ⟨rfl, rfl⟩)
      | (go_at_call 77; (with_reducible refine (H4.out _).mono ?_); rintro e w' ⟨rfl, rfl⟩))
    go_ret
    exact ⟨rfl, Below.junk bel⟩

def NamesPost (n : Nat) (f : Nat → List UInt8) (w : World) (e : Ending) (w' : World) : Prop := ∃ g, e = .returned (.slice (some ⟨g, 0, none⟩) n n) ∧ (∀ k, k < n → w'.cell? ⟨g, k, none⟩ = some (bstr (f k))) ∧ g < w'.heap.size ∧ Below w.heap.size w w'
theorem names_post {n : Nat} {f : Nat → List UInt8} {w : World} {t : TypeId} {cs : Array Value} (h : ∀ k, k < n → cs[k]? = some (bstr (f k))) : NamesPost n f w (.returned (.slice (some ⟨w.heap.size, 0, none⟩) n n)) (w.alloc (.cells cs t)) :=
  ⟨_, rfl, fun k hk => (Blk.new w t cs).cell k |>.trans (h k hk), by simp, (Below.refl _ _).alloc (Nat.le_refl _) _⟩
def sideN (k : Nat) : List UInt8 := [[99, 108, 105, 101, 110, 116], [115, 101, 114, 118, 101, 114]].getD k []
def kindN (k : Nat) : List UInt8 := [[97, 108, 108, 111, 119, 101, 100], [105, 103, 110, 111, 114, 101, 100], [114, 101, 106, 101, 99, 116, 101, 100], [108, 105, 109, 105, 116, 101, 100]].getD k []
theorem scan_step (f : Int → List UInt8) (s : List UInt8) (g : Nat) (t : Int) : scanF f s (g + 1) t = if f t = s then (t, true) else scanF f s g (t + 1) := rfl
end Go.Proofs.YtjhhdgmhocpceaaGreatDoor
/-
  Short words for regions that draw their order: an operation that only reads is taken, the frame in its plain form.
-/
namespace Go.Proofs.YtjhhdgmhocpceaaGreatDoor
set_option linter.unusedSimpArgs false
set_option linter.unusedVariables false
set_option linter.unusedSectionVars false
open Go.ChangeShapes Go.WideShapes Go.ChangeAt Go.RowKit Go.Deep

section
variable {P : Program} {ops : Array Oper} {Q : Exit → Act → World → Prop} {md : Region.Mode} {S : World → Prop} {oi : Oper} {v : Value} {fuel : Nat} {listed l' : Array Bool} {a a' : Act} {w : World}
/-- The world gets a name. -/
theorem wnm {c : Code} (h : ∀ wz, wz = w → Code.wp P c Q a wz) : Code.wp P c Q a w := h w rfl
theorem nfa {α : Type} {l : List α} {i : Nat} (h : i < l.toArray.size) : l.toArray[i] = l[i]'(by simpa using h) := by simp
theorem nfb {α : Type} {a : α} {l : List α} {i : Nat} (h : i + 1 < (a :: l).length) : (a :: l)[i + 1] = l[i]'(by simpa using h) := rfl
theorem nfc {α : Type} {a : α} {l : List α} (h : 0 < (a :: l).length) : (a :: l)[0] = a := rfl
theorem nfd {α : Type} {l : List α} {i : Nat} {a : α} : l.toArray.setIfInBounds i a = (l.set i a).toArray := by simp
theorem tk (i : Nat) (h : wpAnyH P md ops Q S fuel l' a' w)
    (hi : ops[i]? = some oi := by exact rfl)
    (hs : Region.noSelect ops = true := by kernel_rfl) (hf : Region.free md ops listed i = true := by kernel_rfl) (hr : (Region.ready md ops listed).contains i = true := by kernel_rfl)
    (hQ : ∀ c a w, Q (.panic c) (a.put oi.dst v) w → Q (.panic c) a w := by exact fun _ _ _ h => h)
    (hy : YieldsIf P ops S oi v a := by (refine Or.inl ⟨by first | kernel_rfl | rfl, ?_⟩; intro wS hSw; (try have hSc := hSw.cell); clear hSw; go_simp; try with_reducible rfl))
    (hS : S w := by first | exact Below.refl _ _ | exact trivial | exact ⟨rfl, rfl, rfl, Nat.le_refl _, fun _ _ _ => rfl⟩)
    (hl : listed.setIfInBounds i true = l' := by ((try simp only [List.setIfInBounds_toArray, List.set_cons_zero, List.set_cons_succ]); all_goals exact rfl))
    (ha : a.put oi.dst v = a' := by ((try simp only [Act.put, List.getElem_toArray, List.getElem_cons_succ, List.getElem_cons_zero, List.setIfInBounds_toArray, List.set_cons_zero, List.set_cons_succ]); all_goals exact rfl)) :
    wpAnyH P md ops Q S (fuel + 1) listed a w := by
  subst hl ha
  exact wpAnyH_take hi hs hf hr hQ hy hS h
theorem tkc (i : Nat) (h : wpAnyH P md ops Q S fuel l' a' w)
    (hi : ops[i]? = some oi := by exact rfl)
    (hs : Region.noSelect ops = true := by kernel_rfl) (hf : Region.free md ops listed i = true := by kernel_rfl) (hr : (Region.ready md ops listed).contains i = true := by kernel_rfl)
    (hQ : ∀ c a w, Q (.panic c) (a.put oi.dst v) w → Q (.panic c) a w := by exact fun _ _ _ h => h)
    (hy : YieldsIf P ops S oi v a := by (refine Or.inl ⟨by first | kernel_rfl | rfl, ?_⟩; intro wS hSw; (try have hSc := hSw.cell); clear hSw; go_simp; first | (with_reducible rfl) | (rw [if_neg (by first | omega | (simp only [List.length_append, List.length_cons, List.length_nil]; omega))])))
    (hS : S w := by first | exact Below.refl _ _ | exact trivial | exact ⟨rfl, rfl, rfl, Nat.le_refl _, fun _ _ _ => rfl⟩)
    (hl : listed.setIfInBounds i true = l' := by ((try simp only [List.setIfInBounds_toArray, List.set_cons_zero, List.set_cons_succ]); all_goals exact rfl))
    (ha : a.put oi.dst v = a' := by ((try simp only [Act.put, List.getElem_toArray, List.getElem_cons_succ, List.getElem_cons_zero, List.setIfInBounds_toArray, List.set_cons_zero, List.set_cons_succ]); all_goals exact rfl)) :
    wpAnyH P md ops Q S (fuel + 1) listed a w := by
  subst hl ha
  exact wpAnyH_take hi hs hf hr hQ hy hS h
theorem tks (i : Nat) (h : wpAnyH P md ops Q S fuel l' a' w)
    (hi : ops[i]? = some oi := by exact rfl)
    (hs : Region.noSelect ops = true := by kernel_rfl) (hf : Region.free md ops listed i = true := by kernel_rfl) (hr : (Region.ready md ops listed).contains i = true := by kernel_rfl)
    (hQ : ∀ c a w, Q (.panic c) (a.put oi.dst v) w → Q (.panic c) a w := by exact fun _ _ _ h => h)
    (hy : YieldsIf P ops S oi v a := by exact Or.inr ⟨by kernel_rfl, rfl⟩)
    (hS : S w := by first | exact Below.refl _ _ | exact trivial | exact ⟨rfl, rfl, rfl, Nat.le_refl _, fun _ _ _ => rfl⟩)
    (hl : listed.setIfInBounds i true = l' := by ((try simp only [List.setIfInBounds_toArray, List.set_cons_zero, List.set_cons_succ]); all_goals exact rfl))
    (ha : a.put oi.dst v = a' := by ((try simp only [Act.put, List.getElem_toArray, List.getElem_cons_succ, List.getElem_cons_zero, List.setIfInBounds_toArray, List.set_cons_zero, List.set_cons_succ]); all_goals exact rfl)) :
    wpAnyH P md ops Q S (fuel + 1) listed a w := by
  subst hl ha
  exact wpAnyH_take hi hs hf hr hQ hy hS h
theorem tke (i : Nat) {E : World → Prop} (hE : ∀ wS, S wS → E wS) (h : wpAnyH P md ops Q S fuel l' a' w)
    (hi : ops[i]? = some oi := by exact rfl)
    (hs : Region.noSelect ops = true := by kernel_rfl) (hf : Region.free md ops listed i = true := by kernel_rfl) (hr : (Region.ready md ops listed).contains i = true := by kernel_rfl)
    (hQ : ∀ c a w, Q (.panic c) (a.put oi.dst v) w → Q (.panic c) a w := by exact fun _ _ _ h => h)
    (hw : Region.wanted oi (yielded ops a.tmps) = true := by first | kernel_rfl | rfl)
    (hy : ∀ wS, E wS → (execOp a.eval oi).run P wS = .ok (.value v) wS := by (intro wS hSc; go_simp; try with_reducible rfl))
    (hS : S w := by first | exact Below.refl _ _ | exact trivial | exact ⟨rfl, rfl, rfl, Nat.le_refl _, fun _ _ _ => rfl⟩)
    (hl : listed.setIfInBounds i true = l' := by ((try simp only [List.setIfInBounds_toArray, List.set_cons_zero, List.set_cons_succ]); all_goals exact rfl))
    (ha : a.put oi.dst v = a' := by ((try simp only [Act.put, List.getElem_toArray, List.getElem_cons_succ, List.getElem_cons_zero, List.setIfInBounds_toArray, List.set_cons_zero, List.set_cons_succ]); all_goals exact rfl)) :
    wpAnyH P md ops Q S (fuel + 1) listed a w := by
  subst hl ha
  exact wpAnyH_take hi hs hf hr hQ (.inl ⟨hw, fun wS hs => hy wS (hE wS hs)⟩) hS h
/-- A whole row is loaded, that stays as long as S. -/
theorem tkl (i : Nat) {b : Nat} {t : TypeId} {cs : Array Value} (hb : ∀ wS, S wS → Blk wS b t cs) {ty : TypeId} {x : Operand} {d : TypeDesc} (hu : P.underlying ty = some d) (h : wpAnyH P md ops Q S fuel l' a' w)
    (hi : ops[i]? = some oi := by exact rfl)
    (hs : Region.noSelect ops = true := by kernel_rfl) (hf : Region.free md ops listed i = true := by kernel_rfl) (hr : (Region.ready md ops listed).contains i = true := by kernel_rfl)
    (hQ : ∀ c a w, Q (.panic c) (a.put oi.dst (.agg cs)) w → Q (.panic c) a w := by exact fun _ _ _ h => h)
    (hw : Region.wanted oi (yielded ops a.tmps) = true := by first | kernel_rfl | rfl) (ho : oi.op = .load ty x := by exact rfl) (hx : a.eval x = .pointer (some ⟨b, 0, none⟩) := by exact rfl)
    (hd : d.isRow = true := by exact rfl) (hsz : (P.info? ty).map (·.size) = some cs.size := by kernel_rfl)
    (hS : S w := by first | exact Below.refl _ _ | exact trivial | exact ⟨rfl, rfl, rfl, Nat.le_refl _, fun _ _ _ => rfl⟩)
    (hl : listed.setIfInBounds i true = l' := by ((try simp only [List.setIfInBounds_toArray, List.set_cons_zero, List.set_cons_succ]); all_goals exact rfl))
    (ha : a.put oi.dst (.agg cs) = a' := by ((try simp only [Act.put, List.getElem_toArray, List.getElem_cons_succ, List.getElem_cons_zero, List.setIfInBounds_toArray, List.set_cons_zero, List.set_cons_succ]); all_goals exact rfl)) :
    wpAnyH P md ops Q S (fuel + 1) listed a w := by
  subst hl ha
  refine wpAnyH_take hi hs hf hr hQ ?_ hS h
  have := yieldsIf_load_mid (P := P) (ops := ops) (S := S) (op := oi) (a := a) hw ty x ho b 0 hx cs.toList d (fun w' hw' j v hj => by
    rw [Nat.zero_add, (hb w' hw').cell j, ← Array.getElem?_toList]
    exact hj) hu hd (by simpa using hsz)
  simpa using this
/-! Any relation between worlds that may be held. -/
theorem gg_mono {S S' : World → Prop} (hS : ∀ w, S' w → S w) : ∀ (fuel : Nat) (listed : Array Bool) (a : Act) (w : World), wpAnyH P md ops Q S' fuel listed a w → wpAnyH P md ops Q S fuel listed a w
  | 0, _, _, _, h => h
  | fuel + 1, listed, a, w, h => ⟨h.1, fun i hi => wpOp_mono (fun a' w' h' => ⟨hS _ h'.1, gg_mono hS fuel _ a' w' h'.2⟩) (h.2 i hi)⟩
theorem gg_start {id : Nat} (G : World → World → Prop) (hr : ∀ w, G w w) (hm : P.follows .mixedOrders = true := by kernel_rfl)
    (h : wpAnyH P .any ops Q (G w.drew) ops.size (Array.replicate ops.size false) a w.drew) : (Code.region id ops true).wp P Q a w :=
  wp_region_held_drew hm (hr _) (fun _ => h)
theorem gg_step {G : World → World → Prop} (ht : ∀ a b c, G a b → G b c → G a c) (i : Nat) {o : Oper} (hr : Region.ready md ops listed = [i]) (ho : ops[i]? = some o)
    (h : ∀ K' : Act → World → Prop, Shut (∀ a' w', G w w' → wpAnyH P md ops Q (G w') fuel (listed.setIfInBounds i true) a' w' → K' a' w') → if Region.wanted o (yielded ops a.tmps) = true then Oper.wp P o a w K' Q else K' (a.put o.dst undef) w) :
    wpAnyH P md ops Q (G w) (fuel + 1) listed a w :=
  wpAnyH_ready hr (by simp) (AllReadyH.cons ho (fun K' hK => h K' (fun a' w' hg hw => hK.out a' w' hg (fun _ => gg_mono (fun w2 h2 => ht _ _ _ hg h2) _ _ _ _ hw))) AllReadyH.nil)
end
end Go.Proofs.YtjhhdgmhocpceaaGreatDoor
/-
  Bytes: a row of bytes behind another; a copy of bytes.
-/
namespace Go.Proofs.YtjhhdgmhocpceaaGreatDoor
set_option linter.unusedSimpArgs false
set_option linter.unusedVariables false
set_option linter.unusedSectionVars false
open Go.ChangeShapes Go.WideShapes Go.ChangeAt Go.RowKit Go.Deep Go.Shelf

theorem app_bytes {ops : Array Oper} {rest : List Oper} {o : Oper} {a : Act} {Q : Exit → Act → World → Prop} {w : World}
    (s x : Operand) (hgd : o.guard = none) (ho : o.op = .call { callee := .builtin .append, args := #[s, x], argTypes := #[22, 22] })
    {B C : Nat} {v : Value} {l m : List UInt8} (hs : a.eval s = v) (hown : OwnB B w v l)
    {A : Option Addr} {n c : Nat} (hx : a.eval x = .slice A n c) (hn : m.length = n) (hr : SlB w C A m)
    (hl : l.length + n ≤ 140737488355328) (hB : B ≤ w.heap.size)
    (h : ∀ v' w', OwnB B w' v' (l ++ m) → Below B w w' → w.grownBy w' v.ownBlock → wpList Tryz.prog ops Q rest (a.put o.dst v') w') : wpList Tryz.prog ops Q (o :: rest) a w := by
  refine wpList_app_sl st_bytes s x hgd ho hs hown hx hn hr (cf := fun (x : UInt8) => [.int .u8 (x.toNat : Int)]) (fun _ _ _ h => h) (fun _ _ => rfl) (fun _ _ u hu => by simp at hu; subst hu; rfl) (by unfold maxLen; omega) (by omega) hB (fun v' w' h1 h2 => h v' w' ?_ (own_grown (Below.refl B w) hown h2 (Nat.le_refl _) hB) h2)
  have e : Lib.byteCells (l ++ m) = Lib.byteCells l ++ m.flatMap (fun (x : UInt8) => [.int .u8 (x.toNat : Int)]) := by
    unfold Lib.byteCells
    rw [List.map_append]
    congr 1
    clear h h1 h2 hr hx hn
    induction m with
    | nil => rfl
    | cons y r ih => simp only [List.map_cons, List.flatMap_cons, ih]; rfl
  unfold OwnB
  rw [e, List.length_append, hn]
  exact h1
set_option maxRecDepth 100000 in
theorem slices_CloneB (a : Option Addr) (c : Nat) (l : List UInt8) (w : World) (h : SlB w w.heap.size a l) (hl : l.length ≤ 1099511627776) :
    Calls Tryz.prog 112 #[.slice a l.length c] w fun e w' => ∃ v', e = .returned v' ∧ OwnB w.heap.size w' v' l ∧ Below w.heap.size w w' := by
  have q : ∀ (w : World) (a : Option Addr) (n c n' c' : Nat), (binOp .eql 22 (.slice a n c) (.slice none n' c')).run Tryz.prog w = .ok (.bool a.isNone) w := fun w a n c n' c' => Lib.run_eql_slice_nil w _ _ a n c n' c' Tryz.underlying22
  have HS := Lib.hid h
  clear h
  cases a with
  | none =>
    obtain rfl : l = [] := by
      cases l with
      | nil => rfl
      | cons x r => obtain ⟨b, o, hx, _⟩ := SlR.atB HS.out (k := 0) (by simp); cases hx
    go_enter Tryz.func112, Tryz.ntmps112
    go_wp2_with fail
    go_ret
    exact ⟨_, rfl, OwnB.nil _ _, bel⟩
  | some p =>
    go_enter Tryz.func112, Tryz.ntmps112
    go_wp2_with (at_builtin; refine app_bytes (.tmp 5) (.tmp 6) rfl rfl (B := w.heap.size) (l := []) (m := l) rfl (World.ownsRow_lit (base := w.heap.size) w #[] 0 (Nat.le_refl _) (by decide) rfl) rfl rfl (HS.out.below ((Below.refl w.heap.size w).alloc (Nat.le_refl _) _) (Nat.le_refl _)) (by simp; omega) (by simp) ?_)
    intro v' w' ho hb _
    go_wp2_with fail
    go_ret
    exact ⟨_, rfl, by simpa using ho, ((Below.refl w.heap.size w).alloc (Nat.le_refl _) _).trans hb⟩
end Go.Proofs.YtjhhdgmhocpceaaGreatDoor
/-
  Numbers as bytes: powers of 256; the greatest number of so many bytes.
-/
namespace Go.Proofs.YtjhhdgmhocpceaaGreatDoor
set_option linter.unusedSimpArgs false
set_option linter.unusedVariables false
set_option linter.unusedSectionVars false
open Go.ChangeShapes Go.WideShapes Go.ChangeAt Go.RowKit Go.Deep Go.Shelf

def powB (k : Nat) : Int := if k = 0 then 1 else if k = 1 then 256 else if k = 2 then 65536 else if k = 3 then 16777216 else 4294967296
theorem powB_step {k : Nat} (h : k < 4) : 256 * powB k = powB (k + 1) ∧ IntKind.i64.wrap (256 * powB k) = powB (k + 1) := by
  match k, h with
  | 0, _ => exact ⟨by decide, by decide⟩
  | 1, _ => exact ⟨by decide, by decide⟩
  | 2, _ => exact ⟨by decide, by decide⟩
  | 3, _ => exact ⟨by decide, by decide⟩
set_option maxHeartbeats 4000000 in
set_option maxRecDepth 100000 in
theorem ref01_power (n : Nat) (hn : n ≤ 4) (w : World) : Calls Tryz.prog 121 #[.int .i64 (n : Int)] w fun e w' => e = .returned (.int .i64 (powB n)) ∧ w = w' := by
  go_enter Tryz.func121, Tryz.ntmps121
  go_wp2_with fail
  go_loopw [3, 4] (fun v i wr => ∃ k : Nat, k ≤ n ∧ v = .int .i64 (powB k) ∧ i = .int .i64 k ∧ wr = w) (fun _ i _ => n - (intOf i).toNat)
  case atStart => exact ⟨0, by omega, rfl, rfl, rfl⟩
  case round =>
    obtain ⟨k, hk, rfl, rfl, rfl⟩ := hrel
    by_cases hlt : k < n
    · have hlt2 : (k : Int) < n := by omega
      obtain ⟨_, h2⟩ := powB_step (k := k) (by omega)
      obtain ⟨R, hR⟩ : ∃ R, R = powB k := ⟨_, rfl⟩
      obtain ⟨Q, hQ⟩ : ∃ Q, Q = powB (k + 1) := ⟨_, rfl⟩
      rw [← hR] at h2 ⊢
      rw [← hQ] at h2
      have HQ := Lib.hid hQ
      clear hR hQ
      go_wp2_with fail
      go_round
      case rel => exact ⟨k + 1, by omega, by rw [← HQ.out], by go_num, by trivial⟩
      case measure => simp [intOf]; omega
    · obtain rfl : k = n := by omega
      have hlt2 : ¬ (k : Int) < k := by omega
      go_wp2_with fail
      go_ret
      exact ⟨rfl, rfl⟩
set_option maxRecDepth 100000 in
theorem octet_top2 (w : World) : Calls Tryz.prog 134 #[.int .i64 2] w fun e w' => e = .returned (.tuple #[.int .i64 65535, .bool true]) ∧ w = w' := by
  go_enter Tryz.func134, Tryz.ntmps134
  go_wp2_with fail
  go_ret2
  exact ⟨rfl, rfl⟩
set_option maxRecDepth 100000 in
theorem octet_top4 (w : World) : Calls Tryz.prog 134 #[.int .i64 4] w fun e w' => e = .returned (.tuple #[.int .i64 4294967295, .bool true]) ∧ w = w' := by
  go_enter Tryz.func134, Tryz.ntmps134
  go_wp2_with fail
  go_ret2
  exact ⟨rfl, rfl⟩
end Go.Proofs.YtjhhdgmhocpceaaGreatDoor
/-
  A region that draws its order, whose operations only make memory: the loads are taken first as soon as their cells are known; what is known grows with the world.
-/
namespace Go.Proofs.YtjhhdgmhocpceaaGreatDoor
set_option linter.unusedSimpArgs false
set_option linter.unusedVariables false
set_option linter.unusedSectionVars false
open Go.ChangeShapes Go.WideShapes Go.ChangeAt Go.RowKit Go.Deep

section
variable {P : Program} {ops : Array Oper} {Q : Exit → Act → World → Prop} {md : Region.Mode}
def Grown (w w' : World) : Prop := Below w.heap.size w w'
theorem Grown.cell {w w' : World} (h : Grown w w') (b o : Nat) (hb : b < w.heap.size) : w'.cell? ⟨b, o, none⟩ = w.cell? ⟨b, o, none⟩ := Below.cell (p := ⟨b, o, none⟩) h hb
theorem wpAnyH_mono {S S' : World → Prop} (hS : ∀ w, S' w → S w) : ∀ (fuel : Nat) (listed : Array Bool) (a : Act) (w : World), wpAnyH P md ops Q S' fuel listed a w → wpAnyH P md ops Q S fuel listed a w
  | 0, _, _, _, h => h
  | fuel + 1, listed, a, w, h => ⟨h.1, fun i hi => wpOp_mono (fun a' w' h' => ⟨hS _ h'.1, wpAnyH_mono hS fuel _ a' w' h'.2⟩) (h.2 i hi)⟩
theorem grown_start {id : Nat} {a : Act} {w : World} (hm : P.follows .mixedOrders = true)
    (h : wpAnyH P .any ops Q (Grown w.drew) ops.size (Array.replicate ops.size false) a w.drew) : (Code.region id ops true).wp P Q a w :=
  wp_region_held_drew hm (Below.refl _ _) (fun _ => h)
theorem grown_take (i : Nat) {oi : Oper} {v : Value} {fuel : Nat} {listed : Array Bool} {a : Act} {w : World} (hi : ops[i]? = some oi)
    (hs : Region.noSelect ops = true) (hf : Region.free md ops listed i = true) (hr : (Region.ready md ops listed).contains i = true)
    (hQ : ∀ c a w, Q (.panic c) (a.put oi.dst v) w → Q (.panic c) a w) (hy : YieldsIf P ops (Grown w) oi v a)
    (h : wpAnyH P md ops Q (Grown w) fuel (listed.setIfInBounds i true) (a.put oi.dst v) w) : wpAnyH P md ops Q (Grown w) (fuel + 1) listed a w :=
  wpAnyH_take hi hs hf hr hQ hy (Below.refl _ _) h
theorem grown_step (i : Nat) {o : Oper} {fuel : Nat} {listed : Array Bool} {a : Act} {w : World} (hr : Region.ready md ops listed = [i]) (ho : ops[i]? = some o)
    (h : ∀ K' : Act → World → Prop, Shut (∀ a' w', Grown w w' → wpAnyH P md ops Q (Grown w') fuel (listed.setIfInBounds i true) a' w' → K' a' w') → if Region.wanted o (yielded ops a.tmps) = true then Oper.wp P o a w K' Q else K' (a.put o.dst undef) w) :
    wpAnyH P md ops Q (Grown w) (fuel + 1) listed a w :=
  wpAnyH_ready hr (by simp) (AllReadyH.cons ho (fun K' hK => h K' (fun a' w' hg hw => hK.out a' w' hg (fun _ => wpAnyH_mono (fun w2 h2 => hg.trans (h2.mono (Below.size hg))) _ _ _ _ hw))) AllReadyH.nil)
theorem grown_undrew {w w' : World} (h : Below w.heap.size w w') : Below w.drew.heap.size w.drew w' := ⟨h.os, h.tape, h.output, h.size, h.block⟩
theorem grown_app (w : World) (j k : Junk) (x : Array Obj) (h : k.heap = j.heap ++ x) : Below (w.more j).heap.size (w.more j) (w.more k) := by
  have := Below.moreS (Below.refl (w.more j).heap.size (w.more j)) ⟨x, k.drawn⟩
  rw [World.more_more, ← h] at this
  exact this
theorem grown_merge (w : World) (j : Junk) (x : Array Obj) (d : Nat) : Below (w.more j).heap.size (w.more j) (w.more ⟨j.heap ++ x, d⟩) := grown_app w j _ x rfl
theorem grown_merge2 (w : World) (a b c : Array Obj) (d e : Nat) : Below (w.more ⟨a ++ b, d⟩).heap.size (w.more ⟨a ++ b, d⟩) (w.more ⟨a ++ (b ++ c), e⟩) := grown_app w _ _ c (by simp [Array.append_assoc])
theorem grown_merge3 (w : World) (a b c x : Array Obj) (d e : Nat) : Below (w.more ⟨a ++ (b ++ c), d⟩).heap.size (w.more ⟨a ++ (b ++ c), d⟩) (w.more ⟨a ++ (b ++ (c ++ x)), e⟩) := grown_app w _ _ x (by simp [Array.append_assoc])
theorem belm {B : Nat} {a w : World} (h : Below B a w := by repeat (first | (with_reducible exact Below.refl _ _) | (with_reducible exact grown_merge _ _ _ _) | (with_reducible exact grown_merge2 _ _ _ _ _ _) | (with_reducible exact grown_merge3 _ _ _ _ _ _ _) | (with_reducible refine Below.allocS ?_ _) | (with_reducible refine Below.moreS ?_ _) | (with_reducible refine Below.drew ?_))) : Below B a w := h
theorem belg {a w : World} (h : Below a.heap.size a w := by ((try (with_reducible refine grown_undrew ?_)); exact belm)) : Grown a w := h
end
end Go.Proofs.YtjhhdgmhocpceaaGreatDoor
/-
  A region that draws its order, in which all below a fixed block number stays.
-/
namespace Go.Proofs.YtjhhdgmhocpceaaGreatDoor
set_option linter.unusedSimpArgs false
set_option linter.unusedVariables false
set_option linter.unusedSectionVars false
open Go.ChangeShapes Go.WideShapes Go.ChangeAt Go.RowKit Go.Deep

section
variable {P : Program} {ops : Array Oper} {Q : Exit → Act → World → Prop} {md : Region.Mode} {B : Nat}
def Gb (B : Nat) (w w' : World) : Prop := Below B w w'
theorem Gb.cell {w w' : World} (h : Gb B w w') (b o : Nat) (hb : b < B) : w'.cell? ⟨b, o, none⟩ = w.cell? ⟨b, o, none⟩ := Below.cell (p := ⟨b, o, none⟩) h hb
theorem gb_mono {S S' : World → Prop} (hS : ∀ w, S' w → S w) : ∀ (fuel : Nat) (listed : Array Bool) (a : Act) (w : World), wpAnyH P md ops Q S' fuel listed a w → wpAnyH P md ops Q S fuel listed a w
  | 0, _, _, _, h => h
  | fuel + 1, listed, a, w, h => ⟨h.1, fun i hi => wpOp_mono (fun a' w' h' => ⟨hS _ h'.1, gb_mono hS fuel _ a' w' h'.2⟩) (h.2 i hi)⟩
theorem gb_start {id : Nat} {a : Act} {w : World} (B : Nat) (hm : P.follows .mixedOrders = true)
    (h : wpAnyH P .any ops Q (Gb B w.drew) ops.size (Array.replicate ops.size false) a w.drew) : (Code.region id ops true).wp P Q a w :=
  wp_region_held_drew hm (Below.refl _ _) (fun _ => h)
theorem gb_take (i : Nat) {oi : Oper} {v : Value} {fuel : Nat} {listed : Array Bool} {a : Act} {w : World} (hi : ops[i]? = some oi)
    (hs : Region.noSelect ops = true) (hf : Region.free md ops listed i = true) (hr : (Region.ready md ops listed).contains i = true)
    (hQ : ∀ c a w, Q (.panic c) (a.put oi.dst v) w → Q (.panic c) a w) (hy : YieldsIf P ops (Gb B w) oi v a)
    (h : wpAnyH P md ops Q (Gb B w) fuel (listed.setIfInBounds i true) (a.put oi.dst v) w) : wpAnyH P md ops Q (Gb B w) (fuel + 1) listed a w :=
  wpAnyH_take hi hs hf hr hQ hy (Below.refl _ _) h
theorem gb_step (i : Nat) {o : Oper} {fuel : Nat} {listed : Array Bool} {a : Act} {w : World} (hr : Region.ready md ops listed = [i]) (ho : ops[i]? = some o)
    (h : ∀ K' : Act → World → Prop, Shut (∀ a' w', Gb B w w' → wpAnyH P md ops Q (Gb B w') fuel (listed.setIfInBounds i true) a' w' → K' a' w') → if Region.wanted o (yielded ops a.tmps) = true then Oper.wp P o a w K' Q else K' (a.put o.dst undef) w) :
    wpAnyH P md ops Q (Gb B w) (fuel + 1) listed a w :=
  wpAnyH_ready hr (by simp) (AllReadyH.cons ho (fun K' hK => h K' (fun a' w' hg hw => hK.out a' w' hg (fun _ => gb_mono (fun w2 h2 => Below.trans hg h2) _ _ _ _ hw))) AllReadyH.nil)
theorem gb_one {i : Nat} {o : Oper} {fuel : Nat} {listed : Array Bool} {a : Act} {w : World} (ho : ops[i]? = some o)
    (h : ∀ K' : Act → World → Prop, Shut (∀ a' w', Gb B w w' → wpAnyH P md ops Q (Gb B w') fuel (listed.setIfInBounds i true) a' w' → K' a' w') → if Region.wanted o (yielded ops a.tmps) = true then Oper.wp P o a w K' Q else K' (a.put o.dst undef) w)
    {rs : List Nat} (hrs : AllReadyH P md ops Q (Gb B w) fuel listed a w rs) : AllReadyH P md ops Q (Gb B w) fuel listed a w (i :: rs) :=
  AllReadyH.cons ho (fun K' hK => h K' (fun a' w' hg hw => hK.out a' w' hg (fun _ => gb_mono (fun w2 h2 => Below.trans hg h2) _ _ _ _ hw))) hrs
theorem gb_two (i j : Nat) {o p : Oper} {fuel : Nat} {listed : Array Bool} {a : Act} {w : World} (hr : Region.ready md ops listed = [i, j]) (ho : ops[i]? = some o) (hp : ops[j]? = some p)
    (h : ∀ K' : Act → World → Prop, Shut (∀ a' w', Gb B w w' → wpAnyH P md ops Q (Gb B w') fuel (listed.setIfInBounds i true) a' w' → K' a' w') → if Region.wanted o (yielded ops a.tmps) = true then Oper.wp P o a w K' Q else K' (a.put o.dst undef) w)
    (h2 : ∀ K' : Act → World → Prop, Shut (∀ a' w', Gb B w w' → wpAnyH P md ops Q (Gb B w') fuel (listed.setIfInBounds j true) a' w' → K' a' w') → if Region.wanted p (yielded ops a.tmps) = true then Oper.wp P p a w K' Q else K' (a.put p.dst undef) w) :
    wpAnyH P md ops Q (Gb B w) (fuel + 1) listed a w :=
  wpAnyH_ready hr (by simp) (gb_one ho h (gb_one hp h2 AllReadyH.nil))
/-- A whole row, loaded early: it lies below what may change. -/
theorem gb_load (i : Nat) {oi : Oper} {fuel : Nat} {listed : Array Bool} {a : Act} {w : World} (hi : ops[i]? = some oi)
    (hs : Region.noSelect ops = true) (hf : Region.free md ops listed i = true) (hr : (Region.ready md ops listed).contains i = true)
    (ty : TypeId) (x : Operand) (cs : Array Value) (hQ : ∀ c a w, Q (.panic c) (a.put oi.dst (.agg cs)) w → Q (.panic c) a w) (hw : Region.wanted oi (yielded ops a.tmps) = true) (ho : oi.op = .load ty x) (b : Nat) (hx : a.eval x = .pointer (some ⟨b, 0, none⟩)) {t : TypeId} (hb : Blk w b t cs) (hbB : b < B) (d : TypeDesc)
    (hu : P.underlying ty = some d) (hd : d.isRow = true) (hsz : (P.info? ty).map (·.size) = some cs.size)
    (h : wpAnyH P md ops Q (Gb B w) fuel (listed.setIfInBounds i true) (a.put oi.dst (.agg cs)) w) : wpAnyH P md ops Q (Gb B w) (fuel + 1) listed a w :=
  gb_take i hi hs hf hr hQ (by
    have := yieldsIf_load_mid (P := P) (ops := ops) (S := Gb B w) (op := oi) (a := a) hw ty x ho b 0 hx cs.toList d (fun w' hw' j v hj => by
      rw [Nat.zero_add, Gb.cell hw' b j hbB, hb.cell j, ← Array.getElem?_toList]
      exact hj) hu hd (by simpa using hsz)
    simpa using this) h
theorem gb_undrew {w w' : World} (h : Below B w w') : Below B w.drew w' := ⟨h.os, h.tape, h.output, h.size, h.block⟩
theorem gbb {C B : Nat} {a w : World} (hB : C ≤ B) (h : Below B a w := by first | exact belm | (refine gb_undrew ?_; exact belm)) : Gb C a w := Below.mono h hB
end
end Go.Proofs.YtjhhdgmhocpceaaGreatDoor
/-
  Octets and kinds of frames: a number of some bytes, the flags that a frame has, to which streams it belongs; the program's and the document's.
-/
namespace Go.Proofs.YtjhhdgmhocpceaaGreatDoor
set_option linter.unusedSimpArgs false
set_option linter.unusedVariables false
set_option linter.unusedSectionVars false
open Go.ChangeShapes Go.WideShapes Go.ChangeAt Go.RowKit Go.Deep Go.Shelf

def beN (l : List UInt8) : Nat := l.foldl (fun n x => 256 * n + x.toNat) 0
theorem beN_snoc (l : List UInt8) (x : UInt8) : beN (l ++ [x]) = 256 * beN l + x.toNat := by simp [beN, List.foldl_append]
theorem beN_lt : ∀ (k : Nat) (l : List UInt8), l.length = k → beN l < 256 ^ k
  | 0, l, h => by obtain rfl := List.eq_nil_of_length_eq_zero h; simp [beN]
  | k + 1, l, h => by
    obtain ⟨r, x, rfl⟩ : ∃ r x, l = r ++ [x] := ⟨l.dropLast, l.getLast (by intro e; simp [e] at h), (List.dropLast_concat_getLast _).symm⟩
    have := beN_lt k r (by simpa using h)
    have hx := x.toNat_lt
    rw [beN_snoc, Nat.pow_succ]
    omega
theorem beN_small {l : List UInt8} (h : l.length ≤ 4) : beN l < 4294967296 := by
  have := beN_lt _ l rfl
  have : (256 : Nat) ^ l.length ≤ 256 ^ 4 := Nat.pow_le_pow_right (by decide) h
  omega
theorem wraps_i63 : ∀ n : Int, 0 ≤ n → n < 2 ^ 63 → IntKind.i64.wrap n = n := fun n h1 h2 => IntWalk.i64_in n (by omega)
theorem or_byte (n : Nat) (x : UInt8) (hn : n < 16777216) : bits .or .i64 ((n : Int) * 256) (wrap64 (x.toNat : Int)) = ((256 * n + x.toNat : Nat) : Int) := by
  have hx := x.toNat_lt
  rw [show wrap64 (x.toNat : Int) = (x.toNat : Int) from IntWalk.wrap64_in _ (by omega), show ((n : Int) * 256) = ((n * 256 : Nat) : Int) by omega]
  rw [(bits_nat .i64 63 (by decide) wraps_i63 (n * 256) x.toNat (by omega) (by omega)).2, nat_join 8 (n * 256) x.toNat (by omega) (by omega)]
  omega
set_option maxRecDepth 100000 in
theorem octet_top (k : Nat) (h1 : 1 ≤ k) (h2 : k ≤ 4) (w : World) : Calls Tryz.prog 134 #[.int .i64 k] w fun e w' => (∃ n : Int, e = .returned (.tuple #[.int .i64 n, .bool true])) ∧ w = w' := by
  obtain rfl | rfl | rfl | rfl : k = 1 ∨ k = 2 ∨ k = 3 ∨ k = 4 := by omega
  all_goals
    go_enter Tryz.func134, Tryz.ntmps134
    go_wp2_with fail
    go_ret2
    exact ⟨⟨_, rfl⟩, rfl⟩
def getF (k : Nat) (l : List UInt8) : Int × Int := if k ≤ l.length then ((beN (l.take k) : Int), 0) else (0, 3)
set_option maxHeartbeats 4000000 in
set_option maxRecDepth 100000 in
theorem octet_Get (k : Nat) (h1 : 1 ≤ k) (h2 : k ≤ 4) (a : Option Addr) (c : Nat) (l : List UInt8) (w : World) (h : SlB w w.heap.size a l) (hc : l.length ≤ c) :
    Calls Tryz.prog 127 #[.slice a l.length c, .int .i64 k] w fun e w' => e = .returned (.tuple #[.int .i64 (getF k l).1, .int .i64 (getF k l).2]) ∧ w = w' := by
  have HT : Hid (∀ W, Calls Tryz.prog 134 #[.int .i64 k] W fun e w' => (∃ n : Int, e = .returned (.tuple #[.int .i64 n, .bool true])) ∧ W = w') := octet_top k h1 h2
  have HS := Lib.hid h
  clear h
  by_cases hk : k ≤ l.length
  · have hk2 : ¬ (l.length : Int) < (k : Int) := by omega
    have hk3 : k ≤ c := by omega
    have HG : Hid (getF k l = ((beN (l.take k) : Int), 0)) := by show _ = _; unfold getF; rw [if_pos hk]
    generalize getF k l = G at HG ⊢
    go_enter Tryz.func127, Tryz.ntmps127
    go_wp2_with (go_at_call 134; refine (HT.out _).mono ?_; rintro e w' ⟨⟨n, rfl⟩, rfl⟩)
    go_loopw [8, 26] (fun v i wr => ∃ m : Nat, m ≤ k ∧ v = .int .i64 (beN (l.take m) : Int) ∧ i = .int .i64 m ∧ wr = w) (fun _ i _ => k - (intOf i).toNat)
    case atStart => exact ⟨0, by omega, rfl, rfl, rfl⟩
    case round =>
      obtain ⟨m, hm, rfl, rfl, rfl⟩ := hrel
      by_cases hlt : m < k
      · have hlt2 : (m : Int) < k := by omega
        obtain ⟨b, o, rfl, hbb, hcell⟩ := SlR.atB HS.out (k := m) (by omega)
        have hb4 : beN (l.take m) < 16777216 := by
          have := beN_lt m (l.take m) (by simp; omega)
          have : (256 : Nat) ^ m ≤ 256 ^ 3 := Nat.pow_le_pow_right (by decide) (by omega)
          omega
        obtain ⟨x, hx⟩ : ∃ x, x = l[m] := ⟨_, rfl⟩
        have hn : beN (l.take (m + 1)) = 256 * beN (l.take m) + x.toNat := by rw [hx, List.take_succ_eq_append_getElem (by omega), beN_snoc]
        rw [← hx] at hcell
        have ho := or_byte (beN (l.take m)) x hb4
        rw [← hn] at ho
        have HN := Lib.hid ho
        clear hx hn ho
        go_wp2_with fail
        go_round
        case rel => exact ⟨m + 1, by omega, by rw [HN.out], by go_num, by trivial⟩
        case measure => simp [intOf]; omega
      · obtain rfl : m = k := by omega
        have hlt2 : ¬ (m : Int) < m := by omega
        go_wp2_with fail
        go_ret2
        rw [HG.out]
        exact ⟨rfl, rfl⟩
  · have hk2 : (l.length : Int) < (k : Int) := by omega
    have HG : Hid (getF k l = (0, 3)) := by show _ = _; unfold getF; rw [if_neg hk]
    generalize getF k l = G at HG ⊢
    go_enter Tryz.func127, Tryz.ntmps127
    go_wp2_with (go_at_call 134; refine (HT.out _).mono ?_; rintro e w' ⟨⟨n, rfl⟩, rfl⟩)
    go_ret2
    rw [HG.out]
    exact ⟨rfl, rfl⟩
theorem beN_sum (l : List UInt8) (k m : Nat) (hk : k ≤ 4) (hm : m < k) (hl : k ≤ l.length) : (beN (l.take (m + 1)) : Int) * powB (k - (m + 1)) = (beN (l.take m) : Int) * powB (k - m) + ((l[m]'(by omega)).toNat : Int) * powB (k - 1 - m) := by
  rw [List.take_succ_eq_append_getElem (by omega), beN_snoc]
  have e : k - (m + 1) = k - 1 - m := by omega
  have e2 : k - m = k - 1 - m + 1 := by omega
  rw [e, e2, ← (powB_step (k := k - 1 - m) (by omega)).1]
  rw [Int.natCast_add, Int.natCast_mul, Int.add_mul]
  congr 1
  rw [Int.mul_comm ((256 : Nat) : Int), Int.mul_assoc]
  rfl
def lowF (n : Int) : Int × Bool := if 0 ≤ n ∧ n < 4294967296 then (if 2147483648 ≤ n then (n - 2147483648, true) else (n, false)) else (0, false)
theorem nat_high (n : Nat) (h : n < 4294967296) : n &&& 2147483648 = if 2147483648 ≤ n then 2147483648 else 0 := by
  have := nat_bit 31 n
  rw [show (2 : Nat) ^ 31 = 2147483648 by decide] at this
  rw [this]
  split <;> omega
theorem nat_low (n : Nat) (h : n < 4294967296) : n &&& 18446744071562067967 = n % 2147483648 := by
  have e : n = n &&& 4294967295 := by
    have := Nat.and_two_pow_sub_one_eq_mod n 32
    rw [show (2 : Nat) ^ 32 - 1 = 4294967295 by decide, show (2 : Nat) ^ 32 = 4294967296 by decide] at this
    omega
  have := Nat.and_two_pow_sub_one_eq_mod n 31
  rw [show (2 : Nat) ^ 31 - 1 = 2147483647 by decide, show (2 : Nat) ^ 31 = 2147483648 by decide] at this
  rw [e, Nat.and_assoc, show 4294967295 &&& 18446744071562067967 = 2147483647 by decide, ← e, this]
theorem andNot_high (n : Nat) (h : n < 4294967296) : bits .andNot .i64 (n : Int) 2147483648 = ((n % 2147483648 : Nat) : Int) := by
  show IntKind.i64.wrap ((BitVec.ofInt 64 (n : Int) &&& ~~~BitVec.ofInt 64 ((2147483648 : Nat) : Int)).toNat : Int) = _
  rw [BitVec.toNat_and, BitVec.toNat_not, ofInt_u64 n (by omega), ofInt_u64 2147483648 (by omega), show 2 ^ 64 - 1 - 2147483648 = 18446744071562067967 by decide, nat_low n h]
  exact wraps_i63 _ (by omega) (by omega)
set_option maxRecDepth 100000 in
theorem octet_Low (n : Nat) (hn : n < 4294967296) (w : World) : Calls Tryz.prog 128 #[.int .i64 (n : Int)] w fun e w' => e = .returned (.tuple #[.int .i64 (lowF n).1, .bool (lowF n).2]) ∧ w = w' := by
  have h0 : ¬ (n : Int) < 0 := by omega
  have h1 : ¬ (n : Int) ≥ 4294967296 := by omega
  have h2 := (bits_nat .i64 63 (by decide) wraps_i63 n 2147483648 (by omega) (by decide)).1
  rw [nat_high n hn] at h2
  have h3 : bits .andNot .i64 (n : Int) 2147483648 = (lowF n).1 := by
    rw [andNot_high n hn]
    unfold lowF
    rw [if_pos (by omega)]
    split <;> simp only <;> omega
  have h4 : (lowF n).2 = decide (2147483648 ≤ n) := by
    unfold lowF
    rw [if_pos (by omega)]
    by_cases h : 2147483648 ≤ n
    · rw [if_pos (by omega)]; simp [h]
    · rw [if_neg (by omega)]; simp [h]
  generalize lowF n = L at h3 h4 ⊢
  by_cases h : 2147483648 ≤ n
  all_goals
    simp only [h, if_true, if_false, decide_true, decide_false] at h2 h4
    have h5 : bits .and .i64 (n : Int) 2147483648 = _ := h2
    clear h2
    go_enter Tryz.func128, Tryz.ntmps128
    go_wp2_with fail
    go_ret2
    exact ⟨by rw [← h3]; rfl, rfl⟩
end Go.Proofs.YtjhhdgmhocpceaaGreatDoor
