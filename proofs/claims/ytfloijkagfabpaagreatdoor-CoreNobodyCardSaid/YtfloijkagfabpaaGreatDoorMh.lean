/-
  Parts of the proof, one behind the other: contracts of the program and plain laws; no condition of their own.
-/
import Derived.Test.YtfloijkagfabpaaGreatDoorMg
import Derived.Test.YtfloijkagfabpaaGreatDoorMa
/-
  The document's number of some bytes.
-/
namespace Go.Proofs.YtfloijkagfabpaaGreatDoor
set_option linter.unusedSimpArgs false
set_option linter.unusedVariables false
set_option linter.unusedSectionVars false
open Go.ChangeShapes Go.WideShapes Go.ChangeAt Go.RowKit Go.Deep Go.Shelf

theorem powB_le {i : Nat} (h : i ≤ 3) : 1 ≤ powB i ∧ powB i ≤ 16777216 := by
  obtain rfl | rfl | rfl | rfl : i = 0 ∨ i = 1 ∨ i = 2 ∨ i = 3 := by omega
  all_goals decide
theorem beN_mul (l : List UInt8) (k m : Nat) (hk : k ≤ 4) (hm : m ≤ k) (hl : k ≤ l.length) : 0 ≤ (beN (l.take m) : Int) * powB (k - m) ∧ (beN (l.take m) : Int) * powB (k - m) < 4294967296 := by
  have h := beN_lt m (l.take m) (by simp; omega)
  generalize beN (l.take m) = n at h
  have hp : powB (k - m) * (256 ^ m : Nat) ≤ 4294967296 ∧ 1 ≤ powB (k - m) := by
    have : ∀ k : Fin 5, ∀ m : Fin 5, m.val ≤ k.val → powB (k.val - m.val) * (256 ^ m.val : Nat) ≤ 4294967296 ∧ 1 ≤ powB (k.val - m.val) := by decide
    exact this ⟨k, by omega⟩ ⟨m, by omega⟩ hm
  generalize powB (k - m) = p at hp
  refine ⟨Int.mul_nonneg (by omega) (by omega), ?_⟩
  have h2 : (n : Int) * p < (256 ^ m : Nat) * p := Int.mul_lt_mul_of_pos_right (by omega) (by omega)
  rw [Int.mul_comm ((256 ^ m : Nat) : Int)] at h2
  omega
set_option maxHeartbeats 4000000 in
set_option maxRecDepth 100000 in
theorem ref01_Get (k : Nat) (h1 : 1 ≤ k) (h2 : k ≤ 4) (a : Option Addr) (c : Nat) (l : List UInt8) (w : World) (h : SlB w w.heap.size a l) :
    Calls Tryz.prog 193 #[.slice a l.length c, .int .i64 k] w fun e w' => e = .returned (.tuple #[.int .i64 (getF k l).1, .int .i64 (getF k l).2]) ∧ ∃ j, w' = w.more j := by
  have HS := Lib.hid h
  clear h
  have g1 : ¬ (k : Int) < 1 := by omega
  have g2 : ¬ (k : Int) > 4 := by omega
  by_cases hk : k ≤ l.length
  · have hk2 : ¬ (l.length : Int) < (k : Int) := by omega
    have HG : Hid (getF k l = ((beN (l.take k) : Int), 0)) := by show _ = _; unfold getF; rw [if_pos hk]
    generalize getF k l = G at HG ⊢
    go_enter Tryz.func193, Tryz.ntmps193
    go_wp2_with fail
    go_loopw [6, 7] (fun v i wr => ∃ m : Nat, m ≤ k ∧ v = .int .i64 ((beN (l.take m) : Int) * powB (k - m)) ∧ i = .int .i64 m ∧ ∃ j, wr = w.more j) (fun _ i _ => k - (intOf i).toNat)
    case atStart => exact ⟨0, by omega, by simp [beN], rfl, ⟨#[], w.drawn⟩, more_self w⟩
    case round =>
      obtain ⟨m, hm, rfl, rfl, j, rfl⟩ := hrel
      by_cases hlt : m < k
      · have hlt2 : (m : Int) < k := by omega
        have hlt3 : m < l.length := by omega
        obtain ⟨b, o, rfl, hbb, hcell⟩ := SlR.atB HS.out (k := m) (by omega)
        have HP : Hid (∀ W, Calls Tryz.prog 250 #[.int .i64 ((k : Int) - 1 - m)] W fun e w' => e = .returned (.int .i64 (powB (k - 1 - m))) ∧ W = w') := by
          have e : ((k : Int) - 1 - m) = ((k - 1 - m : Nat) : Int) := by omega
          rw [e]
          exact ref01_power (k - 1 - m) (by omega)
        have hs := beN_sum l k m h2 hlt (by omega)
        have hm1 := beN_mul l k (m + 1) h2 (by omega) hk
        have hx := l[m].toNat_lt
        have hp := powB_le (i := k - 1 - m) (by omega)
        rw [hs] at hm1
        have hm2 := beN_mul l k m h2 hm hk
        obtain ⟨x, hxx⟩ : ∃ x, x = l[m] := ⟨_, rfl⟩
        rw [← hxx] at hcell hs hm1 hx
        obtain ⟨A, hA⟩ : ∃ A, A = (beN (l.take m) : Int) * powB (k - m) := ⟨_, rfl⟩
        obtain ⟨B, hB⟩ : ∃ B, B = (beN (l.take (m + 1)) : Int) * powB (k - (m + 1)) := ⟨_, rfl⟩
        rw [← hA] at hs hm1 hm2 ⊢
        rw [← hB] at hs
        have HB := Lib.hid hB
        clear hA hB hxx
        generalize powB (k - 1 - m) = P at HP hs hm1 hp
        have hw1 : IntKind.i64.wrap ((x.toNat : Int) * P) = (x.toNat : Int) * P := IntWalk.i64_in _ (by
          have : 0 ≤ (x.toNat : Int) * P := Int.mul_nonneg (by omega) (by omega)
          omega)
        have hw2 : IntKind.i64.wrap (A + (x.toNat : Int) * P) = B := by rw [← hs]; exact IntWalk.i64_in _ (by omega)
        have hw3 : IntKind.i64.wrap (x.toNat : Int) = (x.toNat : Int) := IntWalk.i64_in _ (by omega)
        have hw4 : IntKind.i64.wrap ((k : Int) - 1) = (k : Int) - 1 := IntWalk.i64_in _ (by omega)
        have hw5 : IntKind.i64.wrap ((k : Int) - 1 - m) = (k : Int) - 1 - m := IntWalk.i64_in _ (by omega)
        clear hs hm1 hm2 hp
        go_wp2_with fail
        obtain ⟨wz, hwz⟩ : ∃ wz, wz = w.more j := ⟨_, rfl⟩
        rw [← hwz]
        have hcz : wz.cell? ⟨b, o + m, none⟩ = some (.int .u8 (x.toNat : Int)) := by rw [hwz, World.cell?_more _ _ _ hbb]; exact hcell
        have hbz : b < wz.heap.size := by rw [hwz, World.size_more]; omega
        have HWZ := Lib.hid hwz
        clear hwz hcell
        refine wp_region_more (by kernel_rfl) (by kernel_rfl) ?_
        repeat (quiet_step (first | (go_at_call 250; exact more_of_same (HP.out _))))
        refine wpQuiet_nil ?_
        intro w' hw'
        obtain ⟨j, rfl⟩ := hw'
        go_wp2_with fail
        go_round
        case rel => exact ⟨m + 1, by omega, by rw [← HB.out], by go_num, _, by rw [HWZ.out, World.more_more]⟩
        case measure => simp [intOf]; omega
      · obtain rfl : m = k := by omega
        have hlt2 : ¬ (m : Int) < m := by omega
        have hp : powB (m - m) = 1 := by rw [Nat.sub_self]; rfl
        rw [hp, Int.mul_one]
        go_wp2_with fail
        go_ret2
        rw [HG.out]
        exact ⟨rfl, _, rfl⟩
  · have hk2 : (l.length : Int) < (k : Int) := by omega
    have HG : Hid (getF k l = (0, 3)) := by show _ = _; unfold getF; rw [if_neg hk]
    generalize getF k l = G at HG ⊢
    go_enter Tryz.func193, Tryz.ntmps193
    go_wp2_with fail
    go_ret2
    rw [HG.out]
    exact ⟨rfl, ⟨#[], w.drawn⟩, more_self w⟩
end Go.Proofs.YtfloijkagfabpaaGreatDoor
/-
  A slice of a call's own, of elements of a fixed number of cells: appended to, read.
-/
namespace Go.Proofs.YtfloijkagfabpaaGreatDoor
set_option linter.unusedSimpArgs false
set_option linter.unusedVariables false
set_option linter.unusedSectionVars false
open Go.ChangeShapes Go.WideShapes Go.ChangeAt Go.RowKit Go.Deep

section
variable {α : Type} {e : TypeId} {size : Nat} {c : α → List Value}
def OwnC (e : TypeId) (size : Nat) (c : α → List Value) (B : Nat) (w : World) (v : Value) (l : List α) : Prop := w.ownsRow B e size v l.length (l.flatMap c)
theorem OwnC.nil (B : Nat) (w : World) : OwnC e size c B w (.slice none 0 0) [] := World.ownsRow_nil _ _ _ _
theorem OwnC.alloc {B : Nat} {w : World} {v : Value} {l : List α} (h : OwnC e size c B w v l) (o : Obj) : OwnC e size c B (w.alloc o) v l := World.ownsRow.alloc h o
theorem OwnC.below {B C : Nat} {w w' : World} {v : Value} {l : List α} (h : OwnC e size c B w v l) (hb : Below C w w') (hC : w.heap.size ≤ C) : OwnC e size c B w' v l := own_below h hb hC
theorem OwnC.more {B : Nat} {w : World} {v : Value} {l : List α} (h : OwnC e size c B w v l) (j : Junk) : OwnC e size c B (w.more j) v l := h.below (C := w.heap.size) (Below.moreS (Below.refl _ _) j) (Nat.le_refl _)
theorem OwnC.drew {B : Nat} {w : World} {v : Value} {l : List α} (h : OwnC e size c B w v l) : OwnC e size c B w.drew v l := h
theorem OwnC.read {B : Nat} {w : World} {v : Value} {l : List α} (h : OwnC e size c B w v l) (hc : ∀ x, (c x).length = size) : ∃ a cap, v = .slice a l.length cap ∧ SlR w w.heap.size size (fun x cs => cs = c x) a l := own_slr h (fun x _ => hc x)
theorem OwnC.cap {B : Nat} {w : World} {v : Value} {l : List α} (h : OwnC e size c B w v l) : ∃ a cap, v = .slice a l.length cap ∧ l.length ≤ cap := by
  rcases h.2 with ⟨rfl, hn⟩ | ⟨g, cap, cur, rfl, hg, hh, h3, h4, h5, h6⟩
  · have : l = [] := List.eq_nil_of_length_eq_zero hn
    subst this
    exact ⟨none, 0, rfl, Nat.le_refl _⟩
  · exact ⟨_, cap, rfl, h3⟩
theorem app_c {P : Program} {ops : Array Oper} {rest : List Oper} {o : Oper} {a : Act} {Q : Exit → Act → World → Prop} {w : World} {t : TypeId} {z : Value} {bytes : Nat} (hT : SliceTy P t e z size bytes) (hc : ∀ x, (c x).length = size) (h1 : ∀ x, ∀ u ∈ c x, u.oneCell' = true) (hby : bytes ≤ 1000)
    (s x : Operand) (hgd : o.guard = none) (ho : o.op = .call { callee := .builtin .append, args := #[s, x], argTypes := #[t, t] })
    {B : Nat} {v : Value} {l : List α} {y : α} (hs : a.eval s = v) (hown : OwnC e size c B w v l)
    {g cc : Nat} {e' : TypeId} {news : Array Value} (hx : a.eval x = .slice (some ⟨g, 0, none⟩) 1 cc) (hb : Blk w g e' news) (hn : news.toList = c y)
    (hl : l.length + 1 ≤ 1048576) (hB : B ≤ w.heap.size)
    (h : ∀ v' w', OwnC e size c B w' v' (l ++ [y]) → Below B w w' → wpList P ops Q rest (a.put o.dst v') w') : wpList P ops Q (o :: rest) a w := by
  have hsz : news.size = 1 * size := by rw [Nat.one_mul, ← Array.length_toList, hn, hc]
  refine wpList_app hT s x hgd ho hs hown hx hb hsz (by rw [hn]; exact h1 y) (by unfold maxLen; omega) (by
    have : (l.length + 1) * bytes ≤ 1048576 * 1000 := Nat.mul_le_mul hl hby
    omega) hB (fun v' w' g1 g2 => h v' w' ?_ (own_grown (Below.refl B w) hown g2 (Nat.le_refl _) hB))
  unfold OwnC
  rw [List.flatMap_append, List.length_append, List.flatMap_singleton, ← hn]
  exact g1
theorem app_cg {P : Program} {ops : Array Oper} {rest : List Oper} {o : Oper} {a : Act} {Q : Exit → Act → World → Prop} {w : World} {t : TypeId} {z : Value} {bytes : Nat} (hT : SliceTy P t e z size bytes) (hc : ∀ x, (c x).length = size) (h1 : ∀ x, ∀ u ∈ c x, u.oneCell' = true) (hby : bytes ≤ 1000)
    (s x : Operand) (hgd : o.guard = none) (ho : o.op = .call { callee := .builtin .append, args := #[s, x], argTypes := #[t, t] })
    {B : Nat} {v : Value} {l : List α} {y : α} (hs : a.eval s = v) (hown : OwnC e size c B w v l)
    {g cc : Nat} {e' : TypeId} {news : Array Value} (hx : a.eval x = .slice (some ⟨g, 0, none⟩) 1 cc) (hb : Blk w g e' news) (hn : news.toList = c y)
    (hl : l.length + 1 ≤ 1048576) (hB : B ≤ w.heap.size)
    (h : ∀ v' w', OwnC e size c B w' v' (l ++ [y]) → Below B w w' → w.grownBy w' v.ownBlock → wpList P ops Q rest (a.put o.dst v') w') : wpList P ops Q (o :: rest) a w := by
  have hsz : news.size = 1 * size := by rw [Nat.one_mul, ← Array.length_toList, hn, hc]
  refine wpList_app hT s x hgd ho hs hown hx hb hsz (by rw [hn]; exact h1 y) (by unfold maxLen; omega) (by
    have : (l.length + 1) * bytes ≤ 1048576 * 1000 := Nat.mul_le_mul hl hby
    omega) hB (fun v' w' g1 g2 => h v' w' ?_ (own_grown (Below.refl B w) hown g2 (Nat.le_refl _) hB) g2)
  unfold OwnC
  rw [List.flatMap_append, List.length_append, List.flatMap_singleton, ← hn]
  exact g1
end
end Go.Proofs.YtfloijkagfabpaaGreatDoor
