/-
  Scenarios: which are too much to be looked at; a scenario handed from one side to the other.
-/
import Derived.Test.YtfcgdfcekpbliaaGreatDoorSds
import Derived.Test.YtfcgdfcekpbliaaGreatDoorSdv2
import Derived.Test.YtfcgdfcekpbliaaGreatDoorScv8
namespace Go.Proofs.YtfcgdfcekpbliaaGreatDoor
set_option linter.unusedSimpArgs false
set_option linter.unusedVariables false
set_option linter.unusedSectionVars false
open Go.ChangeShapes Go.WideShapes Go.ChangeAt Go.RowKit Go.Deep Go.Shelf

theorem st_Qd : StructTy Tryz.prog QdT 4 := ⟨_, Tryz.underlying26, rfl, by kernel_rfl⟩
theorem st_qsteps : SliceTy Tryz.prog 22 QtT (.agg #[.int .i64 0, .int .i64 0, .int .i64 0, .bool false, .slice none 0 0, .slice none 0 0]) 6 80 := .mk' Tryz.underlying22 (by kernel_rfl) rfl (by omega)
/-- What is looked at is small. -/
def SmallS (xs : List St) : Prop := xs.length ≤ 40 ∧ ∀ x ∈ xs, x.fs.length ≤ 40 ∧ (∀ f ∈ x.fs, f.name.length ≤ 400 ∧ f.value.length ≤ 400) ∧ x.ss.length ≤ 40
def LargeP (xs : List St) (w : World) (e : Ending) (w' : World) : Prop := (∃ r, e = .returned (.bool r) ∧ (r = false → SmallS xs)) ∧ ∃ j, w' = w.more j
theorem large_no {l : List Fd} (h : largeF l 40 400 = false) : l.length ≤ 40 ∧ ∀ f ∈ l, f.name.length ≤ 400 ∧ f.value.length ≤ 400 := by
  unfold largeF at h
  simp only [Bool.or_eq_false_iff, decide_eq_false_iff_not, List.any_eq_false] at h
  refine ⟨by omega, fun f hf => ?_⟩
  have := h.2 f hf
  unfold bigF at this
  simp only [Bool.or_eq_true, decide_eq_true_eq, not_or] at this
  omega
set_option maxHeartbeats 16000000 in
set_option maxRecDepth 100000 in
theorem ref45_Large (sd wk ws : Int) (xs : List St) (a : Option Addr) (c : Nat) (w : World) (hS : SlSt w w w.heap.size a xs) :
    Calls Tryz.prog 5 #[.agg #[.int .i64 sd, .slice a xs.length c, .int .i64 wk, .int .i64 ws]] w (LargeP xs w) := by
  have HS := Lib.hid hS
  clear hS
  by_cases hln : xs.length ≤ 40
  case neg =>
    have hl2 : (40 : Int) < (xs.length : Int) := by omega
    have hl3 : 40 < xs.length := by omega
    clear HS
    go_enter Tryz.func5, Tryz.ntmps5
    go_wp2_with fail
    go_ret
    exact ⟨⟨true, rfl, fun h => by cases h⟩, Below.junk bel⟩
  have hl2 : ¬ (40 : Int) < (xs.length : Int) := by omega
  have hl3 : ¬ 40 < xs.length := by omega
  have HLN := Lib.hid hln
  go_enter Tryz.func5, Tryz.ntmps5
  go_wp2_with fail
  obtain ⟨w1, hw1⟩ : ∃ w1, w1 = w.alloc (.cells #[.int .i64 sd, .slice a xs.length c, .int .i64 wk, .int .i64 ws] QdT) := ⟨_, rfl⟩
  rw [← hw1]
  have hbx : Blk w1 w.heap.size QdT #[.int .i64 sd, .slice a xs.length c, .int .i64 wk, .int .i64 ws] := by rw [hw1]; exact Blk.new _ _ _
  have HBW : Hid (Below w.heap.size w w1) := by show Below _ _ _; rw [hw1]; exact bel
  have hg1 := hbx.lt
  have b1 : w1.cell? ⟨w.heap.size, 1, none⟩ = some (.slice a xs.length c) := hbx.cell 1
  clear hw1 hbx
  go_loopw [3] (fun i wr => ∃ k : Nat, k ≤ xs.length ∧ i = .int .i64 k ∧ Hid (∀ x ∈ xs.take k, x.fs.length ≤ 40 ∧ (∀ f ∈ x.fs, f.name.length ≤ 400 ∧ f.value.length ≤ 400) ∧ x.ss.length ≤ 40) ∧ ∃ j, wr = w1.more j) (fun i _ => xs.length - (intOf i).toNat)
  case atStart => exact ⟨0, Nat.zero_le _, rfl, fun x hx => by simp at hx, Below.junk bel⟩
  case round =>
    obtain ⟨k, hk, rfl, HA, j, rfl⟩ := hrel
    by_cases hlt : k < xs.length
    · obtain ⟨b, off, fa, fc, sa, sc, ha, hbb, c0, c1, c2, c3, c4, c5, hF, hSe⟩ := SlR.atSt HS.out hlt
      subst ha
      have d4 := (HBW.out.cell (p := ⟨b, off + k * 6 + 4, none⟩) hbb).trans c4
      have d5 := (HBW.out.cell (p := ⟨b, off + k * 6 + 5, none⟩) hbb).trans c5
      have hbz : b < w1.heap.size := Nat.lt_of_lt_of_le hbb HBW.out.size
      have hkl : (k : Int) < (xs.length : Int) := by omega
      have HLG : Hid (∀ W, Below w.heap.size w W → Calls Tryz.prog 15 #[.slice fa xs[k].fs.length fc, .int .i64 40, .int .i64 400] W fun x w' => x = .returned (.bool (largeF xs[k].fs 40 400)) ∧ ∃ j, w' = W.more j) := fun W hW =>
        ref21_Large fa xs[k].fs fc 40 400 (by omega) (by omega) W ((hF.below hW (Nat.le_refl _)).mono hW.size (fun _ _ _ h => h))
      have HNX : Hid (largeF xs[k].fs 40 400 = false → xs[k].ss.length ≤ 40 → ∀ x ∈ xs.take (k + 1), x.fs.length ≤ 40 ∧ (∀ f ∈ x.fs, f.name.length ≤ 400 ∧ f.value.length ≤ 400) ∧ x.ss.length ≤ 40) := fun h1 h2 x hx => by
        rw [List.take_succ_eq_append_getElem hlt] at hx
        rcases List.mem_append.1 hx with h | h
        · exact HA.out x h
        · simp at h
          subst h
          exact ⟨(large_no h1).1, (large_no h1).2, h2⟩
      generalize largeF xs[k].fs 40 400 = q at HLG HNX
      generalize xs[k].fs.length = nf at HLG d4
      generalize xs[k].ss.length = ns at d5 HNX
      clear c0 c1 c2 c3 c4 c5 hF hSe HA
      cases q
      · by_cases hs : ns ≤ 40
        · have s1 : ¬ (40 : Int) < (ns : Int) := by omega
          have s2 : ¬ 40 < ns := by omega
          have HN2 := Lib.hid (HNX.out rfl hs)
          go_wp2_with (go_at_call 15; (with_reducible refine (HLG.out _ (by repeat (first | exact HBW.out | (with_reducible refine Below.allocS ?_ _) | (with_reducible refine Below.moreS ?_ _) | (with_reducible refine Below.drew ?_)))).mono ?_); rintro e w' ⟨rfl, j, rfl⟩)
          go_round
          case rel => exact ⟨k + 1, hlt, by go_num, HN2.out, _, rfl⟩
          case measure => simp [intOf]; omega
        · have s1 : (40 : Int) < (ns : Int) := by omega
          have s2 : 40 < ns := by omega
          go_wp2_with (go_at_call 15; (with_reducible refine (HLG.out _ (by repeat (first | exact HBW.out | (with_reducible refine Below.allocS ?_ _) | (with_reducible refine Below.moreS ?_ _) | (with_reducible refine Below.drew ?_)))).mono ?_); rintro e w' ⟨rfl, j, rfl⟩)
          go_ret
          exact ⟨⟨true, rfl, fun h => by cases h⟩, Below.junk (by repeat (first | exact HBW.out | (with_reducible refine Below.allocS ?_ _) | (with_reducible refine Below.moreS ?_ _) | (with_reducible refine Below.drew ?_)))⟩
      · go_wp2_with (go_at_call 15; (with_reducible refine (HLG.out _ (by repeat (first | exact HBW.out | (with_reducible refine Below.allocS ?_ _) | (with_reducible refine Below.moreS ?_ _) | (with_reducible refine Below.drew ?_)))).mono ?_); rintro e w' ⟨rfl, j, rfl⟩)
        go_ret
        exact ⟨⟨true, rfl, fun h => by cases h⟩, Below.junk (by repeat (first | exact HBW.out | (with_reducible refine Below.allocS ?_ _) | (with_reducible refine Below.moreS ?_ _) | (with_reducible refine Below.drew ?_)))⟩
    · obtain rfl : k = xs.length := by omega
      have HE : Hid (SmallS xs) := by
        have h := HA.out
        rw [List.take_length] at h
        exact ⟨HLN.out, h⟩
      have hkl : ¬ (xs.length : Int) < (xs.length : Int) := by omega
      clear HA HS
      go_wp2_with fail
      go_ret
      exact ⟨⟨false, rfl, fun _ => HE.out⟩, Below.junk (by repeat (first | exact HBW.out | (with_reducible refine Below.allocS ?_ _) | (with_reducible refine Below.moreS ?_ _) | (with_reducible refine Below.drew ?_)))⟩

/-! Rows of steps whose own rows lie in a world before. -/
structure OwnW (W0 : World) (e : TypeId) (B : Nat) (w : World) (v : Value) (xs : List St) : Prop where
  st : ∃ ps : List (List Value), ps.length = xs.length ∧ w.ownsRow B e 6 v xs.length (ps.flatMap fun p => p) ∧ ∀ k (h : k < xs.length) (h2 : k < ps.length), stIs W0 xs[k] ps[k]
section
variable {W0 : World} {e : TypeId} {B : Nat} {w w' : World} {v : Value} {xs : List St}
theorem OwnW.nil : OwnW W0 e B w (.slice none 0 0) [] := ⟨[], rfl, World.ownsRow_nil _ _ _ _, fun k h _ => by simp at h⟩
theorem OwnW.keep (h : OwnW W0 e B w v xs) (ho : ∀ n ps, w.ownsRow B e 6 v n ps → w'.ownsRow B e 6 v n ps) : OwnW W0 e B w' v xs := by
  obtain ⟨ps, h1, h2, h3⟩ := h.st
  exact ⟨ps, h1, ho _ _ h2, h3⟩
theorem OwnW.below (h : OwnW W0 e B w v xs) (hb : Below w.heap.size w w') : OwnW W0 e B w' v xs := h.keep (fun _ _ ho => own_below ho hb (Nat.le_refl _))
theorem OwnW.far {u : Value} {g i : Nat} {t : TypeId} {cs : Array Value} (h : OwnW W0 e B w v xs) (hb : Blk w g t cs) (h0 : t ≠ e) : OwnW W0 e B (w.setCell ⟨g, i, none⟩ u) v xs := h.keep (fun _ _ ho => own_far ho hb h0)
theorem OwnW.slice (h : OwnW W0 e B w v xs) : ∃ a c, v = .slice a xs.length c := by
  obtain ⟨ps, h1, h2, h3⟩ := h.st
  obtain ⟨a, c, h4, _⟩ := own_slice h2
  exact ⟨a, c, h4⟩
theorem st_one {x : St} {p : List Value} (h : stIs w x p) : p.length = 6 ∧ ∀ u ∈ p, u.oneCell' = true := by
  obtain ⟨fa, fc, sa, sc, rfl, _⟩ := h
  refine ⟨rfl, fun u hu => ?_⟩
  simp only [List.mem_cons, List.not_mem_nil, or_false] at hu
  rcases hu with rfl | rfl | rfl | rfl | rfl | rfl <;> rfl
theorem OwnW.read {a : Option Addr} {n c : Nat} (h : OwnW W0 e B w (.slice a n c) xs) (hW : Below W0.heap.size W0 w) : SlSt w w w.heap.size a xs := by
  obtain ⟨ps, h1, h2, h3⟩ := h.st
  rw [← h1] at h2
  have hl : ∀ p ∈ ps, p.length = 6 := fun p hp => by
    obtain ⟨k, hk, rfl⟩ := List.getElem_of_mem hp
    exact (st_one (h3 k (by omega) hk)).1
  obtain ⟨a2, c2, e2, hr⟩ := own_slr (c := fun p : List Value => p) h2 hl
  injection e2 with e2 _ _
  subst e2
  intro k hk
  obtain ⟨b, off, cs, ha, hb, hcs, hc⟩ := hr k (by omega)
  exact ⟨b, off, cs, ha, hb, by rw [hcs]; exact (h3 k hk (by omega)).low hW, hc⟩
theorem OwnW.snoc {v' : Value} {x : St} {ps : List (List Value)} {p : List Value} (h1 : ps.length = xs.length) (h3 : ∀ k (h : k < xs.length) (h2 : k < ps.length), stIs W0 xs[k] ps[k]) (hp : stIs W0 x p) (h : w'.ownsRow B e 6 v' (xs.length + 1) (ps.flatMap (fun p => p) ++ p)) : OwnW W0 e B w' v' (xs ++ [x]) := by
  refine ⟨ps ++ [p], by simp [h1], ?_, fun k a b => ?_⟩
  · rw [List.length_append, List.flatMap_append]
    simpa using h
  · by_cases hlt : k < xs.length
    · rw [List.getElem_append_left hlt, List.getElem_append_left (show k < ps.length by omega)]
      exact h3 k hlt (by omega)
    · have e : k = xs.length := by simp at a; omega
      subst e
      have e2 : (ps ++ [p])[xs.length] = p := by
        rw [List.getElem_append_right (by omega)]
        simp [h1]
      have e3 : (xs ++ [x])[xs.length] = x := by simp
      rw [e2, e3]
      exact hp
end
theorem app_stepW {ops : Array Oper} {rest : List Oper} {o : Oper} {a : Act} {Q : Exit → Act → World → Prop} {w W0 : World} {ty e : TypeId} {z : Value} (hT : SliceTy Tryz.prog ty e z 6 80)
    (s x : Operand) (hgd : o.guard = none) (ho : o.op = .call { callee := .builtin .append, args := #[s, x], argTypes := #[ty, ty] })
    {B : Nat} {v : Value} {xs : List St} {y : St} (hs : a.eval s = v) (hown : OwnW W0 e B w v xs) {cs : Array Value} (hy : stIs W0 y cs.toList)
    {g cc : Nat} {e' : TypeId} (hx : a.eval x = .slice (some ⟨g, 0, none⟩) 1 cc) (hb : Blk w g e' cs)
    (hl : xs.length + 1 ≤ 1048576) (hB : B ≤ w.heap.size)
    (h : ∀ v' w', OwnW W0 e B w' v' (xs ++ [y]) → Below B w w' → (∀ g t cs, Blk w g t cs → t ≠ e → Blk w' g t cs) → wpList Tryz.prog ops Q rest (a.put o.dst v') w') : wpList Tryz.prog ops Q (o :: rest) a w := by
  obtain ⟨ps, h1, h2, h3⟩ := hown.st
  obtain ⟨hn, h1c⟩ := st_one hy
  exact wpList_app hT s x hgd ho hs h2 hx hb (by simpa using hn) h1c (by unfold maxLen; omega) (by omega) hB (fun v' w' h4 h5 => h v' w' (OwnW.snoc h1 h3 hy h4) (own_grown (Below.refl B w) h2 h5 (Nat.le_refl _) hB) (fun g t cs hbk ht => hbk.grown h5 (own_ne_ty h2 hbk ht)))
theorem step_stepW {ops : Array Oper} {o : Oper} {a : Act} {K : Act → World → Prop} {Q : Exit → Act → World → Prop} {E : Prop} {w W0 : World} {ty e : TypeId} {z : Value} (hT : SliceTy Tryz.prog ty e z 6 80)
    (s x : Operand) (hgd : o.guard = none) (ho : o.op = .call { callee := .builtin .append, args := #[s, x], argTypes := #[ty, ty] })
    {B : Nat} {v : Value} {xs : List St} {y : St} (hs : a.eval s = v) (hown : OwnW W0 e B w v xs) {cs : Array Value} (hy : stIs W0 y cs.toList)
    {g cc : Nat} {e' : TypeId} (hx : a.eval x = .slice (some ⟨g, 0, none⟩) 1 cc) (hb : Blk w g e' cs)
    (hl : xs.length + 1 ≤ 1048576) (hB : B ≤ w.heap.size)
    (h : ∀ v' w', OwnW W0 e B w' v' (xs ++ [y]) → Below B w w' → (∀ g t cs, Blk w g t cs → t ≠ e → Blk w' g t cs) → w.grownBy w' v.ownBlock → K (a.put o.dst v') w') : if Region.wanted o (yielded ops a.tmps) = true then Oper.wp Tryz.prog o a w K Q else E := by
  obtain ⟨ps, h1, h2, h3⟩ := hown.st
  obtain ⟨hn, h1c⟩ := st_one hy
  exact step_app hT s x hgd ho hs h2 hx hb (by simpa using hn) h1c (by unfold maxLen; omega) (by omega) hB (fun v' w' h4 h5 => h v' w' (OwnW.snoc h1 h3 hy h4) (own_grown (Below.refl B w) h2 h5 (Nat.le_refl _) hB) (fun g t cs hbk ht => hbk.grown h5 (own_ne_ty h2 hbk ht)) h5)
end Go.Proofs.YtfcgdfcekpbliaaGreatDoor
