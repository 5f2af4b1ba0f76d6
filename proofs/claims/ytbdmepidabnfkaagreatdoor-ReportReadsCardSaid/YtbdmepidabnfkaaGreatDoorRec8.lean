/-
  Records: a line read, the document's road.
-/
import Derived.Test.YtbdmepidabnfkaaGreatDoorRec6
import Derived.Test.YtbdmepidabnfkaaGreatDoorRecT
import Derived.Test.YtbdmepidabnfkaaGreatDoorMg
import Derived.Deep.DeepCutAuto
namespace Go.Proofs.YtbdmepidabnfkaaGreatDoor
set_option linter.unusedSimpArgs false
set_option linter.unusedVariables false
set_option linter.unusedSectionVars false
open Go.ChangeShapes Go.WideShapes Go.ChangeAt Go.RowKit Go.Deep Go.Shelf

theorem findF_bd (l : List (List UInt8)) (s : List UInt8) : -1 ≤ findF l s ∧ findF l s ≤ l.length := by
  unfold findF
  split
  · have := List.idxOf_le_length (a := s) (l := l); omega
  · omega
theorem carve {W0 wF : World} {g : Nat} {t : TypeId} {cs : Array Value} (hb : Below W0.heap.size W0 wF) (hB : Blk wF g t cs) (hg : W0.heap.size ≤ g) : ∃ j1 j2 : Junk, wF = ((W0.more j1).alloc (.cells cs t)).more j2 ∧ g = (W0.more j1).heap.size := by
  have hlt := hB.lt
  refine ⟨⟨wF.heap.extract W0.heap.size g, 0⟩, ⟨wF.heap.extract (g + 1) wF.heap.size, wF.drawn⟩, ?_, ?_⟩
  · have e : wF.heap = ((W0.heap ++ wF.heap.extract W0.heap.size g).push (.cells cs t)) ++ wF.heap.extract (g + 1) wF.heap.size := by
      apply Array.ext_getElem?
      intro k
      have hs : (W0.heap ++ wF.heap.extract W0.heap.size g).size = g := by simp; omega
      rw [Array.getElem?_append]
      by_cases hk : k < g + 1
      · rw [if_pos (by rw [Array.size_push, hs]; exact hk), Array.getElem?_push, hs]
        by_cases hkg : k = g
        · rw [if_pos hkg, hkg]; exact hB
        · rw [if_neg hkg, Array.getElem?_append]
          by_cases hk0 : k < W0.heap.size
          · rw [if_pos hk0]; exact hb.block k hk0
          · rw [if_neg hk0, Array.getElem?_extract, if_pos (by omega)]; congr 1; omega
      · rw [if_neg (by rw [Array.size_push, hs]; exact hk), Array.getElem?_extract, Array.size_push, hs]
        by_cases hk2 : k < wF.heap.size
        · rw [if_pos (by omega)]; congr 1; omega
        · rw [if_neg (by omega), Array.getElem?_eq_none (by omega)]
    cases wF
    obtain ⟨h1, h2, h3, h4, h5⟩ := hb
    simp only at h1 h2 h3 e
    subst h1 h2 h3
    simp only [World.more, World.alloc]
    exact congrArg (fun x => ({ heap := x, tape := _, drawn := _, os := _, output := _ } : World)) e
  · simp [World.more]; omega
theorem sidesX {w : World} {g : Nat} (hc : ∀ k, k < 2 → w.cell? ⟨g, k, none⟩ = some (bstr (sideN k))) (hg : g < w.heap.size) : SlX w w.heap.size (some ⟨g, 0, none⟩) [[99, 108, 105, 101, 110, 116], [115, 101, 114, 118, 101, 114]] := by
  have LL : ∀ x ∈ ([[99, 108, 105, 101, 110, 116], [115, 101, 114, 118, 101, 114]] : List (List UInt8)), x.length ≤ maxLen := by decide
  intro k hk
  refine ⟨g, 0, [bstr ([[99, 108, 105, 101, 110, 116], [115, 101, 114, 118, 101, 114]][k])], rfl, hg, ⟨rfl, ?_⟩, fun j u hu => ?_⟩
  · exact LL _ (List.getElem_mem hk)
  · match j, hu with
    | 0, hu =>
      simp at hu
      subst hu
      have := hc k hk
      match k, hk, this with
      | 0, _, this => exact this
      | 1, _, this => exact this
theorem kindsX {w : World} {g : Nat} (hc : ∀ k, k < 4 → w.cell? ⟨g, k, none⟩ = some (bstr (kindN k))) (hg : g < w.heap.size) : SlX w w.heap.size (some ⟨g, 0, none⟩) [[97, 108, 108, 111, 119, 101, 100], [105, 103, 110, 111, 114, 101, 100], [114, 101, 106, 101, 99, 116, 101, 100], [108, 105, 109, 105, 116, 101, 100]] := by
  have LL : ∀ x ∈ ([[97, 108, 108, 111, 119, 101, 100], [105, 103, 110, 111, 114, 101, 100], [114, 101, 106, 101, 99, 116, 101, 100], [108, 105, 109, 105, 116, 101, 100]] : List (List UInt8)), x.length ≤ maxLen := by decide
  intro k hk
  refine ⟨g, 0, [bstr ([[97, 108, 108, 111, 119, 101, 100], [105, 103, 110, 111, 114, 101, 100], [114, 101, 106, 101, 99, 116, 101, 100], [108, 105, 109, 105, 116, 101, 100]][k])], rfl, hg, ⟨rfl, ?_⟩, fun j u hu => ?_⟩
  · exact LL _ (List.getElem_mem hk)
  · match j, hu with
    | 0, hu =>
      simp at hu
      subst hu
      have := hc k hk
      match k, hk, this with
      | 0, _, this => exact this
      | 1, _, this => exact this
      | 2, _, this => exact this
      | 3, _, this => exact this
theorem close8 {A wF : World} {J : Junk} {g b off : Nat} {cs : Array Value} {v3 v4 v5 : Value} (hbF : Below (A.more J).heap.size (A.more J) wF) (hB : Blk wF g RecT cs) (hg : (A.more J).heap.size ≤ g) (hb : b < (A.more J).heap.size)
    (d3 : (A.more J).cell? ⟨b, off + 3, none⟩ = some v3) (d4 : (A.more J).cell? ⟨b, off + 4, none⟩ = some v4) (d5 : (A.more J).cell? ⟨b, off + 5, none⟩ = some v5) :
    ∃ j1 j2 : Junk, Value.pointer (some ⟨g, 0, none⟩) = .pointer (some ⟨(A.more j1).heap.size, 0, none⟩) ∧ wF = ((A.more j1).alloc (.cells cs RecT)).more j2 ∧ b < (A.more j1).heap.size ∧ (A.more j1).cell? ⟨b, off + 3, none⟩ = some v3 ∧ (A.more j1).cell? ⟨b, off + 4, none⟩ = some v4 ∧ (A.more j1).cell? ⟨b, off + 5, none⟩ = some v5 := by
  obtain ⟨k1, k2, e1, e2⟩ := carve hbF hB hg
  rw [World.more_more] at e1 e2
  have hbb : Below (A.more J).heap.size (A.more J) (A.more ⟨J.heap ++ k1.heap, k1.drawn⟩) := grown_merge A J k1.heap k1.drawn
  exact ⟨_, k2, by rw [e2], e1, Nat.lt_of_lt_of_le hb hbb.size, (hbb.cell (p := ⟨b, off + 3, none⟩) hb).trans d3, (hbb.cell (p := ⟨b, off + 4, none⟩) hb).trans d4, (hbb.cell (p := ⟨b, off + 5, none⟩) hb).trans d5⟩
section
variable {P : Program} {ops : Array Oper} {Q : Exit → Act → World → Prop} {md : Region.Mode}
theorem fixed_step {S : World → Prop} (i : Nat) {o : Oper} {fuel : Nat} {listed : Array Bool} {a : Act} {w : World} (hr : Region.ready md ops listed = [i]) (ho : ops[i]? = some o)
    (h : ∀ K' : Act → World → Prop, Shut (∀ a' w', S w' → wpAnyH P md ops Q S fuel (listed.setIfInBounds i true) a' w' → K' a' w') → if Region.wanted o (yielded ops a.tmps) = true then Oper.wp P o a w K' Q else K' (a.put o.dst undef) w) :
    wpAnyH P md ops Q S (fuel + 1) listed a w :=
  wpAnyH_ready hr (by simp) (AllReadyH.cons ho (fun K' hK => h K' (fun a' w' hg hw => hK.out a' w' hg (fun _ => hw))) AllReadyH.nil)
theorem fixed_two {S : World → Prop} (i k : Nat) {o p : Oper} {fuel : Nat} {listed : Array Bool} {a : Act} {w : World} (hr : Region.ready md ops listed = [i, k]) (ho : ops[i]? = some o) (hp : ops[k]? = some p)
    (h : ∀ K' : Act → World → Prop, Shut (∀ a' w', S w' → wpAnyH P md ops Q S fuel (listed.setIfInBounds i true) a' w' → K' a' w') → if Region.wanted o (yielded ops a.tmps) = true then Oper.wp P o a w K' Q else K' (a.put o.dst undef) w)
    (h2 : ∀ K' : Act → World → Prop, Shut (∀ a' w', S w' → wpAnyH P md ops Q S fuel (listed.setIfInBounds k true) a' w' → K' a' w') → if Region.wanted p (yielded ops a.tmps) = true then Oper.wp P p a w K' Q else K' (a.put p.dst undef) w) :
    wpAnyH P md ops Q S (fuel + 1) listed a w :=
  wpAnyH_ready hr (by simp) (AllReadyH.cons ho (fun K' hK => h K' (fun a' w' hg hw => hK.out a' w' hg (fun _ => hw))) (AllReadyH.cons hp (fun K' hK => h2 K' (fun a' w' hg hw => hK.out a' w' hg (fun _ => hw))) AllReadyH.nil))
end
set_option maxHeartbeats 16000000 in
set_option maxRecDepth 100000 in
theorem ref41_Read_main (s u0 u1 u2 u3 u4 u5 u6 : List UInt8) (hsp : splitF s = ([u0, u1, u2, u3, u4, u5, u6], true)) (hm : s.length ≤ 90000) (w : World) :
    Calls Tryz.prog 54 #[bstr s] w fun e w' => e = .returned (.tuple #[.agg (recC (readRecR s).1), .bool (readRecR s).2]) ∧ ∃ j, w' = w.more j := by
  have H1 : Hid (∀ W, Calls Tryz.prog 52 #[bstr s] W fun e w' => ∃ a cap, e = .returned (.tuple #[.slice a 7 cap, .bool true]) ∧ SlX w' w'.heap.size a [u0, u1, u2, u3, u4, u5, u6] ∧ Below W.heap.size W w') := fun W => by
    have := ref04_Split s W hm
    rw [hsp] at this
    exact this
  have LN : ∀ x ∈ [u0, u1, u2, u3, u4, u5, u6], x.length ≤ 1048576 := by
    have : ∀ x ∈ (splitF s).1, x.length ≤ 1048576 := fun x hx => by
      unfold splitF at hx
      split at hx
      · simp at hx
      · split at hx
        · have := cut_short 32 s x hx; omega
        · simp at hx
    rw [hsp] at this
    exact this
  have HR : Hid (readRecR s = if recR ⟨findF [[99, 108, 105, 101, 110, 116], [115, 101, 114, 118, 101, 114]] u1, (byNameF u2).1, (readF u3).1, (readF u4).1, (readF u5).1, 1 + findF [[97, 108, 108, 111, 119, 101, 100], [105, 103, 110, 111, 114, 101, 100], [114, 101, 106, 101, 99, 116, 101, 100], [108, 105, 109, 105, 116, 101, 100]] u6⟩ = true ∧ recLine ⟨findF [[99, 108, 105, 101, 110, 116], [115, 101, 114, 118, 101, 114]] u1, (byNameF u2).1, (readF u3).1, (readF u4).1, (readF u5).1, 1 + findF [[97, 108, 108, 111, 119, 101, 100], [105, 103, 110, 111, 114, 101, 100], [114, 101, 106, 101, 99, 116, 101, 100], [108, 105, 109, 105, 116, 101, 100]] u6⟩ = s then (⟨findF [[99, 108, 105, 101, 110, 116], [115, 101, 114, 118, 101, 114]] u1, (byNameF u2).1, (readF u3).1, (readF u4).1, (readF u5).1, 1 + findF [[97, 108, 108, 111, 119, 101, 100], [105, 103, 110, 111, 114, 101, 100], [114, 101, 106, 101, 99, 116, 101, 100], [108, 105, 109, 105, 116, 101, 100]] u6⟩, true) else (zRec, false)) := by
    show _ = _
    unfold readRecR
    rw [hsp, if_pos ⟨rfl, rfl⟩]
    rfl
  have HS := Lib.hid ref41_sides
  have HK := Lib.hid ref41_Kinds
  have HB : Hid (∀ W, Calls Tryz.prog 94 #[bstr u2] W fun e w' => e = .returned (.tuple #[.int .i64 (byNameF u2).1, .bool (byNameF u2).2]) ∧ ∃ j, w' = W.more j) := fun W => ref08_ByName u2 (LN u2 (by simp)) W
  have HF1 : Hid (∀ g W, SlX W W.heap.size (some ⟨g, 0, none⟩) [[99, 108, 105, 101, 110, 116], [115, 101, 114, 118, 101, 114]] → Calls Tryz.prog 95 #[.slice (some ⟨g, 0, none⟩) 2 2, bstr u1] W fun e w' => e = .returned (.int .i64 (findF [[99, 108, 105, 101, 110, 116], [115, 101, 114, 118, 101, 114]] u1)) ∧ W = w') := fun g W h => ref41_find (some ⟨g, 0, none⟩) 2 [[99, 108, 105, 101, 110, 116], [115, 101, 114, 118, 101, 114]] u1 (by decide) W h
  have HF2 : Hid (∀ g W, SlX W W.heap.size (some ⟨g, 0, none⟩) [[97, 108, 108, 111, 119, 101, 100], [105, 103, 110, 111, 114, 101, 100], [114, 101, 106, 101, 99, 116, 101, 100], [108, 105, 109, 105, 116, 101, 100]] → Calls Tryz.prog 95 #[.slice (some ⟨g, 0, none⟩) 4 4, bstr u6] W fun e w' => e = .returned (.int .i64 (findF [[97, 108, 108, 111, 119, 101, 100], [105, 103, 110, 111, 114, 101, 100], [114, 101, 106, 101, 99, 116, 101, 100], [108, 105, 109, 105, 116, 101, 100]] u6)) ∧ W = w') := fun g W h => ref41_find (some ⟨g, 0, none⟩) 4 [[97, 108, 108, 111, 119, 101, 100], [105, 103, 110, 111, 114, 101, 100], [114, 101, 106, 101, 99, 116, 101, 100], [108, 105, 109, 105, 116, 101, 100]] u6 (by decide) W h
  have HR3 : Hid (∀ W, Calls Tryz.prog 93 #[bstr u3] W fun e w' => e = .returned (.tuple #[.int .i64 (readF u3).1, .bool (readF u3).2]) ∧ W = w') := fun W => by rw [read_eq]; exact ref03_Read u3 (LN u3 (by simp)) W
  have HR4 : Hid (∀ W, Calls Tryz.prog 93 #[bstr u4] W fun e w' => e = .returned (.tuple #[.int .i64 (readF u4).1, .bool (readF u4).2]) ∧ W = w') := fun W => by rw [read_eq]; exact ref03_Read u4 (LN u4 (by simp)) W
  have HR5 : Hid (∀ W, Calls Tryz.prog 93 #[bstr u5] W fun e w' => e = .returned (.tuple #[.int .i64 (readF u5).1, .bool (readF u5).2]) ∧ W = w') := fun W => by rw [read_eq]; exact ref03_Read u5 (LN u5 (by simp)) W
  obtain ⟨bf1, bf2⟩ := findF_bd [[99, 108, 105, 101, 110, 116], [115, 101, 114, 118, 101, 114]] u1
  obtain ⟨bk1, bk2⟩ := findF_bd [[97, 108, 108, 111, 119, 101, 100], [105, 103, 110, 111, 114, 101, 100], [114, 101, 106, 101, 99, 116, 101, 100], [108, 105, 109, 105, 116, 101, 100]] u6
  simp only [List.length_cons, List.length_nil, Nat.zero_add] at bf2 bk2
  clear LN hsp hm
  generalize readRecR s = R at HR ⊢
  generalize findF [[99, 108, 105, 101, 110, 116], [115, 101, 114, 118, 101, 114]] u1 = F1 at HF1 HR bf1 bf2
  generalize findF [[97, 108, 108, 111, 119, 101, 100], [105, 103, 110, 111, 114, 101, 100], [114, 101, 106, 101, 99, 116, 101, 100], [108, 105, 109, 105, 116, 101, 100]] u6 = F2 at HF2 HR bk1 bk2
  generalize byNameF u2 = A2 at HB HR
  generalize readF u3 = A3 at HR3 HR
  generalize readF u4 = A4 at HR4 HR
  generalize readF u5 = A5 at HR5 HR
  obtain ⟨f2, b2⟩ := A2
  obtain ⟨f3, b3⟩ := A3
  obtain ⟨f4, b4⟩ := A4
  obtain ⟨f5, b5⟩ := A5
  simp only at HB HR3 HR4 HR5 HR
  have sk : IntKind.i64.wrap (1 + F2) = 1 + F2 := IntWalk.i64_in _ (by omega)
  have HRt : Hid (∀ W, Calls Tryz.prog 33 #[.agg #[.int .i64 F1, .int .i64 f2, .int .i64 f3, .int .i64 f4, .int .i64 f5, .int .i64 (1 + F2)]] W fun e w' => e = .returned (.bool (recR ⟨F1, f2, f3, f4, f5, 1 + F2⟩)) ∧ ∃ j, w' = W.more j) := ref41_Right F1 f2 f3 f4 f5 (1 + F2)
  have HTx : Hid (recR ⟨F1, f2, f3, f4, f5, 1 + F2⟩ = true → ∀ W, Calls Tryz.prog 47 #[.agg #[.int .i64 F1, .int .i64 f2, .int .i64 f3, .int .i64 f4, .int .i64 f5, .int .i64 (1 + F2)]] W fun e w' => e = .returned (bstr (recLine ⟨F1, f2, f3, f4, f5, 1 + F2⟩)) ∧ ∃ j, w' = W.more j) := fun h => ref41_Text F1 f2 f3 f4 f5 (1 + F2) h
  generalize recR ⟨F1, f2, f3, f4, f5, 1 + F2⟩ = rr at HRt HTx HR
  generalize recLine ⟨F1, f2, f3, f4, f5, 1 + F2⟩ = T at HTx HR
  go_enter Tryz.func54, Tryz.ntmps54
  go_wp2_with fail
  refine (H1.out _).mono ?_
  rintro e w1 ⟨a, cap, rfl, hs1, hb1⟩
  obtain ⟨j, rfl⟩ := hb1.junk
  obtain ⟨b, off, rfl, hb, hc⟩ := slX_cell hs1 (by simp)
  have c1 := hc 1 (by simp)
  have c2 := hc 2 (by simp)
  have c3 := hc 3 (by simp)
  have c4 := hc 4 (by simp)
  have c5 := hc 5 (by simp)
  have c6 := hc 6 (by simp)
  simp only [List.getElem_cons_zero, List.getElem_cons_succ, Nat.add_zero] at c1 c2 c3 c4 c5 c6
  clear hs1 hb1 hc H1
  go_wp2_with fail
  refine (HB.out _).mono ?_
  rintro e w1 ⟨rfl, jb, hw1⟩
  have hbb : Below ((w.alloc (.cells #[.int .i64 0, .int .i64 0, .int .i64 0, .int .i64 0, .int .i64 0, .int .i64 0] 44)).more j).heap.size ((w.alloc (.cells #[.int .i64 0, .int .i64 0, .int .i64 0, .int .i64 0, .int .i64 0, .int .i64 0] 44)).more j) w1 := by rw [hw1]; exact Below.moreS (Below.refl _ _) jb
  have d1 := (hbb.cell (p := ⟨b, off + 1, none⟩) hb).trans c1
  have d3 := (hbb.cell (p := ⟨b, off + 3, none⟩) hb).trans c3
  have d4 := (hbb.cell (p := ⟨b, off + 4, none⟩) hb).trans c4
  have d5 := (hbb.cell (p := ⟨b, off + 5, none⟩) hb).trans c5
  have d6 := (hbb.cell (p := ⟨b, off + 6, none⟩) hb).trans c6
  have hbs := Nat.lt_of_lt_of_le hb hbb.size
  obtain ⟨J, rfl⟩ : ∃ J, w1 = (w.alloc (.cells #[.int .i64 0, .int .i64 0, .int .i64 0, .int .i64 0, .int .i64 0, .int .i64 0] 44)).more J := ⟨_, hw1.trans World.more_more⟩
  have hbs2 : b < w.heap.size + 1 + J.heap.size := by simpa using hbs
  have HBS := Lib.hid hbs
  clear hbs hw1 hbb c1 c2 c3 c4 c5 c6 hb jb HB
  go_wp2_with fail
  go_cut [8] (fun s8 wx => ∃ j1 j2 : Junk, s8 = .pointer (some ⟨((w.alloc (.cells #[.int .i64 0, .int .i64 0, .int .i64 0, .int .i64 0, .int .i64 0, .int .i64 0] 44)).more j1).heap.size, 0, none⟩) ∧ wx = (((w.alloc (.cells #[.int .i64 0, .int .i64 0, .int .i64 0, .int .i64 0, .int .i64 0, .int .i64 0] 44)).more j1).alloc (.cells #[.int .i64 F1, .int .i64 f2, .int .i64 0, .int .i64 0, .int .i64 0, .int .i64 (1 + F2)] 44)).more j2 ∧ b < ((w.alloc (.cells #[.int .i64 0, .int .i64 0, .int .i64 0, .int .i64 0, .int .i64 0, .int .i64 0] 44)).more j1).heap.size ∧ ((w.alloc (.cells #[.int .i64 0, .int .i64 0, .int .i64 0, .int .i64 0, .int .i64 0, .int .i64 0] 44)).more j1).cell? ⟨b, off + 3, none⟩ = some (bstr u3) ∧ ((w.alloc (.cells #[.int .i64 0, .int .i64 0, .int .i64 0, .int .i64 0, .int .i64 0, .int .i64 0] 44)).more j1).cell? ⟨b, off + 4, none⟩ = some (bstr u4) ∧ ((w.alloc (.cells #[.int .i64 0, .int .i64 0, .int .i64 0, .int .i64 0, .int .i64 0, .int .i64 0] 44)).more j1).cell? ⟨b, off + 5, none⟩ = some (bstr u5))
  case first =>
    refine grown_start (by kernel_rfl) ?_
    refine grown_take 1 (v := ?_) rfl (by kernel_rfl) (by kernel_rfl) (by kernel_rfl) (fun _ _ _ h => h) (Or.inl ⟨by first | kernel_rfl | rfl, ?_⟩) ?_
    rotate_left
    · intro wS hSw; have hSc := hSw.cell; clear hSw; go_simp; try with_reducible rfl
    try simp only [Act.put, List.getElem_toArray, List.getElem_cons_succ, List.getElem_cons_zero, List.setIfInBounds_toArray, List.set_cons_zero, List.set_cons_succ]
    refine grown_take 2 (v := ?_) rfl (by kernel_rfl) (by kernel_rfl) (by kernel_rfl) (fun _ _ _ h => h) (Or.inl ⟨by first | kernel_rfl | rfl, ?_⟩) ?_
    rotate_left
    · intro wS hSw; have hSc := hSw.cell; clear hSw; go_simp; try with_reducible rfl
    try simp only [Act.put, List.getElem_toArray, List.getElem_cons_succ, List.getElem_cons_zero, List.setIfInBounds_toArray, List.set_cons_zero, List.set_cons_succ]
    refine grown_take 3 (v := ?_) rfl (by kernel_rfl) (by kernel_rfl) (by kernel_rfl) (fun _ _ _ h => h) (Or.inl ⟨by first | kernel_rfl | rfl, ?_⟩) ?_
    rotate_left
    · intro wS hSw; have hSc := hSw.cell; clear hSw; go_simp; try with_reducible rfl
    try simp only [Act.put, List.getElem_toArray, List.getElem_cons_succ, List.getElem_cons_zero, List.setIfInBounds_toArray, List.set_cons_zero, List.set_cons_succ]
    refine grown_take 5 (v := ?_) rfl (by kernel_rfl) (by kernel_rfl) (by kernel_rfl) (fun _ _ _ h => h) (Or.inl ⟨by first | kernel_rfl | rfl, ?_⟩) ?_
    rotate_left
    · intro wS hSw; have hSc := hSw.cell; clear hSw; go_simp; try with_reducible rfl
    try simp only [Act.put, List.getElem_toArray, List.getElem_cons_succ, List.getElem_cons_zero, List.setIfInBounds_toArray, List.set_cons_zero, List.set_cons_succ]
    refine grown_take 7 (v := ?_) rfl (by kernel_rfl) (by kernel_rfl) (by kernel_rfl) (fun _ _ _ h => h) (Or.inl ⟨by first | kernel_rfl | rfl, ?_⟩) ?_
    rotate_left
    · intro wS hSw; have hSc := hSw.cell; clear hSw; go_simp; try with_reducible rfl
    try simp only [Act.put, List.getElem_toArray, List.getElem_cons_succ, List.getElem_cons_zero, List.setIfInBounds_toArray, List.set_cons_zero, List.set_cons_succ]
    refine grown_take 8 (v := ?_) rfl (by kernel_rfl) (by kernel_rfl) (by kernel_rfl) (fun _ _ _ h => h) (Or.inl ⟨by first | kernel_rfl | rfl, ?_⟩) ?_
    rotate_left
    · intro wS hSw; have hSc := hSw.cell; clear hSw; go_simp; try with_reducible rfl
    try simp only [Act.put, List.getElem_toArray, List.getElem_cons_succ, List.getElem_cons_zero, List.setIfInBounds_toArray, List.set_cons_zero, List.set_cons_succ]
    refine grown_take 9 (v := ?_) rfl (by kernel_rfl) (by kernel_rfl) (by kernel_rfl) (fun _ _ _ h => h) (Or.inl ⟨by first | kernel_rfl | rfl, ?_⟩) ?_
    rotate_left
    · intro wS hSw; have hSc := hSw.cell; clear hSw; go_simp; try with_reducible rfl
    try simp only [Act.put, List.getElem_toArray, List.getElem_cons_succ, List.getElem_cons_zero, List.setIfInBounds_toArray, List.set_cons_zero, List.set_cons_succ]
    refine fixed_two 0 13 (by kernel_rfl) rfl rfl (fun K hK => ?_) (fun K hK => ?_)
    · go_simp
      go_wp2_with fail
      refine (HS.out _).mono ?_
      rintro e wn ⟨g1, rfl, hc1, hg1, hb1⟩
      obtain ⟨jn, rfl⟩ := hb1.junk
      have HX1 := Lib.hid (sidesX hc1 hg1)
      clear hc1 hg1 hb1
      try simp only [World.more_drew, World.more_more, Array.append_assoc] at HX1
      go_wp2_with fail
      refine hK.out _ _ (show Below _ _ _ from (by (try (with_reducible refine grown_undrew ?_)); repeat (first | (with_reducible exact Below.refl _ _) | (with_reducible exact grown_merge _ _ _ _) | (with_reducible exact grown_merge2 _ _ _ _ _ _) | (with_reducible exact grown_merge3 _ _ _ _ _ _ _) | (with_reducible refine Below.allocS ?_ _) | (with_reducible refine Below.moreS ?_ _) | (with_reducible refine Below.drew ?_)))) ?_
      clear hK K
      try simp only [Act.put, List.getElem_toArray, List.getElem_cons_succ, List.getElem_cons_zero, List.setIfInBounds_toArray, List.set_cons_zero, List.set_cons_succ]
      refine fixed_two 4 13 (by kernel_rfl) rfl rfl (fun K hK => ?_) (fun K hK => ?_)
      · go_simp
        go_wp2_with (go_at_call 95; (with_reducible refine (HF1.out _ _ (by first | exact HX1.out | exact (HX1.out.below (Below.allocS (Below.refl _ _) _) (Nat.le_refl _)).mono (by simp) (fun _ _ _ h => h))).mono ?_); rintro e w' ⟨rfl, rfl⟩)
        refine hK.out _ _ (show Below _ _ _ from (by (try (with_reducible refine grown_undrew ?_)); repeat (first | (with_reducible exact Below.refl _ _) | (with_reducible exact grown_merge _ _ _ _) | (with_reducible exact grown_merge2 _ _ _ _ _ _) | (with_reducible exact grown_merge3 _ _ _ _ _ _ _) | (with_reducible refine Below.allocS ?_ _) | (with_reducible refine Below.moreS ?_ _) | (with_reducible refine Below.drew ?_)))) ?_
        clear hK K
        try simp only [Act.put, List.getElem_toArray, List.getElem_cons_succ, List.getElem_cons_zero, List.setIfInBounds_toArray, List.set_cons_zero, List.set_cons_succ]
        refine fixed_two 6 13 (by kernel_rfl) rfl rfl (fun K hK => ?_) (fun K hK => ?_)
        · go_simp
          go_wp2_with fail
          refine (HK.out _).mono ?_
          rintro e wn ⟨g2, rfl, hc2, hg2, hb2⟩
          obtain ⟨jm, rfl⟩ := hb2.junk
          have HX2 := Lib.hid (kindsX hc2 hg2)
          clear hc2 hg2 hb2
          try simp only [World.more_drew, World.more_more, Array.append_assoc] at HX2
          go_wp2_with fail
          refine hK.out _ _ (show Below _ _ _ from (by (try (with_reducible refine grown_undrew ?_)); repeat (first | (with_reducible exact Below.refl _ _) | (with_reducible exact grown_merge _ _ _ _) | (with_reducible exact grown_merge2 _ _ _ _ _ _) | (with_reducible exact grown_merge3 _ _ _ _ _ _ _) | (with_reducible refine Below.allocS ?_ _) | (with_reducible refine Below.moreS ?_ _) | (with_reducible refine Below.drew ?_)))) ?_
          clear hK K
          try simp only [Act.put, List.getElem_toArray, List.getElem_cons_succ, List.getElem_cons_zero, List.setIfInBounds_toArray, List.set_cons_zero, List.set_cons_succ]
          refine fixed_two 10 13 (by kernel_rfl) rfl rfl (fun K hK => ?_) (fun K hK => ?_)
          · go_simp
            go_wp2_with (go_at_call 95; (with_reducible refine (HF2.out _ _ (by first | exact HX2.out | exact (HX2.out.below (Below.allocS (Below.refl _ _) _) (Nat.le_refl _)).mono (by simp) (fun _ _ _ h => h))).mono ?_); rintro e w' ⟨rfl, rfl⟩)
            refine hK.out _ _ (show Below _ _ _ from (by (try (with_reducible refine grown_undrew ?_)); repeat (first | (with_reducible exact Below.refl _ _) | (with_reducible exact grown_merge _ _ _ _) | (with_reducible exact grown_merge2 _ _ _ _ _ _) | (with_reducible exact grown_merge3 _ _ _ _ _ _ _) | (with_reducible refine Below.allocS ?_ _) | (with_reducible refine Below.moreS ?_ _) | (with_reducible refine Below.drew ?_)))) ?_
            clear hK K
            try simp only [Act.put, List.getElem_toArray, List.getElem_cons_succ, List.getElem_cons_zero, List.setIfInBounds_toArray, List.set_cons_zero, List.set_cons_succ]
            refine wpAnyH_take (i := 11) (v := ?_) rfl (by kernel_rfl) (by kernel_rfl) (by kernel_rfl) (fun _ _ _ h => h) (Or.inl ⟨by rfl, ?_⟩) (show Below _ _ _ from (by (try (with_reducible refine grown_undrew ?_)); repeat (first | (with_reducible exact Below.refl _ _) | (with_reducible exact grown_merge _ _ _ _) | (with_reducible refine Below.allocS ?_ _) | (with_reducible refine Below.moreS ?_ _) | (with_reducible refine Below.drew ?_)))) ?_
            rotate_left
            · intro wS hSw; clear hSw; go_simp; try with_reducible rfl
            try simp only [Act.put, List.setIfInBounds_toArray, List.set_cons_zero, List.set_cons_succ]
            refine wpAnyH_take (i := 12) (v := ?_) rfl (by kernel_rfl) (by kernel_rfl) (by kernel_rfl) (fun _ _ _ h => h) (Or.inl ⟨by rfl, ?_⟩) (show Below _ _ _ from (by (try (with_reducible refine grown_undrew ?_)); repeat (first | (with_reducible exact Below.refl _ _) | (with_reducible exact grown_merge _ _ _ _) | (with_reducible refine Below.allocS ?_ _) | (with_reducible refine Below.moreS ?_ _) | (with_reducible refine Below.drew ?_)))) ?_
            rotate_left
            · intro wS hSw; clear hSw; go_simp; try with_reducible rfl
            try simp only [Act.put, List.setIfInBounds_toArray, List.set_cons_zero, List.set_cons_succ]
            refine fixed_step 13 (by kernel_rfl) rfl (fun K hK => ?_)
            go_simp
            go_wp2_with fail
            refine hK.out _ _ (show Below _ _ _ from (by (try (with_reducible refine grown_undrew ?_)); repeat (first | (with_reducible exact Below.refl _ _) | (with_reducible exact grown_merge _ _ _ _) | (with_reducible exact grown_merge2 _ _ _ _ _ _) | (with_reducible exact grown_merge3 _ _ _ _ _ _ _) | (with_reducible refine Below.allocS ?_ _) | (with_reducible refine Below.moreS ?_ _) | (with_reducible refine Below.drew ?_)))) ?_
            clear hK K
            try simp only [Act.put, List.getElem_toArray, List.getElem_cons_succ, List.getElem_cons_zero, List.setIfInBounds_toArray, List.set_cons_zero, List.set_cons_succ]
            refine fixed_step 14 (by kernel_rfl) rfl (fun K hK => ?_)
            go_simp
            go_wp2_with fail
            refine hK.out _ _ (show Below _ _ _ from (by (try (with_reducible refine grown_undrew ?_)); repeat (first | (with_reducible exact Below.refl _ _) | (with_reducible exact grown_merge _ _ _ _) | (with_reducible exact grown_merge2 _ _ _ _ _ _) | (with_reducible exact grown_merge3 _ _ _ _ _ _ _) | (with_reducible refine Below.allocS ?_ _) | (with_reducible refine Below.moreS ?_ _) | (with_reducible refine Below.drew ?_)))) ?_
            clear hK K
            try simp only [Act.put, List.getElem_toArray, List.getElem_cons_succ, List.getElem_cons_zero, List.setIfInBounds_toArray, List.set_cons_zero, List.set_cons_succ]
            refine wpAnyH_done (by kernel_rfl) ?_ _
            go_wp2_with fail
            go_meet
            exact close8 (by repeat (first | (with_reducible exact Below.refl _ _) | (with_reducible exact grown_merge _ _ _ _) | (with_reducible refine Below.allocS ?_ _) | (with_reducible refine Below.moreS ?_ _) | (with_reducible refine Below.drew ?_))) (by repeat (first | ((with_reducible apply Blk.at_); (simp; done)) | (with_reducible apply Blk.alloc) | (with_reducible apply Blk.more) | (with_reducible apply Blk.drew))) (by (try simp only [World.size_more, World.size_alloc, Array.size_append]); omega) HBS.out d3 d4 d5
          · go_simp
            go_wp2_with fail
            refine hK.out _ _ (show Below _ _ _ from (by (try (with_reducible refine grown_undrew ?_)); repeat (first | (with_reducible exact Below.refl _ _) | (with_reducible exact grown_merge _ _ _ _) | (with_reducible exact grown_merge2 _ _ _ _ _ _) | (with_reducible exact grown_merge3 _ _ _ _ _ _ _) | (with_reducible refine Below.allocS ?_ _) | (with_reducible refine Below.moreS ?_ _) | (with_reducible refine Below.drew ?_)))) ?_
            clear hK K
            try simp only [Act.put, List.getElem_toArray, List.getElem_cons_succ, List.getElem_cons_zero, List.setIfInBounds_toArray, List.set_cons_zero, List.set_cons_succ]
            refine fixed_step 10 (by kernel_rfl) rfl (fun K hK => ?_)
            go_simp
            go_wp2_with (go_at_call 95; (with_reducible refine (HF2.out _ _ (by first | exact HX2.out | exact (HX2.out.below (Below.allocS (Below.refl _ _) _) (Nat.le_refl _)).mono (by simp) (fun _ _ _ h => h))).mono ?_); rintro e w' ⟨rfl, rfl⟩)
            refine hK.out _ _ (show Below _ _ _ from (by (try (with_reducible refine grown_undrew ?_)); repeat (first | (with_reducible exact Below.refl _ _) | (with_reducible exact grown_merge _ _ _ _) | (with_reducible exact grown_merge2 _ _ _ _ _ _) | (with_reducible exact grown_merge3 _ _ _ _ _ _ _) | (with_reducible refine Below.allocS ?_ _) | (with_reducible refine Below.moreS ?_ _) | (with_reducible refine Below.drew ?_)))) ?_
            clear hK K
            try simp only [Act.put, List.getElem_toArray, List.getElem_cons_succ, List.getElem_cons_zero, List.setIfInBounds_toArray, List.set_cons_zero, List.set_cons_succ]
            refine wpAnyH_take (i := 11) (v := ?_) rfl (by kernel_rfl) (by kernel_rfl) (by kernel_rfl) (fun _ _ _ h => h) (Or.inl ⟨by rfl, ?_⟩) (show Below _ _ _ from (by (try (with_reducible refine grown_undrew ?_)); repeat (first | (with_reducible exact Below.refl _ _) | (with_reducible exact grown_merge _ _ _ _) | (with_reducible refine Below.allocS ?_ _) | (with_reducible refine Below.moreS ?_ _) | (with_reducible refine Below.drew ?_)))) ?_
            rotate_left
            · intro wS hSw; clear hSw; go_simp; try with_reducible rfl
            try simp only [Act.put, List.setIfInBounds_toArray, List.set_cons_zero, List.set_cons_succ]
            refine wpAnyH_take (i := 12) (v := ?_) rfl (by kernel_rfl) (by kernel_rfl) (by kernel_rfl) (fun _ _ _ h => h) (Or.inl ⟨by rfl, ?_⟩) (show Below _ _ _ from (by (try (with_reducible refine grown_undrew ?_)); repeat (first | (with_reducible exact Below.refl _ _) | (with_reducible exact grown_merge _ _ _ _) | (with_reducible refine Below.allocS ?_ _) | (with_reducible refine Below.moreS ?_ _) | (with_reducible refine Below.drew ?_)))) ?_
            rotate_left
            · intro wS hSw; clear hSw; go_simp; try with_reducible rfl
            try simp only [Act.put, List.setIfInBounds_toArray, List.set_cons_zero, List.set_cons_succ]
            refine fixed_step 14 (by kernel_rfl) rfl (fun K hK => ?_)
            go_simp
            go_wp2_with fail
            refine hK.out _ _ (show Below _ _ _ from (by (try (with_reducible refine grown_undrew ?_)); repeat (first | (with_reducible exact Below.refl _ _) | (with_reducible exact grown_merge _ _ _ _) | (with_reducible exact grown_merge2 _ _ _ _ _ _) | (with_reducible exact grown_merge3 _ _ _ _ _ _ _) | (with_reducible refine Below.allocS ?_ _) | (with_reducible refine Below.moreS ?_ _) | (with_reducible refine Below.drew ?_)))) ?_
            clear hK K
            try simp only [Act.put, List.getElem_toArray, List.getElem_cons_succ, List.getElem_cons_zero, List.setIfInBounds_toArray, List.set_cons_zero, List.set_cons_succ]
            refine wpAnyH_done (by kernel_rfl) ?_ _
            go_wp2_with fail
            go_meet
            exact close8 (by repeat (first | (with_reducible exact Below.refl _ _) | (with_reducible exact grown_merge _ _ _ _) | (with_reducible refine Below.allocS ?_ _) | (with_reducible refine Below.moreS ?_ _) | (with_reducible refine Below.drew ?_))) (by repeat (first | ((with_reducible apply Blk.at_); (simp; done)) | (with_reducible apply Blk.alloc) | (with_reducible apply Blk.more) | (with_reducible apply Blk.drew))) (by (try simp only [World.size_more, World.size_alloc, Array.size_append]); omega) HBS.out d3 d4 d5
        · go_simp
          go_wp2_with fail
          refine hK.out _ _ (show Below _ _ _ from (by (try (with_reducible refine grown_undrew ?_)); repeat (first | (with_reducible exact Below.refl _ _) | (with_reducible exact grown_merge _ _ _ _) | (with_reducible exact grown_merge2 _ _ _ _ _ _) | (with_reducible exact grown_merge3 _ _ _ _ _ _ _) | (with_reducible refine Below.allocS ?_ _) | (with_reducible refine Below.moreS ?_ _) | (with_reducible refine Below.drew ?_)))) ?_
          clear hK K
          try simp only [Act.put, List.getElem_toArray, List.getElem_cons_succ, List.getElem_cons_zero, List.setIfInBounds_toArray, List.set_cons_zero, List.set_cons_succ]
          refine fixed_step 6 (by kernel_rfl) rfl (fun K hK => ?_)
          go_simp
          go_wp2_with fail
          refine (HK.out _).mono ?_
          rintro e wn ⟨g2, rfl, hc2, hg2, hb2⟩
          obtain ⟨jm, rfl⟩ := hb2.junk
          have HX2 := Lib.hid (kindsX hc2 hg2)
          clear hc2 hg2 hb2
          try simp only [World.more_drew, World.more_more, Array.append_assoc] at HX2
          go_wp2_with fail
          refine hK.out _ _ (show Below _ _ _ from (by (try (with_reducible refine grown_undrew ?_)); repeat (first | (with_reducible exact Below.refl _ _) | (with_reducible exact grown_merge _ _ _ _) | (with_reducible exact grown_merge2 _ _ _ _ _ _) | (with_reducible exact grown_merge3 _ _ _ _ _ _ _) | (with_reducible refine Below.allocS ?_ _) | (with_reducible refine Below.moreS ?_ _) | (with_reducible refine Below.drew ?_)))) ?_
          clear hK K
          try simp only [Act.put, List.getElem_toArray, List.getElem_cons_succ, List.getElem_cons_zero, List.setIfInBounds_toArray, List.set_cons_zero, List.set_cons_succ]
          refine fixed_step 10 (by kernel_rfl) rfl (fun K hK => ?_)
          go_simp
          go_wp2_with (go_at_call 95; (with_reducible refine (HF2.out _ _ (by first | exact HX2.out | exact (HX2.out.below (Below.allocS (Below.refl _ _) _) (Nat.le_refl _)).mono (by simp) (fun _ _ _ h => h))).mono ?_); rintro e w' ⟨rfl, rfl⟩)
          refine hK.out _ _ (show Below _ _ _ from (by (try (with_reducible refine grown_undrew ?_)); repeat (first | (with_reducible exact Below.refl _ _) | (with_reducible exact grown_merge _ _ _ _) | (with_reducible exact grown_merge2 _ _ _ _ _ _) | (with_reducible exact grown_merge3 _ _ _ _ _ _ _) | (with_reducible refine Below.allocS ?_ _) | (with_reducible refine Below.moreS ?_ _) | (with_reducible refine Below.drew ?_)))) ?_
          clear hK K
          try simp only [Act.put, List.getElem_toArray, List.getElem_cons_succ, List.getElem_cons_zero, List.setIfInBounds_toArray, List.set_cons_zero, List.set_cons_succ]
          refine wpAnyH_take (i := 11) (v := ?_) rfl (by kernel_rfl) (by kernel_rfl) (by kernel_rfl) (fun _ _ _ h => h) (Or.inl ⟨by rfl, ?_⟩) (show Below _ _ _ from (by (try (with_reducible refine grown_undrew ?_)); repeat (first | (with_reducible exact Below.refl _ _) | (with_reducible exact grown_merge _ _ _ _) | (with_reducible refine Below.allocS ?_ _) | (with_reducible refine Below.moreS ?_ _) | (with_reducible refine Below.drew ?_)))) ?_
          rotate_left
          · intro wS hSw; clear hSw; go_simp; try with_reducible rfl
          try simp only [Act.put, List.setIfInBounds_toArray, List.set_cons_zero, List.set_cons_succ]
          refine wpAnyH_take (i := 12) (v := ?_) rfl (by kernel_rfl) (by kernel_rfl) (by kernel_rfl) (fun _ _ _ h => h) (Or.inl ⟨by rfl, ?_⟩) (show Below _ _ _ from (by (try (with_reducible refine grown_undrew ?_)); repeat (first | (with_reducible exact Below.refl _ _) | (with_reducible exact grown_merge _ _ _ _) | (with_reducible refine Below.allocS ?_ _) | (with_reducible refine Below.moreS ?_ _) | (with_reducible refine Below.drew ?_)))) ?_
          rotate_left
          · intro wS hSw; clear hSw; go_simp; try with_reducible rfl
          try simp only [Act.put, List.setIfInBounds_toArray, List.set_cons_zero, List.set_cons_succ]
          refine fixed_step 14 (by kernel_rfl) rfl (fun K hK => ?_)
          go_simp
          go_wp2_with fail
          refine hK.out _ _ (show Below _ _ _ from (by (try (with_reducible refine grown_undrew ?_)); repeat (first | (with_reducible exact Below.refl _ _) | (with_reducible exact grown_merge _ _ _ _) | (with_reducible exact grown_merge2 _ _ _ _ _ _) | (with_reducible exact grown_merge3 _ _ _ _ _ _ _) | (with_reducible refine Below.allocS ?_ _) | (with_reducible refine Below.moreS ?_ _) | (with_reducible refine Below.drew ?_)))) ?_
          clear hK K
          try simp only [Act.put, List.getElem_toArray, List.getElem_cons_succ, List.getElem_cons_zero, List.setIfInBounds_toArray, List.set_cons_zero, List.set_cons_succ]
          refine wpAnyH_done (by kernel_rfl) ?_ _
          go_wp2_with fail
          go_meet
          exact close8 (by repeat (first | (with_reducible exact Below.refl _ _) | (with_reducible exact grown_merge _ _ _ _) | (with_reducible refine Below.allocS ?_ _) | (with_reducible refine Below.moreS ?_ _) | (with_reducible refine Below.drew ?_))) (by repeat (first | ((with_reducible apply Blk.at_); (simp; done)) | (with_reducible apply Blk.alloc) | (with_reducible apply Blk.more) | (with_reducible apply Blk.drew))) (by (try simp only [World.size_more, World.size_alloc, Array.size_append]); omega) HBS.out d3 d4 d5
      · go_simp
        go_wp2_with fail
        refine hK.out _ _ (show Below _ _ _ from (by (try (with_reducible refine grown_undrew ?_)); repeat (first | (with_reducible exact Below.refl _ _) | (with_reducible exact grown_merge _ _ _ _) | (with_reducible exact grown_merge2 _ _ _ _ _ _) | (with_reducible exact grown_merge3 _ _ _ _ _ _ _) | (with_reducible refine Below.allocS ?_ _) | (with_reducible refine Below.moreS ?_ _) | (with_reducible refine Below.drew ?_)))) ?_
        clear hK K
        try simp only [Act.put, List.getElem_toArray, List.getElem_cons_succ, List.getElem_cons_zero, List.setIfInBounds_toArray, List.set_cons_zero, List.set_cons_succ]
        refine fixed_step 4 (by kernel_rfl) rfl (fun K hK => ?_)
        go_simp
        go_wp2_with (go_at_call 95; (with_reducible refine (HF1.out _ _ (by first | exact HX1.out | exact (HX1.out.below (Below.allocS (Below.refl _ _) _) (Nat.le_refl _)).mono (by simp) (fun _ _ _ h => h))).mono ?_); rintro e w' ⟨rfl, rfl⟩)
        refine hK.out _ _ (show Below _ _ _ from (by (try (with_reducible refine grown_undrew ?_)); repeat (first | (with_reducible exact Below.refl _ _) | (with_reducible exact grown_merge _ _ _ _) | (with_reducible exact grown_merge2 _ _ _ _ _ _) | (with_reducible exact grown_merge3 _ _ _ _ _ _ _) | (with_reducible refine Below.allocS ?_ _) | (with_reducible refine Below.moreS ?_ _) | (with_reducible refine Below.drew ?_)))) ?_
        clear hK K
        try simp only [Act.put, List.getElem_toArray, List.getElem_cons_succ, List.getElem_cons_zero, List.setIfInBounds_toArray, List.set_cons_zero, List.set_cons_succ]
        refine fixed_step 6 (by kernel_rfl) rfl (fun K hK => ?_)
        go_simp
        go_wp2_with fail
        refine (HK.out _).mono ?_
        rintro e wn ⟨g2, rfl, hc2, hg2, hb2⟩
        obtain ⟨jm, rfl⟩ := hb2.junk
        have HX2 := Lib.hid (kindsX hc2 hg2)
        clear hc2 hg2 hb2
        try simp only [World.more_drew, World.more_more, Array.append_assoc] at HX2
        go_wp2_with fail
        refine hK.out _ _ (show Below _ _ _ from (by (try (with_reducible refine grown_undrew ?_)); repeat (first | (with_reducible exact Below.refl _ _) | (with_reducible exact grown_merge _ _ _ _) | (with_reducible exact grown_merge2 _ _ _ _ _ _) | (with_reducible exact grown_merge3 _ _ _ _ _ _ _) | (with_reducible refine Below.allocS ?_ _) | (with_reducible refine Below.moreS ?_ _) | (with_reducible refine Below.drew ?_)))) ?_
        clear hK K
        try simp only [Act.put, List.getElem_toArray, List.getElem_cons_succ, List.getElem_cons_zero, List.setIfInBounds_toArray, List.set_cons_zero, List.set_cons_succ]
        refine fixed_step 10 (by kernel_rfl) rfl (fun K hK => ?_)
        go_simp
        go_wp2_with (go_at_call 95; (with_reducible refine (HF2.out _ _ (by first | exact HX2.out | exact (HX2.out.below (Below.allocS (Below.refl _ _) _) (Nat.le_refl _)).mono (by simp) (fun _ _ _ h => h))).mono ?_); rintro e w' ⟨rfl, rfl⟩)
        refine hK.out _ _ (show Below _ _ _ from (by (try (with_reducible refine grown_undrew ?_)); repeat (first | (with_reducible exact Below.refl _ _) | (with_reducible exact grown_merge _ _ _ _) | (with_reducible exact grown_merge2 _ _ _ _ _ _) | (with_reducible exact grown_merge3 _ _ _ _ _ _ _) | (with_reducible refine Below.allocS ?_ _) | (with_reducible refine Below.moreS ?_ _) | (with_reducible refine Below.drew ?_)))) ?_
        clear hK K
        try simp only [Act.put, List.getElem_toArray, List.getElem_cons_succ, List.getElem_cons_zero, List.setIfInBounds_toArray, List.set_cons_zero, List.set_cons_succ]
        refine wpAnyH_take (i := 11) (v := ?_) rfl (by kernel_rfl) (by kernel_rfl) (by kernel_rfl) (fun _ _ _ h => h) (Or.inl ⟨by rfl, ?_⟩) (show Below _ _ _ from (by (try (with_reducible refine grown_undrew ?_)); repeat (first | (with_reducible exact Below.refl _ _) | (with_reducible exact grown_merge _ _ _ _) | (with_reducible refine Below.allocS ?_ _) | (with_reducible refine Below.moreS ?_ _) | (with_reducible refine Below.drew ?_)))) ?_
        rotate_left
        · intro wS hSw; clear hSw; go_simp; try with_reducible rfl
        try simp only [Act.put, List.setIfInBounds_toArray, List.set_cons_zero, List.set_cons_succ]
        refine wpAnyH_take (i := 12) (v := ?_) rfl (by kernel_rfl) (by kernel_rfl) (by kernel_rfl) (fun _ _ _ h => h) (Or.inl ⟨by rfl, ?_⟩) (show Below _ _ _ from (by (try (with_reducible refine grown_undrew ?_)); repeat (first | (with_reducible exact Below.refl _ _) | (with_reducible exact grown_merge _ _ _ _) | (with_reducible refine Below.allocS ?_ _) | (with_reducible refine Below.moreS ?_ _) | (with_reducible refine Below.drew ?_)))) ?_
        rotate_left
        · intro wS hSw; clear hSw; go_simp; try with_reducible rfl
        try simp only [Act.put, List.setIfInBounds_toArray, List.set_cons_zero, List.set_cons_succ]
        refine fixed_step 14 (by kernel_rfl) rfl (fun K hK => ?_)
        go_simp
        go_wp2_with fail
        refine hK.out _ _ (show Below _ _ _ from (by (try (with_reducible refine grown_undrew ?_)); repeat (first | (with_reducible exact Below.refl _ _) | (with_reducible exact grown_merge _ _ _ _) | (with_reducible exact grown_merge2 _ _ _ _ _ _) | (with_reducible exact grown_merge3 _ _ _ _ _ _ _) | (with_reducible refine Below.allocS ?_ _) | (with_reducible refine Below.moreS ?_ _) | (with_reducible refine Below.drew ?_)))) ?_
        clear hK K
        try simp only [Act.put, List.getElem_toArray, List.getElem_cons_succ, List.getElem_cons_zero, List.setIfInBounds_toArray, List.set_cons_zero, List.set_cons_succ]
        refine wpAnyH_done (by kernel_rfl) ?_ _
        go_wp2_with fail
        go_meet
        exact close8 (by repeat (first | (with_reducible exact Below.refl _ _) | (with_reducible exact grown_merge _ _ _ _) | (with_reducible refine Below.allocS ?_ _) | (with_reducible refine Below.moreS ?_ _) | (with_reducible refine Below.drew ?_))) (by repeat (first | ((with_reducible apply Blk.at_); (simp; done)) | (with_reducible apply Blk.alloc) | (with_reducible apply Blk.more) | (with_reducible apply Blk.drew))) (by (try simp only [World.size_more, World.size_alloc, Array.size_append]); omega) HBS.out d3 d4 d5
    · go_simp
      go_wp2_with fail
      refine hK.out _ _ (show Below _ _ _ from (by (try (with_reducible refine grown_undrew ?_)); repeat (first | (with_reducible exact Below.refl _ _) | (with_reducible exact grown_merge _ _ _ _) | (with_reducible exact grown_merge2 _ _ _ _ _ _) | (with_reducible exact grown_merge3 _ _ _ _ _ _ _) | (with_reducible refine Below.allocS ?_ _) | (with_reducible refine Below.moreS ?_ _) | (with_reducible refine Below.drew ?_)))) ?_
      clear hK K
      try simp only [Act.put, List.getElem_toArray, List.getElem_cons_succ, List.getElem_cons_zero, List.setIfInBounds_toArray, List.set_cons_zero, List.set_cons_succ]
      refine fixed_step 0 (by kernel_rfl) rfl (fun K hK => ?_)
      go_simp
      go_wp2_with fail
      refine (HS.out _).mono ?_
      rintro e wn ⟨g1, rfl, hc1, hg1, hb1⟩
      obtain ⟨jn, rfl⟩ := hb1.junk
      have HX1 := Lib.hid (sidesX hc1 hg1)
      clear hc1 hg1 hb1
      try simp only [World.more_drew, World.more_more, Array.append_assoc] at HX1
      go_wp2_with fail
      refine hK.out _ _ (show Below _ _ _ from (by (try (with_reducible refine grown_undrew ?_)); repeat (first | (with_reducible exact Below.refl _ _) | (with_reducible exact grown_merge _ _ _ _) | (with_reducible exact grown_merge2 _ _ _ _ _ _) | (with_reducible exact grown_merge3 _ _ _ _ _ _ _) | (with_reducible refine Below.allocS ?_ _) | (with_reducible refine Below.moreS ?_ _) | (with_reducible refine Below.drew ?_)))) ?_
      clear hK K
      try simp only [Act.put, List.getElem_toArray, List.getElem_cons_succ, List.getElem_cons_zero, List.setIfInBounds_toArray, List.set_cons_zero, List.set_cons_succ]
      refine fixed_step 4 (by kernel_rfl) rfl (fun K hK => ?_)
      go_simp
      go_wp2_with (go_at_call 95; (with_reducible refine (HF1.out _ _ (by first | exact HX1.out | exact (HX1.out.below (Below.allocS (Below.refl _ _) _) (Nat.le_refl _)).mono (by simp) (fun _ _ _ h => h))).mono ?_); rintro e w' ⟨rfl, rfl⟩)
      refine hK.out _ _ (show Below _ _ _ from (by (try (with_reducible refine grown_undrew ?_)); repeat (first | (with_reducible exact Below.refl _ _) | (with_reducible exact grown_merge _ _ _ _) | (with_reducible exact grown_merge2 _ _ _ _ _ _) | (with_reducible exact grown_merge3 _ _ _ _ _ _ _) | (with_reducible refine Below.allocS ?_ _) | (with_reducible refine Below.moreS ?_ _) | (with_reducible refine Below.drew ?_)))) ?_
      clear hK K
      try simp only [Act.put, List.getElem_toArray, List.getElem_cons_succ, List.getElem_cons_zero, List.setIfInBounds_toArray, List.set_cons_zero, List.set_cons_succ]
      refine fixed_step 6 (by kernel_rfl) rfl (fun K hK => ?_)
      go_simp
      go_wp2_with fail
      refine (HK.out _).mono ?_
      rintro e wn ⟨g2, rfl, hc2, hg2, hb2⟩
      obtain ⟨jm, rfl⟩ := hb2.junk
      have HX2 := Lib.hid (kindsX hc2 hg2)
      clear hc2 hg2 hb2
      try simp only [World.more_drew, World.more_more, Array.append_assoc] at HX2
      go_wp2_with fail
      refine hK.out _ _ (show Below _ _ _ from (by (try (with_reducible refine grown_undrew ?_)); repeat (first | (with_reducible exact Below.refl _ _) | (with_reducible exact grown_merge _ _ _ _) | (with_reducible exact grown_merge2 _ _ _ _ _ _) | (with_reducible exact grown_merge3 _ _ _ _ _ _ _) | (with_reducible refine Below.allocS ?_ _) | (with_reducible refine Below.moreS ?_ _) | (with_reducible refine Below.drew ?_)))) ?_
      clear hK K
      try simp only [Act.put, List.getElem_toArray, List.getElem_cons_succ, List.getElem_cons_zero, List.setIfInBounds_toArray, List.set_cons_zero, List.set_cons_succ]
      refine fixed_step 10 (by kernel_rfl) rfl (fun K hK => ?_)
      go_simp
      go_wp2_with (go_at_call 95; (with_reducible refine (HF2.out _ _ (by first | exact HX2.out | exact (HX2.out.below (Below.allocS (Below.refl _ _) _) (Nat.le_refl _)).mono (by simp) (fun _ _ _ h => h))).mono ?_); rintro e w' ⟨rfl, rfl⟩)
      refine hK.out _ _ (show Below _ _ _ from (by (try (with_reducible refine grown_undrew ?_)); repeat (first | (with_reducible exact Below.refl _ _) | (with_reducible exact grown_merge _ _ _ _) | (with_reducible exact grown_merge2 _ _ _ _ _ _) | (with_reducible exact grown_merge3 _ _ _ _ _ _ _) | (with_reducible refine Below.allocS ?_ _) | (with_reducible refine Below.moreS ?_ _) | (with_reducible refine Below.drew ?_)))) ?_
      clear hK K
      try simp only [Act.put, List.getElem_toArray, List.getElem_cons_succ, List.getElem_cons_zero, List.setIfInBounds_toArray, List.set_cons_zero, List.set_cons_succ]
      refine wpAnyH_take (i := 11) (v := ?_) rfl (by kernel_rfl) (by kernel_rfl) (by kernel_rfl) (fun _ _ _ h => h) (Or.inl ⟨by rfl, ?_⟩) (show Below _ _ _ from (by (try (with_reducible refine grown_undrew ?_)); repeat (first | (with_reducible exact Below.refl _ _) | (with_reducible exact grown_merge _ _ _ _) | (with_reducible refine Below.allocS ?_ _) | (with_reducible refine Below.moreS ?_ _) | (with_reducible refine Below.drew ?_)))) ?_
      rotate_left
      · intro wS hSw; clear hSw; go_simp; try with_reducible rfl
      try simp only [Act.put, List.setIfInBounds_toArray, List.set_cons_zero, List.set_cons_succ]
      refine wpAnyH_take (i := 12) (v := ?_) rfl (by kernel_rfl) (by kernel_rfl) (by kernel_rfl) (fun _ _ _ h => h) (Or.inl ⟨by rfl, ?_⟩) (show Below _ _ _ from (by (try (with_reducible refine grown_undrew ?_)); repeat (first | (with_reducible exact Below.refl _ _) | (with_reducible exact grown_merge _ _ _ _) | (with_reducible refine Below.allocS ?_ _) | (with_reducible refine Below.moreS ?_ _) | (with_reducible refine Below.drew ?_)))) ?_
      rotate_left
      · intro wS hSw; clear hSw; go_simp; try with_reducible rfl
      try simp only [Act.put, List.setIfInBounds_toArray, List.set_cons_zero, List.set_cons_succ]
      refine fixed_step 14 (by kernel_rfl) rfl (fun K hK => ?_)
      go_simp
      go_wp2_with fail
      refine hK.out _ _ (show Below _ _ _ from (by (try (with_reducible refine grown_undrew ?_)); repeat (first | (with_reducible exact Below.refl _ _) | (with_reducible exact grown_merge _ _ _ _) | (with_reducible exact grown_merge2 _ _ _ _ _ _) | (with_reducible exact grown_merge3 _ _ _ _ _ _ _) | (with_reducible refine Below.allocS ?_ _) | (with_reducible refine Below.moreS ?_ _) | (with_reducible refine Below.drew ?_)))) ?_
      clear hK K
      try simp only [Act.put, List.getElem_toArray, List.getElem_cons_succ, List.getElem_cons_zero, List.setIfInBounds_toArray, List.set_cons_zero, List.set_cons_succ]
      refine wpAnyH_done (by kernel_rfl) ?_ _
      go_wp2_with fail
      go_meet
      exact close8 (by repeat (first | (with_reducible exact Below.refl _ _) | (with_reducible exact grown_merge _ _ _ _) | (with_reducible refine Below.allocS ?_ _) | (with_reducible refine Below.moreS ?_ _) | (with_reducible refine Below.drew ?_))) (by repeat (first | ((with_reducible apply Blk.at_); (simp; done)) | (with_reducible apply Blk.alloc) | (with_reducible apply Blk.more) | (with_reducible apply Blk.drew))) (by (try simp only [World.size_more, World.size_alloc, Array.size_append]); omega) HBS.out d3 d4 d5
  case rest =>
    obtain ⟨j1, j2, rfl, rfl, hb3, e3, e4, e5⟩ := hcut
    simp only [World.size_more, World.size_alloc] at hb3
    clear d1 d3 d4 d5 d6 hbs2 HBS HF1 HF2 HS HK
    cases rr
    · obtain rfl : R = (zRec, false) := by rw [HR.out]; simp
      clear HR HTx
      go_wp2_with (first
          | (go_at_call 93; (with_reducible refine (HR3.out _).mono ?_); rintro e w' ⟨rfl, rfl⟩)
          | (go_at_call 93; (with_reducible refine (HR4.out _).mono ?_); rintro e w' ⟨rfl, rfl⟩)
          | (go_at_call 93; (with_reducible refine (HR5.out _).mono ?_); rintro e w' ⟨rfl, rfl⟩)
          | (go_at_call 33; (with_reducible refine (HRt.out _).mono ?_); rintro e w' ⟨rfl, j, rfl⟩))
      refine bodyPost_ret (res_cell_tmp (cs := #[.int .i64 0, .int .i64 0, .int .i64 0, .int .i64 0, .int .i64 0, .int .i64 0]) rfl st_Rec rfl (by repeat (first | ((with_reducible apply Blk.at_); (simp; done)) | (with_reducible apply Blk.alloc) | (with_reducible apply Blk.more) | (with_reducible apply Blk.drew))) rfl rfl) rfl ⟨rfl, Below.junk (by repeat (first | (with_reducible exact Below.refl _ _) | (with_reducible refine Below.allocS ?_ _) | (with_reducible refine Below.moreS ?_ _) | (with_reducible refine Below.drew ?_) | (with_reducible refine below_drewN ?_ _)))⟩
    · have HTy := Lib.hid (HTx.out rfl)
      clear HTx
      cases q1 : (T == s)
      · have q2 : (T != s) = true := by unfold bne; rw [q1]; rfl
        obtain rfl : R = (zRec, false) := by rw [HR.out, if_neg]; rintro ⟨_, h⟩; rw [h] at q1; simp at q1
        clear HR
        go_wp2_with (first
          | (go_at_call 93; (with_reducible refine (HR3.out _).mono ?_); rintro e w' ⟨rfl, rfl⟩)
          | (go_at_call 93; (with_reducible refine (HR4.out _).mono ?_); rintro e w' ⟨rfl, rfl⟩)
          | (go_at_call 93; (with_reducible refine (HR5.out _).mono ?_); rintro e w' ⟨rfl, rfl⟩)
          | (go_at_call 33; (with_reducible refine (HRt.out _).mono ?_); rintro e w' ⟨rfl, j, rfl⟩)
          | (go_at_call 47; (with_reducible refine (HTy.out _).mono ?_); rintro e w' ⟨rfl, j, rfl⟩))
        refine bodyPost_ret (res_cell_tmp (cs := #[.int .i64 0, .int .i64 0, .int .i64 0, .int .i64 0, .int .i64 0, .int .i64 0]) rfl st_Rec rfl (by repeat (first | ((with_reducible apply Blk.at_); (simp; done)) | (with_reducible apply Blk.alloc) | (with_reducible apply Blk.more) | (with_reducible apply Blk.drew))) rfl rfl) rfl ⟨rfl, Below.junk (by repeat (first | (with_reducible exact Below.refl _ _) | (with_reducible refine Below.allocS ?_ _) | (with_reducible refine Below.moreS ?_ _) | (with_reducible refine Below.drew ?_) | (with_reducible refine below_drewN ?_ _)))⟩
      · have q2 : (T != s) = false := by unfold bne; rw [q1]; rfl
        obtain rfl : R = (⟨F1, f2, f3, f4, f5, 1 + F2⟩, true) := by rw [HR.out, if_pos ⟨rfl, by simpa using q1⟩]
        clear HR
        go_wp2_with (first
          | (go_at_call 93; (with_reducible refine (HR3.out _).mono ?_); rintro e w' ⟨rfl, rfl⟩)
          | (go_at_call 93; (with_reducible refine (HR4.out _).mono ?_); rintro e w' ⟨rfl, rfl⟩)
          | (go_at_call 93; (with_reducible refine (HR5.out _).mono ?_); rintro e w' ⟨rfl, rfl⟩)
          | (go_at_call 33; (with_reducible refine (HRt.out _).mono ?_); rintro e w' ⟨rfl, j, rfl⟩)
          | (go_at_call 47; (with_reducible refine (HTy.out _).mono ?_); rintro e w' ⟨rfl, j, rfl⟩))
        refine bodyPost_ret (res_cell_tmp (cs := #[.int .i64 F1, .int .i64 f2, .int .i64 f3, .int .i64 f4, .int .i64 f5, .int .i64 (1 + F2)]) rfl st_Rec rfl (by repeat (first | ((with_reducible apply Blk.at_); (simp; done)) | (with_reducible apply Blk.alloc) | (with_reducible apply Blk.more) | (with_reducible apply Blk.drew))) rfl rfl) rfl ⟨rfl, Below.junk (by repeat (first | (with_reducible exact Below.refl _ _) | (with_reducible refine Below.allocS ?_ _) | (with_reducible refine Below.moreS ?_ _) | (with_reducible refine Below.drew ?_) | (with_reducible refine below_drewN ?_ _)))⟩

theorem readRecR_split {s : List UInt8} {l : List (List UInt8)} {ok : Bool} (h : splitF s = (l, ok)) (hn : ok = false ∨ ¬ l.length = 7) : readRecR s = (zRec, false) := by
  unfold readRecR
  rw [h, if_neg]
  rintro ⟨h1, h2⟩
  rcases hn with hn | hn
  · rw [hn] at h1; cases h1
  · exact hn h2
set_option maxHeartbeats 8000000 in
set_option maxRecDepth 100000 in
theorem ref41_Read (s : List UInt8) (hm : s.length ≤ 90000) (w : World) :
    Calls Tryz.prog 54 #[bstr s] w fun e w' => e = .returned (.tuple #[.agg (recC (readRecR s).1), .bool (readRecR s).2]) ∧ ∃ j, w' = w.more j := by
  obtain ⟨⟨l, ok⟩, hsp⟩ : ∃ p, splitF s = p := ⟨_, rfl⟩
  have H1 : Hid (∀ W, Calls Tryz.prog 52 #[bstr s] W fun e w' => ∃ a cap, e = .returned (.tuple #[.slice a l.length cap, .bool ok]) ∧ SlX w' w'.heap.size a l ∧ Below W.heap.size W w') := fun W => by
    have := ref04_Split s W hm
    rw [hsp] at this
    exact this
  have hl := splitF_len s
  rw [hsp] at hl
  simp only at hl
  have hl7 : l.length ≤ 90001 := by omega
  cases ok
  · rw [readRecR_split hsp (.inl rfl)]
    clear hsp hl hm
    go_enter Tryz.func54, Tryz.ntmps54
    go_wp2_with fail
    refine (H1.out _).mono ?_
    rintro e w1 ⟨a, cap, rfl, hs1, hb1⟩
    obtain ⟨j, rfl⟩ := hb1.junk
    clear hs1 hb1
    go_wp2_with fail
    refine bodyPost_ret (res_cell_tmp (cs := #[.int .i64 0, .int .i64 0, .int .i64 0, .int .i64 0, .int .i64 0, .int .i64 0]) rfl st_Rec rfl (by repeat (first | ((with_reducible apply Blk.at_); (simp; done)) | (with_reducible apply Blk.alloc) | (with_reducible apply Blk.more) | (with_reducible apply Blk.drew))) rfl rfl) rfl ⟨rfl, Below.junk (by repeat (first | (with_reducible exact Below.refl _ _) | (with_reducible refine Below.allocS ?_ _) | (with_reducible refine Below.moreS ?_ _) | (with_reducible refine Below.drew ?_) | (with_reducible refine below_drewN ?_ _)))⟩
  by_cases h7 : l.length = 7
  · obtain ⟨u0, u1, u2, u3, u4, u5, u6, rfl⟩ : ∃ u0 u1 u2 u3 u4 u5 u6, l = [u0, u1, u2, u3, u4, u5, u6] := by
      match l, h7 with
      | [u0, u1, u2, u3, u4, u5, u6], _ => exact ⟨_, _, _, _, _, _, _, rfl⟩
    exact ref41_Read_main s u0 u1 u2 u3 u4 u5 u6 hsp hm w
  · rw [readRecR_split hsp (.inr h7)]
    have hl1 : ((l.length : Int) == 7) = false := by rw [beq_eq_false_iff_ne]; omega
    have hl2 : ((l.length : Int) != 7) = true := by unfold bne; rw [hl1]; rfl
    clear hsp hl hm h7
    go_enter Tryz.func54, Tryz.ntmps54
    go_wp2_with fail
    refine (H1.out _).mono ?_
    rintro e w1 ⟨a, cap, rfl, hs1, hb1⟩
    obtain ⟨j, rfl⟩ := hb1.junk
    clear hs1 hb1
    go_wp2_with fail
    refine bodyPost_ret (res_cell_tmp (cs := #[.int .i64 0, .int .i64 0, .int .i64 0, .int .i64 0, .int .i64 0, .int .i64 0]) rfl st_Rec rfl (by repeat (first | ((with_reducible apply Blk.at_); (simp; done)) | (with_reducible apply Blk.alloc) | (with_reducible apply Blk.more) | (with_reducible apply Blk.drew))) rfl rfl) rfl ⟨rfl, Below.junk (by repeat (first | (with_reducible exact Below.refl _ _) | (with_reducible refine Below.allocS ?_ _) | (with_reducible refine Below.moreS ?_ _) | (with_reducible refine Below.drew ?_) | (with_reducible refine below_drewN ?_ _)))⟩
end Go.Proofs.YtbdmepidabnfkaaGreatDoor
