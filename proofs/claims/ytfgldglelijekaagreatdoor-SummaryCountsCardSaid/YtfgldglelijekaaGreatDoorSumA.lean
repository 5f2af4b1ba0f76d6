/-
  Summaries: the chapter's example; the statement SummaryTexts.
-/
import Derived.Test.YtfgldglelijekaaGreatDoorSum9
namespace Go.Proofs.YtfgldglelijekaaGreatDoor
set_option linter.unusedSimpArgs false
set_option linter.unusedVariables false
set_option linter.unusedSectionVars false
open Go.ChangeShapes Go.WideShapes Go.ChangeAt Go.RowKit Go.Deep Go.Shelf

theorem alive_lines : linesS (fun i => tot i [⟨1, 4, 0, 0, 0, 1⟩]) [] = [[99, 108, 105, 101, 110, 116, 32, 48, 32, 48], [115, 101, 114, 118, 101, 114, 32, 49, 32, 57], [83, 69, 84, 84, 73, 78, 71, 83, 32, 49], [97, 108, 108, 111, 119, 101, 100, 32, 49]] := by decide +kernel
theorem slRc_one {w : World} {g : Nat} {t : TypeId} {x : Rec} (h : Blk w g t (recL x).toArray) : SlRc w w.heap.size (some ⟨g, 0, none⟩) [x] :=
  (SlR.of_blk (c := recL) (size := 6) (R := fun x cs => cs = recL x) (l := [x]) h (by simp) (fun _ _ => rfl) (fun x hx => rfl)).mono h.lt (fun _ _ _ h => h)
theorem slX_four {w : World} {g : Nat} {t : TypeId} {x y z u : List UInt8} (h : Blk w g t #[bstr x, bstr y, bstr z, bstr u]) (hx : x.length ≤ 1000) (hy : y.length ≤ 1000) (hz : z.length ≤ 1000) (hu : u.length ≤ 1000) : SlX w w.heap.size (some ⟨g, 0, none⟩) [x, y, z, u] :=
  (slX_new h rfl (by intro s hs; simp only [List.mem_cons, List.not_mem_nil, or_false] at hs; unfold maxLen; rcases hs with rfl | rfl | rfl | rfl <;> omega)).mono h.lt (fun _ _ _ h => h)
/-- What the chapter's example asks of the world. -/
structure EnvS (m : Int) (w : World) : Prop where
  k : EnvK0 w
  mx : w.cell? MaxA = some (.int .i64 m)
theorem EnvS.below {m : Int} {w w' : World} (h : EnvS m w) (hb : Below w.heap.size w w') : EnvS m w' := ⟨h.k.below hb, max_keep h.mx hb⟩
set_option maxHeartbeats 8000000 in
set_option maxRecDepth 100000 in
theorem law44_alive (m : Int) (w : World) (hE : EnvS m w) : Calls Tryz.prog 5 #[] w fun e w' => e = .returned (.bool true) ∧ Below w.heap.size w w' := by
  have HOF : Hid (∀ W g, Below w.heap.size w W → Blk W g 42 (recL ⟨1, 4, 0, 0, 0, 1⟩).toArray → Calls Tryz.prog 7 #[.agg #[.int .i64 0, .int .i64 0, .int .i64 0, .int .i64 0, .int .i64 0, .int .i64 0, .slice (some ⟨g, 0, none⟩) 1 1, .int .i64 0, .int .i64 0, .slice none 0 0, .slice none 0 0, .int .i64 0, .int .i64 0]] W (OfP [⟨1, 4, 0, 0, 0, 1⟩] [] W)) := fun W g hW hb =>
    summary_Of 0 0 0 0 0 0 0 0 0 0 (some ⟨g, 0, none⟩) [⟨1, 4, 0, 0, 0, 1⟩] 1 none 0 0 none [] 0 (by simp) (by simp) m W (max_keep hE.mx hW) (slRc_one hb) .nil
  have hGF : ∀ i, i < 20 → goodI ((fun i => tot i [⟨1, 4, 0, 0, 0, 1⟩]) i) := fun i _ => by
    have := tot_bd i [⟨1, 4, 0, 0, 0, 1⟩]
    simp only [List.length_cons, List.length_nil] at this
    exact ⟨by show _ ≤ tot i _; omega, by show tot i _ ≤ _; omega⟩
  have HTX : Hid (∀ W a cap, Below w.heap.size w W → Calls Tryz.prog 10 #[.agg (rowA (fun i => tot i [⟨1, 4, 0, 0, 0, 1⟩]) (.slice a 0 cap))] W (RowX [[99, 108, 105, 101, 110, 116, 32, 48, 32, 48], [115, 101, 114, 118, 101, 114, 32, 49, 32, 57], [83, 69, 84, 84, 73, 78, 71, 83, 32, 49], [97, 108, 108, 111, 119, 101, 100, 32, 49]] W)) := fun W a cap hW => by
    have := summary_Text (fun i => tot i [⟨1, 4, 0, 0, 0, 1⟩]) a [] cap hGF (by simp) (by simp) W (hE.k.below hW) (fun k hk => absurd hk (by simp))
    rw [alive_lines] at this
    exact rowX_of (by decide) this
  have HSM : Hid (∀ W a c g, SlX W W.heap.size a [[99, 108, 105, 101, 110, 116, 32, 48, 32, 48], [115, 101, 114, 118, 101, 114, 32, 49, 32, 57], [83, 69, 84, 84, 73, 78, 71, 83, 32, 49], [97, 108, 108, 111, 119, 101, 100, 32, 49]] → SlX W W.heap.size (some ⟨g, 0, none⟩) [[99, 108, 105, 101, 110, 116, 32, 48, 32, 48], [115, 101, 114, 118, 101, 114, 32, 49, 32, 57], [83, 69, 84, 84, 73, 78, 71, 83, 32, 49], [97, 108, 108, 111, 119, 101, 100, 32, 49]] → Calls Tryz.prog 9 #[.slice a 4 c, .slice (some ⟨g, 0, none⟩) 4 4] W fun e w' => e = .returned (.bool true) ∧ ∃ j, w' = W.more j) := fun W a c g h1 h2 => by
    have := ref04_Same a (some ⟨g, 0, none⟩) c 4 [[99, 108, 105, 101, 110, 116, 32, 48, 32, 48], [115, 101, 114, 118, 101, 114, 32, 49, 32, 57], [83, 69, 84, 84, 73, 78, 71, 83, 32, 49], [97, 108, 108, 111, 119, 101, 100, 32, 49]] [[99, 108, 105, 101, 110, 116, 32, 48, 32, 48], [115, 101, 114, 118, 101, 114, 32, 49, 32, 57], [83, 69, 84, 84, 73, 78, 71, 83, 32, 49], [97, 108, 108, 111, 119, 101, 100, 32, 49]] W W (by simp) (by simp) (Below.refl _ _) h1 h2
    rw [sameX_self] at this
    exact this
  clear hE hGF
  go_enter Tryz.func5, Tryz.ntmps5
  go_wp2_with (first
    | (refine wpList_buildV rfl 42 _ rfl #[.int .i64 1, .int .i64 4, .int .i64 0, .int .i64 0, .int .i64 0, .int .i64 1] (by kernel_rfl) ?_)
    | (refine wpList_buildV rfl 29 _ rfl #[.int .i64 0, .int .i64 0, .int .i64 0, .int .i64 0, .int .i64 0, .int .i64 0, .slice (some ⟨w.heap.size, 0, none⟩) 1 1, .int .i64 0, .int .i64 0, .slice none 0 0, .slice none 0 0, .int .i64 0, .int .i64 0] (by kernel_rfl) ?_))
  refine (HOF.out _ w.heap.size (by repeat (first | (with_reducible exact Below.refl _ _) | (with_reducible refine Below.allocS ?_ _) | (with_reducible refine Below.moreS ?_ _) | (with_reducible refine Below.drew ?_) | (with_reducible refine below_drewN ?_ _))) (by exact Blk.new _ _ _)).mono ?_
  rintro e w1 ⟨a1, cap1, rfl, hs1, hc1, hb1⟩
  have HB1 : Hid (Below w.heap.size w w1) := by
    have h2 : Below w.heap.size _ w1 := hb1.mono (by simp)
    refine Below.trans ?_ h2
    exact (by repeat (first | (with_reducible exact Below.refl _ _) | (with_reducible refine Below.allocS ?_ _) | (with_reducible refine Below.moreS ?_ _) | (with_reducible refine Below.drew ?_) | (with_reducible refine below_drewN ?_ _)))
  have h0 : (secS []).length = 0 := rfl
  rw [h0]
  clear hs1 hc1 hb1 HOF h0
  generalize (fun i => tot i [(⟨1, 4, 0, 0, 0, 1⟩ : Rec)]) = G at HTX ⊢
  go_wp2_with (first
    | (refine wpList_store_row rfl SmT _ _ rfl w1.heap.size (rowA G (.slice a1 0 cap1)) rfl rfl SmT _ (Blk.new _ _ _) (by rw [rowA_size]; kernel_rfl) (by rw [rowA_size]; rfl) (rowA_one _ _ _ _) ?_; rw [setRow_new])
    | (refine wpList_load_row rfl SmT _ rfl w1.heap.size rfl SmT (rowA G (.slice a1 0 cap1)) (0, 0) _ (Blk.new _ _ _) Tryz.underlying37 rfl (by rw [rowA_size]; kernel_rfl) ?_))
  refine (HTX.out _ _ _ (HB1.out.trans (Below.mono (B := w1.heap.size) (by repeat (first | (with_reducible exact Below.refl _ _) | (with_reducible refine Below.allocS ?_ _) | (with_reducible refine Below.moreS ?_ _) | (with_reducible refine Below.drew ?_) | (with_reducible refine below_drewN ?_ _))) HB1.out.size))).mono ?_
  rintro e w2 ⟨a2, cap2, rfl, hs2, hb2⟩
  have HS2 := Lib.hid hs2
  have HB2 : Hid (Below w.heap.size w w2) := by
    have h2 : Below w1.heap.size _ w2 := hb2.mono (by simp)
    refine HB1.out.trans (Below.mono (Below.trans ?_ h2) HB1.out.size)
    exact (by repeat (first | (with_reducible exact Below.refl _ _) | (with_reducible refine Below.allocS ?_ _) | (with_reducible refine Below.moreS ?_ _) | (with_reducible refine Below.drew ?_) | (with_reducible refine below_drewN ?_ _)))
  clear hs2 hb2
  go_wp2_with fail
  refine (HSM.out _ _ _ w2.heap.size (SlX.keep HS2.out (by repeat (first | (with_reducible exact Below.refl _ _) | (with_reducible refine Below.allocS ?_ _) | (with_reducible refine Below.moreS ?_ _) | (with_reducible refine Below.drew ?_) | (with_reducible refine below_drewN ?_ _)))) (slX_four (Blk.new _ _ _) (by decide) (by decide) (by decide) (by decide))).mono ?_
  rintro e w3 ⟨rfl, j3, rfl⟩
  go_wp2_with fail
  go_ret
  exact ⟨rfl, HB2.out.trans (Below.mono (B := w2.heap.size) (by repeat (first | (with_reducible exact Below.refl _ _) | (with_reducible refine Below.allocS ?_ _) | (with_reducible refine Below.moreS ?_ _) | (with_reducible refine Below.drew ?_) | (with_reducible refine below_drewN ?_ _))) HB2.out.size)⟩
end Go.Proofs.YtfgldglelijekaaGreatDoor
