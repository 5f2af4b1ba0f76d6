/-
  Records: their lines, both roads.
-/
import Derived.Test.YthbflllflnnipaaGreatDoorRec3
import Derived.Test.YthbflllflnnipaaGreatDoorRec4
import Derived.Test.YthbflllflnnipaaGreatDoorLine2
import Derived.Deep.RegionHeld3
namespace Go.Proofs.YthbflllflnnipaaGreatDoor
set_option linter.unusedSimpArgs false
set_option linter.unusedVariables false
set_option linter.unusedSectionVars false
open Go.ChangeShapes Go.WideShapes Go.ChangeAt Go.RowKit Go.Deep Go.Shelf

theorem slX_blk {w : World} {g : Nat} {t : TypeId} {cs : Array Value} {l : List (List UInt8)} (h : Blk w g t cs) (hl : cs.toList = l.map bstr) (hb : ∀ x ∈ l, x.length ≤ maxLen) : SlX w w.heap.size (some ⟨g, 0, none⟩) l :=
  (SlR.of_blk (R := txtIs) (c := fun s => [bstr s]) h (by rw [hl]; clear hl hb h; induction l <;> simp_all) (fun _ _ => rfl) (fun x hx => ⟨rfl, hb x hx⟩)).mono h.lt (fun _ _ _ h => h)
theorem rec_line_call {r : Rec} (ho : RecOk r) (W : World) (g : Nat) (hb : Blk W g 9 #[bstr [102, 114, 97, 109, 101], bstr (sideF r.fr), bstr (nameF r.ty), bstr (Lib.itoa r.fl), bstr (Lib.itoa r.st), bstr (Lib.itoa r.ln), bstr (kindF r.kd)]) :
    Calls Tryz.prog 62 #[.slice (some ⟨g, 0, none⟩) 7 7] W fun e w' => e = .returned (.tuple #[bstr (recLine r), .bool true]) ∧ ∃ j, w' = W.more j := by
  have hl := recWords_len ho
  have := words_Line (some ⟨g, 0, none⟩) 7 (recWords r) W W (by show 7 ≤ 100000; omega) (fun x hx => by have := hl x hx; omega) (Nat.le_refl 7) (Below.refl _ _) (slX_blk hb rfl (fun x hx => by have := hl x hx; unfold maxLen; omega))
  rw [lineF_rec ho] at this
  exact this
set_option maxHeartbeats 4000000 in
set_option maxRecDepth 100000 in
theorem record_Text_no (fr ty fl st ln kd : Int) (hR : recR ⟨fr, ty, fl, st, ln, kd⟩ = false) (w : World) :
    Calls Tryz.prog 21 #[.agg #[.int .i64 fr, .int .i64 ty, .int .i64 fl, .int .i64 st, .int .i64 ln, .int .i64 kd]] w fun e w' => e = .returned (.tuple #[bstr [], .int .i64 1]) ∧ ∃ j, w' = w.more j := by
  have HR : Hid (∀ W, Calls Tryz.prog 29 #[.agg #[.int .i64 fr, .int .i64 ty, .int .i64 fl, .int .i64 st, .int .i64 ln, .int .i64 kd]] W fun e w' => e = .returned (.bool false) ∧ ∃ j, w' = W.more j) := hR ▸ record_Right fr ty fl st ln kd
  clear hR
  go_enter Tryz.func21, Tryz.ntmps21
  go_wp2_with (go_at_call 29; (with_reducible refine (HR.out _).mono ?_); rintro e w' ⟨rfl, j, rfl⟩)
  go_ret2
  exact ⟨rfl, Below.junk (by repeat (first | (with_reducible exact Below.refl _ _) | (with_reducible refine Below.allocS ?_ _) | (with_reducible refine Below.moreS ?_ _) | (with_reducible refine Below.drew ?_) | (with_reducible refine below_drewN ?_ _)))⟩
set_option maxHeartbeats 8000000 in
set_option maxRecDepth 100000 in
theorem record_Text_yes (fr ty fl st ln kd : Int) (hR : recR ⟨fr, ty, fl, st, ln, kd⟩ = true) (w : World) (hE : EnvK0 w) :
    Calls Tryz.prog 21 #[.agg #[.int .i64 fr, .int .i64 ty, .int .i64 fl, .int .i64 st, .int .i64 ln, .int .i64 kd]] w fun e w' => e = .returned (.tuple #[bstr (recLine ⟨fr, ty, fl, st, ln, kd⟩), .int .i64 0]) ∧ ∃ j, w' = w.more j := by
  have ho := recR_ok hR
  have HR : Hid (∀ W, Calls Tryz.prog 29 #[.agg #[.int .i64 fr, .int .i64 ty, .int .i64 fl, .int .i64 st, .int .i64 ln, .int .i64 kd]] W fun e w' => e = .returned (.bool true) ∧ ∃ j, w' = W.more j) := hR ▸ record_Right fr ty fl st ln kd
  have HS : Hid (∀ W, Calls Tryz.prog 63 #[.int .i64 fr] W fun e w' => e = .returned (bstr (sideF fr)) ∧ W = w') := record_Side fr
  have HK : Hid (∀ W, Calls Tryz.prog 22 #[.int .i64 kd] W fun e w' => e = .returned (bstr (kindF kd)) ∧ W = w') := record_Kind kd
  have HN : Hid (∀ W, EnvK0 W → Calls Tryz.prog 64 #[.int .i64 ty] W fun e w' => e = .returned (bstr (nameF ty)) ∧ ∃ j, w' = W.more j) := fun W hW => kinds_Name ty W hW
  have HT1 : Hid (∀ W, EnvK0 W → Calls Tryz.prog 61 #[.int .i64 fl] W fun e w' => e = .returned (bstr (Lib.itoa fl)) ∧ ∃ j, w' = W.more j) := fun W hW => digits_Text0 fl (by have := ho.fl; simp only at this; omega) (by have := ho.fl; simp only at this; omega) W hW.p
  have HT2 : Hid (∀ W, EnvK0 W → Calls Tryz.prog 61 #[.int .i64 st] W fun e w' => e = .returned (bstr (Lib.itoa st)) ∧ ∃ j, w' = W.more j) := fun W hW => digits_Text0 st (by have := ho.st; simp only at this; omega) (by have := ho.st; simp only at this; omega) W hW.p
  have HT3 : Hid (∀ W, EnvK0 W → Calls Tryz.prog 61 #[.int .i64 ln] W fun e w' => e = .returned (bstr (Lib.itoa ln)) ∧ ∃ j, w' = W.more j) := fun W hW => digits_Text0 ln (by have := ho.ln; simp only at this; omega) (by have := ho.ln; simp only at this; omega) W hW.p
  have HL := Lib.hid (rec_line_call ho)
  simp only at HL
  have HE := Lib.hid hE
  generalize recLine ⟨fr, ty, fl, st, ln, kd⟩ = L at HL ⊢
  generalize sideF fr = S at HS HL
  generalize kindF kd = K at HK HL
  generalize nameF ty = N at HN HL
  generalize Lib.itoa fl = T1 at HT1 HL
  generalize Lib.itoa st = T2 at HT2 HL
  generalize Lib.itoa ln = T3 at HT3 HL
  clear hR ho hE
  go_enter Tryz.func21, Tryz.ntmps21
  go_wp2_with (go_at_call 29; (with_reducible refine (HR.out _).mono ?_); rintro e w' ⟨rfl, j, rfl⟩)
  go_region_held3 (fun w' => w'.cell? ⟨w.heap.size, 0, none⟩ = some (.int .i64 fr) ∧ w'.cell? ⟨w.heap.size, 1, none⟩ = some (.int .i64 ty) ∧ w'.cell? ⟨w.heap.size, 2, none⟩ = some (.int .i64 fl) ∧ w'.cell? ⟨w.heap.size, 3, none⟩ = some (.int .i64 st) ∧ w'.cell? ⟨w.heap.size, 4, none⟩ = some (.int .i64 ln) ∧ w'.cell? ⟨w.heap.size, 5, none⟩ = some (.int .i64 kd)) (first | (refine ⟨?_, ?_, ?_, ?_, ?_, ?_⟩ <;> (go_simp; done)) | go_keep)
    (first
      | (go_at_call 63; (with_reducible refine (HS.out _).mono ?_); rintro e w' ⟨rfl, rfl⟩)
      | (go_at_call 64; (with_reducible refine (HN.out _ (HE.out.below (by repeat (first | (with_reducible exact Below.refl _ _) | (with_reducible refine Below.allocS ?_ _) | (with_reducible refine Below.moreS ?_ _) | (with_reducible refine Below.drew ?_) | (with_reducible refine below_drewN ?_ _))))).mono ?_); rintro e w' ⟨rfl, j, rfl⟩)
      | (go_at_call 61; (with_reducible refine (HT1.out _ (HE.out.below (by repeat (first | (with_reducible exact Below.refl _ _) | (with_reducible refine Below.allocS ?_ _) | (with_reducible refine Below.moreS ?_ _) | (with_reducible refine Below.drew ?_) | (with_reducible refine below_drewN ?_ _))))).mono ?_); rintro e w' ⟨rfl, j, rfl⟩)
      | (go_at_call 61; (with_reducible refine (HT2.out _ (HE.out.below (by repeat (first | (with_reducible exact Below.refl _ _) | (with_reducible refine Below.allocS ?_ _) | (with_reducible refine Below.moreS ?_ _) | (with_reducible refine Below.drew ?_) | (with_reducible refine below_drewN ?_ _))))).mono ?_); rintro e w' ⟨rfl, j, rfl⟩)
      | (go_at_call 61; (with_reducible refine (HT3.out _ (HE.out.below (by repeat (first | (with_reducible exact Below.refl _ _) | (with_reducible refine Below.allocS ?_ _) | (with_reducible refine Below.moreS ?_ _) | (with_reducible refine Below.drew ?_) | (with_reducible refine below_drewN ?_ _))))).mono ?_); rintro e w' ⟨rfl, j, rfl⟩)
      | (go_at_call 22; (with_reducible refine (HK.out _).mono ?_); rintro e w' ⟨rfl, rfl⟩)
      | (go_at_call 62; (with_reducible refine (HL.out _ _ (by repeat (first | ((with_reducible apply Blk.at_); (simp; done)) | (with_reducible apply Blk.alloc) | (with_reducible apply Blk.more) | (with_reducible apply Blk.drew)))).mono ?_); rintro e w' ⟨rfl, j, rfl⟩))
  go_wp2_with fail
  go_ret2
  exact ⟨rfl, Below.junk (by repeat (first | (with_reducible exact Below.refl _ _) | (with_reducible refine Below.allocS ?_ _) | (with_reducible refine Below.moreS ?_ _) | (with_reducible refine Below.drew ?_) | (with_reducible refine below_drewN ?_ _)))⟩
end Go.Proofs.YthbflllflnnipaaGreatDoor
