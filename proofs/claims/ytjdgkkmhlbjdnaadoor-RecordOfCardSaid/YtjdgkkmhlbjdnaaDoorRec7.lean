/-
  Records: a line read, the program's road.
-/
import Derived.Test.YtjdgkkmhlbjdnaaDoorRec5
import Derived.Test.YtjdgkkmhlbjdnaaDoorLine6
namespace Go.Proofs.YtjdgkkmhlbjdnaaDoor
set_option linter.unusedSimpArgs false
set_option linter.unusedVariables false
set_option linter.unusedSectionVars false
open Go.ChangeShapes Go.WideShapes Go.ChangeAt Go.RowKit Go.Deep Go.Shelf

theorem st_Rec : StructTy Tryd.prog RecT 6 := ⟨_, Tryd.underlying32, rfl, by kernel_rfl⟩
abbrev OkT : TypeId := 111
set_option maxRecDepth 100000 in
theorem ok6_neq (b1 b2 b3 b4 b5 b6 : Bool) (w : World) :
    (binOp .neq OkT (.agg #[.bool b1, .bool b2, .bool b3, .bool b4, .bool b5, .bool b6]) (.agg #[.bool true, .bool true, .bool true, .bool true, .bool true, .bool true])).run Tryd.prog w =
      .ok (.bool (!(b1 && (b2 && (b3 && (b4 && (b5 && b6))))))) w := by
  cases b1 <;> cases b2 <;> cases b3 <;> cases b4 <;> cases b5 <;> cases b6 <;> kernel_rfl
theorem rdRec_len {l : List (List UInt8)} (h : ¬ l.length = 7) : rdRec l = (zRec, false) := by
  match l, h with
  | [], _ => rfl
  | [_], _ => rfl
  | [_, _], _ => rfl
  | [_, _, _], _ => rfl
  | [_, _, _, _], _ => rfl
  | [_, _, _, _, _], _ => rfl
  | [_, _, _, _, _, _], _ => rfl
  | [_, _, _, _, _, _, _], h => exact absurd rfl h
  | _ :: _ :: _ :: _ :: _ :: _ :: _ :: _ :: _, _ => rfl
theorem rdRec_word {w0 w1 w2 w3 w4 w5 w6 : List UInt8} (h : ¬ w0 = [102, 114, 97, 109, 101]) : rdRec [w0, w1, w2, w3, w4, w5, w6] = (zRec, false) := by unfold rdRec; simp only; rw [if_neg h]
theorem rdRec_main (w1 w2 w3 w4 w5 w6 : List UInt8) : rdRec [[102, 114, 97, 109, 101], w1, w2, w3, w4, w5, w6] =
    if ((sideB w1).2 && ((byNameF w2).2 && ((readF w3).2 && ((readF w4).2 && ((readF w5).2 && (kindB w6).2))))) = true then
      if recR ⟨(sideB w1).1, (byNameF w2).1, (readF w3).1, (readF w4).1, (readF w5).1, (kindB w6).1⟩ = true then (⟨(sideB w1).1, (byNameF w2).1, (readF w3).1, (readF w4).1, (readF w5).1, (kindB w6).1⟩, true) else (zRec, false)
    else (zRec, false) := by
  unfold rdRec
  simp only [if_true]
  cases (sideB w1).2 <;> cases (byNameF w2).2 <;> cases (readF w3).2 <;> cases (readF w4).2 <;> cases (readF w5).2 <;> cases (kindB w6).2 <;> rfl
def recC (r : Rec) : Array Value := #[.int .i64 r.fr, .int .i64 r.ty, .int .i64 r.fl, .int .i64 r.st, .int .i64 r.ln, .int .i64 r.kd]
theorem slX_cell {w : World} {B : Nat} {a : Option Addr} {l : List (List UInt8)} (h : SlX w B a l) (hp : 0 < l.length) : ∃ b off, a = some ⟨b, off, none⟩ ∧ b < B ∧ ∀ k (hk : k < l.length), w.cell? ⟨b, off + k, none⟩ = some (bstr l[k]) := by
  obtain ⟨b, off, ha, hb, _, _⟩ := SlR.atX h hp
  refine ⟨b, off, ha, hb, fun k hk => ?_⟩
  obtain ⟨b', off', ha', _, hc, _⟩ := SlR.atX h hk
  rw [ha] at ha'
  injection ha' with ha'
  injection ha' with h1 h2
  subst h1 h2
  exact hc
set_option maxHeartbeats 8000000 in
set_option maxRecDepth 100000 in
theorem record_Read (s : List UInt8) (hm : s.length ≤ 900) (w : World) (hE : EnvK w) :
    Calls Tryd.prog 66 #[bstr s] w fun e w' => e = .returned (.tuple #[.agg (recC (readRecF s).1), .bool (readRecF s).2]) ∧ ∃ j, w' = w.more j := by
  have LN0 : ∀ x ∈ (splitF s).1, x.length ≤ 1048576 := fun x hx => by
    unfold splitF at hx
    split at hx
    · simp at hx
    · split at hx
      · have := cut_short 32 s x hx; omega
      · simp at hx
  obtain ⟨m, hM⟩ := hE.env.max
  have hcl := cut_len 32 s
  have H1 : Hid (∀ W, Below w.heap.size w W → Calls Tryd.prog 25 #[bstr s] W fun e w' => ∃ a cap, e = .returned (.tuple #[.slice a (splitF s).1.length cap, .bool (splitF s).2]) ∧ SlX w' w'.heap.size a (splitF s).1 ∧ Below W.heap.size W w') := fun W hb =>
    words_Split s m W (by omega) (by omega) (fun x hx => by have := cut_short 32 s x hx; omega) (max_below hM hb)
  have hpl := splitF_len s
  have HR : Hid (readRecF s = if (splitF s).2 = true then rdRec (splitF s).1 else (zRec, false)) := rfl
  have HE := Lib.hid hE
  generalize readRecF s = R at HR ⊢
  generalize splitF s = p at H1 HR hpl LN0
  obtain ⟨l, ok⟩ := p
  simp only at H1 HR hpl LN0
  have hl7 : l.length ≤ 901 := by omega
  clear hM hcl hpl hE hm
  cases ok
  · clear LN0
    obtain rfl : R = (zRec, false) := HR.out
    clear HR
    go_enter Tryd.func66, Tryd.ntmps66
    go_wp2_with fail
    refine (H1.out _ (by repeat (first | (with_reducible exact Below.refl _ _) | (with_reducible refine Below.allocS ?_ _) | (with_reducible refine Below.moreS ?_ _) | (with_reducible refine Below.drew ?_) | (with_reducible refine below_drewN ?_ _)))).mono ?_
    rintro e w1 ⟨a, cap, rfl, hs1, hb1⟩
    obtain ⟨j, rfl⟩ := hb1.junk
    clear hs1 hb1
    go_wp2_with fail
    refine bodyPost_ret (res_cell_tmp (cs := #[.int .i64 0, .int .i64 0, .int .i64 0, .int .i64 0, .int .i64 0, .int .i64 0]) rfl st_Rec rfl (by repeat (first | ((with_reducible apply Blk.at_); (simp; done)) | (with_reducible apply Blk.alloc) | (with_reducible apply Blk.more) | (with_reducible apply Blk.drew))) rfl rfl) rfl ⟨rfl, Below.junk (by repeat (first | (with_reducible exact Below.refl _ _) | (with_reducible refine Below.allocS ?_ _) | (with_reducible refine Below.moreS ?_ _) | (with_reducible refine Below.drew ?_) | (with_reducible refine below_drewN ?_ _)))⟩
  by_cases hl : l.length = 7
  · obtain ⟨w0, w1, w2, w3, w4, w5, w6, rfl⟩ : ∃ w0 w1 w2 w3 w4 w5 w6, l = [w0, w1, w2, w3, w4, w5, w6] := by
      match l, hl with
      | [w0, w1, w2, w3, w4, w5, w6], _ => exact ⟨_, _, _, _, _, _, _, rfl⟩
    have LN := LN0
    clear hl hl7 LN0
    by_cases hw : w0 = [102, 114, 97, 109, 101]
    · subst hw
      have HM := Lib.hid (HR.out.trans ((if_pos rfl).trans (rdRec_main w1 w2 w3 w4 w5 w6)))
      clear HR
      have HA1 : Hid (∀ W, Calls Tryd.prog 98 #[bstr w1, .int .i64 0, .int .i64 1, .func (.func 20) #[] #[]] W fun e w' => e = .returned (.tuple #[.int .i64 (sideB w1).1, .bool (sideB w1).2]) ∧ ∃ j, w' = W.more j) := fun W => named_Side w1 (LN w1 (by simp)) W
      have HA2 : Hid (∀ W, EnvK W → Calls Tryd.prog 99 #[bstr w2] W fun e w' => e = .returned (.tuple #[.int .i64 (byNameF w2).1, .bool (byNameF w2).2]) ∧ ∃ j, w' = W.more j) := fun W hW => kinds_ByName w2 (LN w2 (by simp)) W hW
      have HA3 : Hid (∀ W, EnvK W → Calls Tryd.prog 52 #[bstr w3] W fun e w' => e = .returned (.tuple #[.int .i64 (readF w3).1, .bool (readF w3).2]) ∧ ∃ j, w' = W.more j) := fun W hW => digits_Read w3 (LN w3 (by simp)) W hW.env
      have HA4 : Hid (∀ W, EnvK W → Calls Tryd.prog 52 #[bstr w4] W fun e w' => e = .returned (.tuple #[.int .i64 (readF w4).1, .bool (readF w4).2]) ∧ ∃ j, w' = W.more j) := fun W hW => digits_Read w4 (LN w4 (by simp)) W hW.env
      have HA5 : Hid (∀ W, EnvK W → Calls Tryd.prog 52 #[bstr w5] W fun e w' => e = .returned (.tuple #[.int .i64 (readF w5).1, .bool (readF w5).2]) ∧ ∃ j, w' = W.more j) := fun W hW => digits_Read w5 (LN w5 (by simp)) W hW.env
      have HA6 : Hid (∀ W, Calls Tryd.prog 98 #[bstr w6, .int .i64 1, .int .i64 4, .func (.func 21) #[] #[]] W fun e w' => e = .returned (.tuple #[.int .i64 (kindB w6).1, .bool (kindB w6).2]) ∧ ∃ j, w' = W.more j) := fun W => named_Kind w6 (LN w6 (by simp)) W
      clear LN
      generalize sideB w1 = A1 at HA1 HM
      generalize byNameF w2 = A2 at HA2 HM
      generalize readF w3 = A3 at HA3 HM
      generalize readF w4 = A4 at HA4 HM
      generalize readF w5 = A5 at HA5 HM
      generalize kindB w6 = A6 at HA6 HM
      obtain ⟨f1, b1⟩ := A1
      obtain ⟨f2, b2⟩ := A2
      obtain ⟨f3, b3⟩ := A3
      obtain ⟨f4, b4⟩ := A4
      obtain ⟨f5, b5⟩ := A5
      obtain ⟨f6, b6⟩ := A6
      simp only at HA1 HA2 HA3 HA4 HA5 HA6 HM
      have HRt : Hid (∀ W, Calls Tryd.prog 64 #[.agg #[.int .i64 f1, .int .i64 f2, .int .i64 f3, .int .i64 f4, .int .i64 f5, .int .i64 f6]] W fun e w' => e = .returned (.bool (recR ⟨f1, f2, f3, f4, f5, f6⟩)) ∧ ∃ j, w' = W.more j) := record_Right f1 f2 f3 f4 f5 f6
      generalize recR ⟨f1, f2, f3, f4, f5, f6⟩ = rr at HRt HM
      have HQ := fun W => ok6_neq b1 b2 b3 b4 b5 b6 W
      cases hall : (b1 && (b2 && (b3 && (b4 && (b5 && b6)))))
      · obtain rfl : R = (zRec, false) := by rw [HM.out, hall]; rfl
        rw [hall] at HQ
        simp only [Bool.not_false] at HQ
        clear HM hall HRt
        go_enter Tryd.func66, Tryd.ntmps66
        go_wp2_with fail
        refine (H1.out _ (by repeat (first | (with_reducible exact Below.refl _ _) | (with_reducible refine Below.allocS ?_ _) | (with_reducible refine Below.moreS ?_ _) | (with_reducible refine Below.drew ?_) | (with_reducible refine below_drewN ?_ _)))).mono ?_
        rintro e w1 ⟨a, cap, rfl, hs1, hb1⟩
        obtain ⟨j, rfl⟩ := hb1.junk
        obtain ⟨b, off, rfl, hb, hc⟩ := slX_cell hs1 (by simp)
        have c0 := hc 0 (by simp)
        have c1 := hc 1 (by simp)
        have c2 := hc 2 (by simp)
        have c3 := hc 3 (by simp)
        have c4 := hc 4 (by simp)
        have c5 := hc 5 (by simp)
        have c6 := hc 6 (by simp)
        simp only [List.getElem_cons_zero, List.getElem_cons_succ, Nat.add_zero] at c0 c1 c2 c3 c4 c5 c6
        simp only [World.size_more, World.size_alloc] at hb
        clear hs1 hb1 hc H1
        go_wp2_with (first
          | (go_at_call 98; (with_reducible refine (HA1.out _).mono ?_); rintro e w' ⟨rfl, j, rfl⟩)
          | (go_at_call 99; (with_reducible refine (HA2.out _ (HE.out.below (by repeat (first | (with_reducible exact Below.refl _ _) | (with_reducible refine Below.allocS ?_ _) | (with_reducible refine Below.moreS ?_ _) | (with_reducible refine Below.drew ?_) | (with_reducible refine below_drewN ?_ _))))).mono ?_); rintro e w' ⟨rfl, j, rfl⟩)
          | (go_at_call 52; (with_reducible refine (HA3.out _ (HE.out.below (by repeat (first | (with_reducible exact Below.refl _ _) | (with_reducible refine Below.allocS ?_ _) | (with_reducible refine Below.moreS ?_ _) | (with_reducible refine Below.drew ?_) | (with_reducible refine below_drewN ?_ _))))).mono ?_); rintro e w' ⟨rfl, j, rfl⟩)
          | (go_at_call 52; (with_reducible refine (HA4.out _ (HE.out.below (by repeat (first | (with_reducible exact Below.refl _ _) | (with_reducible refine Below.allocS ?_ _) | (with_reducible refine Below.moreS ?_ _) | (with_reducible refine Below.drew ?_) | (with_reducible refine below_drewN ?_ _))))).mono ?_); rintro e w' ⟨rfl, j, rfl⟩)
          | (go_at_call 52; (with_reducible refine (HA5.out _ (HE.out.below (by repeat (first | (with_reducible exact Below.refl _ _) | (with_reducible refine Below.allocS ?_ _) | (with_reducible refine Below.moreS ?_ _) | (with_reducible refine Below.drew ?_) | (with_reducible refine below_drewN ?_ _))))).mono ?_); rintro e w' ⟨rfl, j, rfl⟩)
          | (go_at_call 98; (with_reducible refine (HA6.out _).mono ?_); rintro e w' ⟨rfl, j, rfl⟩))
        refine bodyPost_ret (res_cell_tmp (cs := #[.int .i64 0, .int .i64 0, .int .i64 0, .int .i64 0, .int .i64 0, .int .i64 0]) rfl st_Rec rfl (by repeat (first | ((with_reducible apply Blk.at_); (simp; done)) | (with_reducible apply Blk.alloc) | (with_reducible apply Blk.more) | (with_reducible apply Blk.drew))) rfl rfl) rfl ⟨rfl, Below.junk (by repeat (first | (with_reducible exact Below.refl _ _) | (with_reducible refine Below.allocS ?_ _) | (with_reducible refine Below.moreS ?_ _) | (with_reducible refine Below.drew ?_) | (with_reducible refine below_drewN ?_ _)))⟩
      · rw [hall] at HQ
        simp only [Bool.not_true] at HQ
        cases rr
        · obtain rfl : R = (zRec, false) := by rw [HM.out, hall]; rfl
          clear HM hall
          go_enter Tryd.func66, Tryd.ntmps66
          go_wp2_with fail
          refine (H1.out _ (by repeat (first | (with_reducible exact Below.refl _ _) | (with_reducible refine Below.allocS ?_ _) | (with_reducible refine Below.moreS ?_ _) | (with_reducible refine Below.drew ?_) | (with_reducible refine below_drewN ?_ _)))).mono ?_
          rintro e w1 ⟨a, cap, rfl, hs1, hb1⟩
          obtain ⟨j, rfl⟩ := hb1.junk
          obtain ⟨b, off, rfl, hb, hc⟩ := slX_cell hs1 (by simp)
          have c0 := hc 0 (by simp)
          have c1 := hc 1 (by simp)
          have c2 := hc 2 (by simp)
          have c3 := hc 3 (by simp)
          have c4 := hc 4 (by simp)
          have c5 := hc 5 (by simp)
          have c6 := hc 6 (by simp)
          simp only [List.getElem_cons_zero, List.getElem_cons_succ, Nat.add_zero] at c0 c1 c2 c3 c4 c5 c6
          simp only [World.size_more, World.size_alloc] at hb
          clear hs1 hb1 hc H1
          go_wp2_with (first
            | (go_at_call 98; (with_reducible refine (HA1.out _).mono ?_); rintro e w' ⟨rfl, j, rfl⟩)
            | (go_at_call 99; (with_reducible refine (HA2.out _ (HE.out.below (by repeat (first | (with_reducible exact Below.refl _ _) | (with_reducible refine Below.allocS ?_ _) | (with_reducible refine Below.moreS ?_ _) | (with_reducible refine Below.drew ?_) | (with_reducible refine below_drewN ?_ _))))).mono ?_); rintro e w' ⟨rfl, j, rfl⟩)
            | (go_at_call 52; (with_reducible refine (HA3.out _ (HE.out.below (by repeat (first | (with_reducible exact Below.refl _ _) | (with_reducible refine Below.allocS ?_ _) | (with_reducible refine Below.moreS ?_ _) | (with_reducible refine Below.drew ?_) | (with_reducible refine below_drewN ?_ _))))).mono ?_); rintro e w' ⟨rfl, j, rfl⟩)
            | (go_at_call 52; (with_reducible refine (HA4.out _ (HE.out.below (by repeat (first | (with_reducible exact Below.refl _ _) | (with_reducible refine Below.allocS ?_ _) | (with_reducible refine Below.moreS ?_ _) | (with_reducible refine Below.drew ?_) | (with_reducible refine below_drewN ?_ _))))).mono ?_); rintro e w' ⟨rfl, j, rfl⟩)
            | (go_at_call 52; (with_reducible refine (HA5.out _ (HE.out.below (by repeat (first | (with_reducible exact Below.refl _ _) | (with_reducible refine Below.allocS ?_ _) | (with_reducible refine Below.moreS ?_ _) | (with_reducible refine Below.drew ?_) | (with_reducible refine below_drewN ?_ _))))).mono ?_); rintro e w' ⟨rfl, j, rfl⟩)
            | (go_at_call 98; (with_reducible refine (HA6.out _).mono ?_); rintro e w' ⟨rfl, j, rfl⟩)
            | (go_at_call 64; (with_reducible refine (HRt.out _).mono ?_); rintro e w' ⟨rfl, j, rfl⟩))
          refine bodyPost_ret (res_cell_tmp (cs := #[.int .i64 0, .int .i64 0, .int .i64 0, .int .i64 0, .int .i64 0, .int .i64 0]) rfl st_Rec rfl (by repeat (first | ((with_reducible apply Blk.at_); (simp; done)) | (with_reducible apply Blk.alloc) | (with_reducible apply Blk.more) | (with_reducible apply Blk.drew))) rfl rfl) rfl ⟨rfl, Below.junk (by repeat (first | (with_reducible exact Below.refl _ _) | (with_reducible refine Below.allocS ?_ _) | (with_reducible refine Below.moreS ?_ _) | (with_reducible refine Below.drew ?_) | (with_reducible refine below_drewN ?_ _)))⟩
        · obtain rfl : R = (⟨f1, f2, f3, f4, f5, f6⟩, true) := by rw [HM.out, hall]; rfl
          clear HM hall
          go_enter Tryd.func66, Tryd.ntmps66
          go_wp2_with fail
          refine (H1.out _ (by repeat (first | (with_reducible exact Below.refl _ _) | (with_reducible refine Below.allocS ?_ _) | (with_reducible refine Below.moreS ?_ _) | (with_reducible refine Below.drew ?_) | (with_reducible refine below_drewN ?_ _)))).mono ?_
          rintro e w1 ⟨a, cap, rfl, hs1, hb1⟩
          obtain ⟨j, rfl⟩ := hb1.junk
          obtain ⟨b, off, rfl, hb, hc⟩ := slX_cell hs1 (by simp)
          have c0 := hc 0 (by simp)
          have c1 := hc 1 (by simp)
          have c2 := hc 2 (by simp)
          have c3 := hc 3 (by simp)
          have c4 := hc 4 (by simp)
          have c5 := hc 5 (by simp)
          have c6 := hc 6 (by simp)
          simp only [List.getElem_cons_zero, List.getElem_cons_succ, Nat.add_zero] at c0 c1 c2 c3 c4 c5 c6
          simp only [World.size_more, World.size_alloc] at hb
          clear hs1 hb1 hc H1
          go_wp2_with (first
            | (go_at_call 98; (with_reducible refine (HA1.out _).mono ?_); rintro e w' ⟨rfl, j, rfl⟩)
            | (go_at_call 99; (with_reducible refine (HA2.out _ (HE.out.below (by repeat (first | (with_reducible exact Below.refl _ _) | (with_reducible refine Below.allocS ?_ _) | (with_reducible refine Below.moreS ?_ _) | (with_reducible refine Below.drew ?_) | (with_reducible refine below_drewN ?_ _))))).mono ?_); rintro e w' ⟨rfl, j, rfl⟩)
            | (go_at_call 52; (with_reducible refine (HA3.out _ (HE.out.below (by repeat (first | (with_reducible exact Below.refl _ _) | (with_reducible refine Below.allocS ?_ _) | (with_reducible refine Below.moreS ?_ _) | (with_reducible refine Below.drew ?_) | (with_reducible refine below_drewN ?_ _))))).mono ?_); rintro e w' ⟨rfl, j, rfl⟩)
            | (go_at_call 52; (with_reducible refine (HA4.out _ (HE.out.below (by repeat (first | (with_reducible exact Below.refl _ _) | (with_reducible refine Below.allocS ?_ _) | (with_reducible refine Below.moreS ?_ _) | (with_reducible refine Below.drew ?_) | (with_reducible refine below_drewN ?_ _))))).mono ?_); rintro e w' ⟨rfl, j, rfl⟩)
            | (go_at_call 52; (with_reducible refine (HA5.out _ (HE.out.below (by repeat (first | (with_reducible exact Below.refl _ _) | (with_reducible refine Below.allocS ?_ _) | (with_reducible refine Below.moreS ?_ _) | (with_reducible refine Below.drew ?_) | (with_reducible refine below_drewN ?_ _))))).mono ?_); rintro e w' ⟨rfl, j, rfl⟩)
            | (go_at_call 98; (with_reducible refine (HA6.out _).mono ?_); rintro e w' ⟨rfl, j, rfl⟩)
            | (go_at_call 64; (with_reducible refine (HRt.out _).mono ?_); rintro e w' ⟨rfl, j, rfl⟩))
          refine bodyPost_ret (res_cell_tmp (cs := #[.int .i64 f1, .int .i64 f2, .int .i64 f3, .int .i64 f4, .int .i64 f5, .int .i64 f6]) rfl st_Rec rfl (by repeat (first | ((with_reducible apply Blk.at_); (simp; done)) | (with_reducible apply Blk.alloc) | (with_reducible apply Blk.more) | (with_reducible apply Blk.drew))) rfl rfl) rfl ⟨rfl, Below.junk (by repeat (first | (with_reducible exact Below.refl _ _) | (with_reducible refine Below.allocS ?_ _) | (with_reducible refine Below.moreS ?_ _) | (with_reducible refine Below.drew ?_) | (with_reducible refine below_drewN ?_ _)))⟩
    · clear LN
      have hw1 : (w0 == [102, 114, 97, 109, 101]) = false := by rw [beq_eq_false_iff_ne]; exact hw
      have hw2 : (w0 != [102, 114, 97, 109, 101]) = true := by unfold bne; rw [hw1]; rfl
      obtain rfl : R = (zRec, false) := HR.out.trans ((if_pos rfl).trans (rdRec_word hw))
      clear HR hw
      go_enter Tryd.func66, Tryd.ntmps66
      go_wp2_with fail
      refine (H1.out _ (by repeat (first | (with_reducible exact Below.refl _ _) | (with_reducible refine Below.allocS ?_ _) | (with_reducible refine Below.moreS ?_ _) | (with_reducible refine Below.drew ?_) | (with_reducible refine below_drewN ?_ _)))).mono ?_
      rintro e w1 ⟨a, cap, rfl, hs1, hb1⟩
      obtain ⟨j, rfl⟩ := hb1.junk
      obtain ⟨b, off, rfl, hb, hc⟩ := slX_cell hs1 (by simp)
      have c0 := hc 0 (by simp)
      simp only [List.getElem_cons_zero, Nat.add_zero] at c0
      clear hs1 hb1 hc
      go_wp2_with fail
      refine bodyPost_ret (res_cell_tmp (cs := #[.int .i64 0, .int .i64 0, .int .i64 0, .int .i64 0, .int .i64 0, .int .i64 0]) rfl st_Rec rfl (by repeat (first | ((with_reducible apply Blk.at_); (simp; done)) | (with_reducible apply Blk.alloc) | (with_reducible apply Blk.more) | (with_reducible apply Blk.drew))) rfl rfl) rfl ⟨rfl, Below.junk (by repeat (first | (with_reducible exact Below.refl _ _) | (with_reducible refine Below.allocS ?_ _) | (with_reducible refine Below.moreS ?_ _) | (with_reducible refine Below.drew ?_) | (with_reducible refine below_drewN ?_ _)))⟩
  · clear LN0
    have hl1 : ((l.length : Int) == 7) = false := by rw [beq_eq_false_iff_ne]; omega
    have hl2 : ((l.length : Int) != 7) = true := by unfold bne; rw [hl1]; rfl
    obtain rfl : R = (zRec, false) := HR.out.trans ((if_pos rfl).trans (rdRec_len hl))
    clear HR hl
    go_enter Tryd.func66, Tryd.ntmps66
    go_wp2_with fail
    refine (H1.out _ (by repeat (first | (with_reducible exact Below.refl _ _) | (with_reducible refine Below.allocS ?_ _) | (with_reducible refine Below.moreS ?_ _) | (with_reducible refine Below.drew ?_) | (with_reducible refine below_drewN ?_ _)))).mono ?_
    rintro e w1 ⟨a, cap, rfl, hs1, hb1⟩
    obtain ⟨j, rfl⟩ := hb1.junk
    clear hs1 hb1
    go_wp2_with fail
    refine bodyPost_ret (res_cell_tmp (cs := #[.int .i64 0, .int .i64 0, .int .i64 0, .int .i64 0, .int .i64 0, .int .i64 0]) rfl st_Rec rfl (by repeat (first | ((with_reducible apply Blk.at_); (simp; done)) | (with_reducible apply Blk.alloc) | (with_reducible apply Blk.more) | (with_reducible apply Blk.drew))) rfl rfl) rfl ⟨rfl, Below.junk (by repeat (first | (with_reducible exact Below.refl _ _) | (with_reducible refine Below.allocS ?_ _) | (with_reducible refine Below.moreS ?_ _) | (with_reducible refine Below.drew ?_) | (with_reducible refine below_drewN ?_ _)))⟩
end Go.Proofs.YtjdgkkmhlbjdnaaDoor
