/-
  Faults: the set of the right ones.
-/
import Derived.Test.YthbflllflnnipaaGreatDoorFlt3
import Derived.Laws.OwnMore
import Derived.Shelf.SlSortCmp.NoneTotal
namespace Go.Proofs.YthbflllflnnipaaGreatDoor
set_option linter.unusedSimpArgs false
set_option linter.unusedVariables false
set_option linter.unusedSectionVars false
open Go.ChangeShapes Go.WideShapes Go.ChangeAt Go.RowKit Go.Deep Go.Shelf

theorem comp_len (d : Array Fl) : ∀ m, (Lib.compactUpTo d m).length ≤ m
  | 0 => by simp [Lib.compactUpTo]
  | m + 1 => by
    have ih := comp_len d m
    rw [Lib.compactUpTo_succ]
    split <;> simp <;> omega
abbrev SlFl (w : World) (B : Nat) (a : Option Addr) (l : List Fl) : Prop := SlR w B 2 (fun x cs => cs = Fl.cells x) a l
theorem SlR.atFl {w : World} {B : Nat} {a : Option Addr} {l : List Fl} (h : SlFl w B a l) {k : Nat} (hk : k < l.length) : ∃ b off, a = some ⟨b, off, none⟩ ∧ b < B ∧ w.cell? ⟨b, off + k * 2, none⟩ = some (.int .i64 l[k].scope) ∧ w.cell? ⟨b, off + k * 2 + 1, none⟩ = some (.int .i64 l[k].code) := by
  obtain ⟨b, off, cs, ha, hb, rfl, hc⟩ := h k hk
  exact ⟨b, off, ha, hb, hc 0 _ rfl, hc 1 _ rfl⟩
abbrev OwnFl (B : Nat) (w : World) (v : Value) (l : List Fl) : Prop := OwnC FlT 2 Fl.cells B w v l
theorem st_fl : SliceTy Tryz.prog 25 FlT (.agg #[.int .i64 0, .int .i64 0]) 2 16 := .mk' Tryz.underlying25 (by kernel_rfl) rfl (by omega)
theorem flC_len (x : Fl) : (Fl.cells x).length = 2 := rfl
theorem flC_one (x : Fl) : ∀ u ∈ Fl.cells x, u.oneCell' = true := by intro u hu; simp [Fl.cells] at hu; rcases hu with rfl | rfl <;> rfl
theorem arr_get (l : List Fl) {i : Nat} (hi : i < l.length) : l.toArray[i]! = l[i] := by rw [getElem!_pos l.toArray i (by simpa using hi)]; simp
theorem OwnFl.parts {B : Nat} {w : World} {v : Value} {l : List Fl} (h : OwnFl B w v l) : (v = .slice none 0 0 ∧ l = []) ∨ ∃ g cap, v = .slice (some ⟨g, 0, none⟩) l.length cap ∧ B ≤ g ∧ g < w.heap.size ∧ l.length ≤ cap ∧ cap ≤ 9223372036854775807 ∧ RowFl w g l.toArray := by
  have h0 : w.ownsRow B FlT 2 v l.length (l.flatMap Fl.cells) := h
  rcases h0.2 with ⟨rfl, hn⟩ | ⟨g, cap, cur, rfl, hg, hh, h3, h4, h5, h6⟩
  · exact .inl ⟨rfl, List.eq_nil_of_length_eq_zero hn⟩
  · refine .inr ⟨g, cap, rfl, hg, (h0.lt g rfl).2, h3, h4, ?_⟩
    intro i hi
    have hi' : i < l.length := by simpa using hi
    have c (j : Nat) (u : Value) (hu : (Fl.cells l[i])[j]? = some u) : w.cell? ⟨g, i * 2 + j, none⟩ = some u := by
      have := h0.cells (g := g) rfl (i * 2 + j) u (flat_get (c := Fl.cells) (size := 2) l (fun _ _ => rfl) i hi' j u hu)
      rwa [show (⟨g, 0, none⟩ : Addr).add (i * 2 + j) = ⟨g, i * 2 + j, none⟩ by unfold Addr.add; split <;> simp_all] at this
    rw [arr_get l hi']
    exact ⟨c 0 _ rfl, c 1 _ rfl, frozen_of_row _ _ _ _ _ hh, frozen_of_row _ _ _ _ _ hh⟩
theorem rowFl_sl {w : World} {g : Nat} {d : Array Fl} (h : RowFl w g d) (hg : g < w.heap.size) : SlFl w w.heap.size (some ⟨g, 0, none⟩) d.toList := by
  intro k hk
  have hk' : k < d.size := by simpa using hk
  obtain ⟨h1, h2, _, _⟩ := h k hk'
  rw [getElem!_pos d k hk'] at h1 h2
  refine ⟨g, 0, _, rfl, hg, rfl, fun j u hu => ?_⟩
  rw [Nat.zero_add]
  match j, hu with
  | 0, hu => simp [Fl.cells] at hu; subst hu; exact h1
  | 1, hu => simp [Fl.cells] at hu; subst hu; exact h2
  | j + 2, hu => simp [Fl.cells] at hu

set_option maxHeartbeats 2000000 in
set_option maxRecDepth 100000 in
theorem compact_nil (w : World) : Calls Tryz.prog 105 #[.slice none 0 0] w fun e w' => e = .returned (.slice none 0 0) ∧ w' = w := by
  go_enter Tryz.func105, Tryz.ntmps105
  go_wp2_with fail
  go_ret
  exact ⟨rfl, rfl⟩
theorem sort_nil (fv : Value) (w : World) : Calls Tryz.prog 103 #[.slice none 0 0, fv] w fun e w' => e = .returned (.tuple #[]) ∧ w' = w :=
  AnyF.slices_SortFunc_none Tryz.sortFl none 0 fv w

set_option maxHeartbeats 8000000 in
set_option maxRecDepth 100000 in
theorem faults_Of (a : Option Addr) (l : List Fl) (cap : Nat) (hl : l.length ≤ 100000) (w : World) (hS : SlFl w w.heap.size a l) :
    Calls Tryz.prog 65 #[.slice a l.length cap] w fun e w' => ∃ a' cap', e = .returned (.slice a' (ofF l).length cap') ∧ (ofF l).length ≤ cap' ∧ SlFl w' w'.heap.size a' (ofF l) ∧ Below w.heap.size w w' := by
  have HR : Hid (ofF l = setS ltFl (l.filter flR)) := rfl
  generalize ofF l = R at HR ⊢
  have HS := Lib.hid hS
  clear hS
  go_enter Tryz.func65, Tryz.ntmps65
  go_wp2_with fail
  go_loopg [3, 8] l.length (fun g v i wr => ∃ (k : Nat) (out : List Fl), k + g = l.length ∧ i = .int .i64 k ∧ out.length ≤ k ∧ OwnFl w.heap.size wr v out ∧ Below w.heap.size w wr ∧ Hid (l.filter flR = out ++ (l.drop k).filter flR))
  case atStart => exact ⟨0, [], by omega, rfl, by simp, OwnC.nil _ _, Below.refl _ _, rfl⟩
  case round =>
    obtain ⟨k, out, hkg, rfl, hok, HO, hb, HU⟩ := hrel
    have HO := Lib.hid HO
    have HB := Lib.hid hb
    have HK := Lib.hid hkg
    by_cases hlt : k < l.length
    · obtain ⟨b, off, ha, hbb, c00, c01⟩ := SlR.atFl HS.out hlt
      subst ha
      have c0 : wr.cell? ⟨b, off + k * 2, none⟩ = some (.int .i64 l[k].scope) := (hb.cell (p := ⟨b, off + k * 2, none⟩) hbb).trans c00
      have c1 : wr.cell? ⟨b, off + k * 2 + 1, none⟩ = some (.int .i64 l[k].code) := (hb.cell (p := ⟨b, off + k * 2 + 1, none⟩) hbb).trans c01
      have hbx : b < wr.heap.size := Nat.lt_of_lt_of_le hbb hb.size
      have hd : l.drop k = l[k] :: l.drop (k + 1) := List.drop_eq_getElem_cons hlt
      have HT : Hid (flR l[k] = true → l.filter flR = (out ++ [l[k]]) ++ (l.drop (k + 1)).filter flR) := fun h => by rw [HU.out, hd, List.filter_cons_of_pos h]; simp
      have HF : Hid (flR l[k] = false → l.filter flR = out ++ (l.drop (k + 1)).filter flR) := fun h => by rw [HU.out, hd, List.filter_cons_of_neg (by simp [h])]
      clear hd c00 c01 hb hkg HU
      generalize l[k] = x at c0 c1 HT HF
      obtain ⟨s, c⟩ := x
      have HQ : Hid (∀ W, Calls Tryz.prog 102 #[.agg #[.int .i64 s, .int .i64 c]] W fun e w' => e = .returned (.bool (flR ⟨s, c⟩)) ∧ ∃ j, w' = W.more j) := faults_Right s c
      generalize flR ⟨s, c⟩ = r at HQ HT HF
      cases r
      · have HU2 := Lib.hid (HF.out rfl)
        clear HT HF
        go_wp2_with fail
        refine (HQ.out _).mono ?_
        rintro e w' ⟨rfl, j, rfl⟩
        go_wp2_with fail
        go_roundg (l.length - (k + 1))
        case measure => have := HK.out; omega
        case rel => exact ⟨k + 1, out, by have := HK.out; omega, by go_num, by omega, HO.out.below (C := wr.heap.size) (by repeat (first | (with_reducible exact Below.refl _ _) | (with_reducible refine Below.allocS ?_ _) | (with_reducible refine Below.moreS ?_ _) | (with_reducible refine Below.drew ?_) | (with_reducible refine below_drewN ?_ _))) (Nat.le_refl _), HB.out.trans (Below.mono (B := wr.heap.size) (by repeat (first | (with_reducible exact Below.refl _ _) | (with_reducible refine Below.allocS ?_ _) | (with_reducible refine Below.moreS ?_ _) | (with_reducible refine Below.drew ?_) | (with_reducible refine below_drewN ?_ _))) HB.out.size), HU2.out⟩
      · have HU2 := Lib.hid (HT.out rfl)
        clear HT HF
        go_wp2_with fail
        refine (HQ.out _).mono ?_
        rintro e w' ⟨rfl, j, rfl⟩
        go_wp2_with (at_builtin; refine app_c (y := ⟨s, c⟩) st_fl flC_len flC_one (by omega) (.tmp 14) (.tmp 16) rfl rfl rfl (HO.out.below (C := wr.heap.size) (by repeat (first | (with_reducible exact Below.refl _ _) | (with_reducible refine Below.allocS ?_ _) | (with_reducible refine Below.moreS ?_ _) | (with_reducible refine Below.drew ?_) | (with_reducible refine below_drewN ?_ _))) (Nat.le_refl _)) rfl (Blk.at_ _ _ _ (by simp)) rfl (by omega) (by have := HB.out.size; simp only [World.size_alloc, World.size_more]; omega) ?_; intro v' w2 hown hbw)
        have hb2 := HB.out.trans ((Below.mono (B := wr.heap.size) (by repeat (first | (with_reducible exact Below.refl _ _) | (with_reducible refine Below.allocS ?_ _) | (with_reducible refine Below.moreS ?_ _) | (with_reducible refine Below.drew ?_) | (with_reducible refine below_drewN ?_ _))) HB.out.size).trans hbw)
        have HB2 := Lib.hid hb2
        have HO2 := Lib.hid hown
        clear hbw hb2 hown
        go_wp2_with fail
        go_roundg (l.length - (k + 1))
        case measure => have := HK.out; omega
        case rel => exact ⟨k + 1, out ++ [⟨s, c⟩], by have := HK.out; omega, by go_num, by simp; omega, HO2.out, HB2.out, HU2⟩
    · have hU : l.filter flR = out := by rw [HU.out, List.drop_of_length_le (by omega)]; simp
      have hR : R = setS ltFl out := by rw [HR.out, hU]
      clear hU HU HR
      rcases OwnFl.parts HO.out with ⟨rfl, rfl⟩ | ⟨g, cp, rfl, hg1, hg2, hc1, hc2, hrow⟩
      · have hR : R = [] := by rw [hR]; rfl
        subst hR
        clear hb hkg
        go_wp2_with (first | (go_at_call 103; (with_reducible refine (sort_nil _ _).mono ?_); rintro e w' ⟨rfl, rfl⟩) | (go_at_call 105; (with_reducible refine (compact_nil _).mono ?_); rintro e w' ⟨rfl, rfl⟩))
        go_ret
        exact ⟨none, 0, rfl, Nat.le_refl _, .nil, HB.out⟩
      · have HSO := Lib.hid (sort_fl g cp w.heap.size out.toArray wr hg1 hg2 hrow (by simp; omega))
        have HCP : Hid (out.length ≤ cp ∧ cp ≤ 9223372036854775807) := ⟨hc1, hc2⟩
        have HG : Hid (w.heap.size ≤ g ∧ g < wr.heap.size) := ⟨hg1, hg2⟩
        have HM : Hid (out.length ≤ 100000) := Nat.le_trans hok (by omega)
        have HOO : Hid (∀ d' : Array Fl, d'.toList.Perm out.toArray.toList → d'.toList.Pairwise (fun a b => ltFl b a = false) → Lib.compactUpTo d' d'.size = R) := fun d' h1 h2 => by rw [hR]; exact comp_set h1 h2 (by simp)
        have hz : out.toArray.size = out.length := by simp
        generalize out.toArray = d at HSO HOO hz
        rw [← hz] at HCP HM ⊢
        clear hb hkg hrow hR hc1 hc2 HO hok hg1 hg2
        generalize hn : d.size = n at HSO HCP HM hz ⊢
        have HN := Lib.hid hn
        clear hz hn
        go_wp2_with fail
        refine HSO.out.mono ?_
        rintro e w1 ⟨rfl, ⟨d', hd1, hd2, hd3, hrow⟩, hb1, hs1⟩
        rw [HN.out] at hd1
        have HC := Lib.hid (compact_fl g cp w.heap.size d' w1 HG.out.1 (Nat.lt_of_lt_of_le HG.out.2 hs1) hrow (by rw [hd1]; have := HM.out; omega) (by rw [hd1]; exact HCP.out.1) HCP.out.2)
        have HX := Lib.hid (HOO.out d' hd2 hd3)
        have HB1 := Lib.hid (HB.out.trans hb1)
        rw [hd1] at HC HX
        clear hrow hd2 hd3 hb1
        go_wp2_with fail
        refine HC.out.mono ?_
        rintro e w2 ⟨rfl, ⟨d2, hrow, hd2⟩, hb2⟩
        rw [hd1, HX.out] at hd2
        have HD := Lib.hid hd2
        have HR := Lib.hid hrow
        have HB2 := Lib.hid (HB1.out.trans hb2)
        rw [hd1, HX.out]
        clear hd2 hrow
        go_wp2_with fail
        go_ret
        refine ⟨_, _, rfl, ?_, ?_, HB2.out⟩
        · rw [← HX.out]
          have := comp_len d' n
          have := HCP.out.1
          omega
        · rw [← HD.out]
          exact rowFl_sl HR.out (by have := HG.out.2; have := hb2.size; omega)
end Go.Proofs.YthbflllflnnipaaGreatDoor
