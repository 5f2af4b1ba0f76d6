/-
  Rules and faults: a text read as a set of them; the row is new.
-/
import Derived.Test.YtbdmepidabnfkaaGreatDoorMj
import Derived.Test.YtbdmepidabnfkaaGreatDoorMi
namespace Go.Proofs.YtbdmepidabnfkaaGreatDoor
set_option linter.unusedSimpArgs false
set_option linter.unusedVariables false
set_option linter.unusedSectionVars false
open Go.ChangeShapes Go.WideShapes Go.ChangeAt Go.RowKit Go.Deep Go.Shelf

theorem none_new {n : Nat} : ∀ p : Addr, (none : Option Addr) = some p → n ≤ p.block := fun _ h => nomatch h
theorem own_new {α : Type} {e : TypeId} {size : Nat} {c : α → List Value} {B C : Nat} {w : World} {a : Option Addr} {n k : Nat} {l : List α} (h : OwnC e size c B w (.slice a n k) l) (hC : C ≤ B) : ∀ p, a = some p → C ≤ p.block := by
  have h0 : w.ownsRow B e size (.slice a n k) l.length (l.flatMap c) := h
  rintro p rfl
  rcases h0.2 with ⟨h1, _⟩ | ⟨b, cap, cur, h1, hb, _⟩
  · cases h1
  · cases h1
    exact Nat.le_trans hC hb
set_option maxHeartbeats 8000000 in
set_option maxRecDepth 100000 in
theorem rules_ReadSetN (s : List UInt8) (hm : s.length ≤ 200000) (m : Int) (w : World) (hM : w.cell? MaxA = some (.int .i64 m)) :
    Calls Tryz.prog 44 #[bstr s] w fun e w' => ∃ a cap, e = .returned (.tuple #[.slice a (setRP s).1.length cap, .bool (setRP s).2]) ∧ SlI w' w'.heap.size a (setRP s).1 ∧ (∀ p, a = some p → w.heap.size ≤ p.block) ∧ Below w.heap.size w w' := by
  by_cases h0 : s = [45]
  · subst h0
    have hr : setRP [45] = ([], true) := by unfold setRP; rw [if_pos rfl]
    rw [hr]
    clear hr hM
    go_enter Tryz.func44, Tryz.ntmps44
    go_wp2_with fail
    go_ret2
    exact ⟨none, 0, rfl, .nil, none_new, Below.refl _ _⟩
  have hne : (s == ([45] : List UInt8)) = false := by rw [beq_eq_false_iff_ne]; exact h0
  have H1 := Lib.hid (strings_cut s 44 m w (by omega) hM)
  have hlen := cut_len 44 s
  have HS : Hid (setRP s = endP (goR (cutF 44 s) none)) := by show _ = _; unfold setRP; rw [if_neg h0]
  have HM : Hid (∀ W, Below w.heap.size w W → W.cell? MaxA = some (.int .i64 m)) := fun W hW => max_keep hM hW
  clear hM h0
  generalize cutF 44 s = p at H1 HS hlen
  have hpl : p.length ≤ 200001 := by omega
  clear hlen
  generalize setRP s = R at HS ⊢
  obtain ⟨r1, r2⟩ := R
  go_enter Tryz.func44, Tryz.ntmps44
  go_wp2_with fail
  refine H1.out.mono ?_
  rintro e w1 ⟨rfl, hs1, hb1⟩
  have HSL := Lib.hid hs1
  have HB1 := Lib.hid hb1
  clear hs1 hb1
  go_wp2_with fail
  go_loopg [4, 14] p.length (fun g v i wr => ∃ (k : Nat) (out : List Int), k + g = p.length ∧ i = .int .i64 k ∧ out.length ≤ k ∧ OwnI w1.heap.size wr v out ∧ Below w1.heap.size w1 wr ∧ Hid (goR p none = (goR (p.drop k) out.getLast?).map (out ++ ·)))
  case atStart => exact ⟨0, [], by omega, rfl, by simp, OwnC.nil _ _, Below.refl _ _, by show _ = _; exact map_nil_appI _⟩
  case round =>
    obtain ⟨k, out, hkg, rfl, hok, HO, hb, HU⟩ := hrel
    have HO := Lib.hid HO
    have HB := Lib.hid hb
    have HK := Lib.hid hkg
    by_cases hlt : k < p.length
    · obtain ⟨b, off, ha, hbb, c00, _⟩ := SlR.atX HSL.out hlt
      injection ha with ha
      injection ha with ha1 ha2
      subst ha1 ha2
      have c0 : wr.cell? ⟨w.heap.size, 0 + k, none⟩ = some (bstr p[k]) := (hb.cell (p := ⟨w.heap.size, 0 + k, none⟩) hbb).trans c00
      rw [Nat.zero_add] at c0
      have HRD := Lib.hid (rules_ByName p[k] m wr (HM.out wr (HB1.out.trans (hb.mono HB1.out.size))))
      have hlo := seekX_lo p[k] rulW 0
      have hlen : rulW.length = 35 := rfl
      rw [hlen] at hlo
      have hd : p.drop k = p[k] :: p.drop (k + 1) := List.drop_eq_getElem_cons hlt
      have HY : Hid (∀ n, 0 ≤ idxX rulW p[k] → idxX rulW p[k] + 1 = n → okI out.getLast? n = true → goR p none = (goR (p.drop (k + 1)) (some n)).map ((out ++ [n]) ++ ·)) := fun n h h1 h2 => by rw [HU.out, hd, goR_yes h h1 h2]
      have HN : Hid (¬ (0 ≤ idxX rulW p[k] ∧ okI out.getLast? (idxX rulW p[k] + 1) = true) → (r1, r2) = ([], false)) := fun h => by rw [HS.out, HU.out, hd, goR_no h]; rfl
      have hfb : -1 ≤ idxX rulW p[k] ∧ idxX rulW p[k] < 35 := by unfold idxX; omega
      have HOK := Lib.hid hok
      clear hd c00 hkg HU hlo hlen hb
      generalize p[k] = x at c0 HRD HY HN hfb
      generalize idxX rulW x = f at HRD HY HN hfb
      have hw1 : IntKind.i64.wrap (f + 1) = f + 1 := IntWalk.i64_in _ (by omega)
      by_cases hf : 0 ≤ f
      · rw [decide_eq_true hf] at HRD
        rcases nil_or_snocI out with rfl | ⟨init, y, rfl⟩
        · have HU2 := Lib.hid (HY.out (f + 1) hf rfl rfl)
          obtain ⟨a3, cap3, rfl, _⟩ := HO.out.readI
          have HO3 : Hid (OwnI w1.heap.size wr (.slice a3 0 cap3) []) := HO.out
          clear HN HY HO hok
          simp only [List.length_nil]
          go_wp2_with fail
          refine HRD.out.mono ?_
          rintro e w' ⟨rfl, j, rfl⟩
          go_wp2_with (at_builtin; refine app_c (y := f + 1) st_ints intC_len intC_one (by omega) (.tmp 40) (.tmp 42) rfl rfl rfl (HO3.out.below (C := wr.heap.size) (by repeat (first | (with_reducible exact Below.refl _ _) | (with_reducible refine Below.allocS ?_ _) | (with_reducible refine Below.moreS ?_ _) | (with_reducible refine Below.drew ?_) | (with_reducible refine below_drewN ?_ _))) (Nat.le_refl _)) rfl (Blk.at_ _ _ _ (by simp)) rfl (by simp) (by have := HB.out.size; simp only [World.size_alloc, World.size_more]; omega) ?_; intro v' w2 hown hbw)
          have hb2 := HB.out.trans ((Below.mono (B := wr.heap.size) (by repeat (first | (with_reducible exact Below.refl _ _) | (with_reducible refine Below.allocS ?_ _) | (with_reducible refine Below.moreS ?_ _) | (with_reducible refine Below.drew ?_) | (with_reducible refine below_drewN ?_ _))) HB.out.size).trans hbw)
          have HB2 := Lib.hid hb2
          have HO2 := Lib.hid hown
          clear hbw hb2 hown
          go_wp2_with fail
          go_roundg (p.length - (k + 1))
          case measure => have := HK.out; omega
          case rel => exact ⟨k + 1, [] ++ [f + 1], by have := HK.out; omega, by go_num, by simp, HO2.out, HB2.out, by show _ = _; rw [HU2.out]; rfl⟩
        · obtain ⟨a3, cap3, rfl, hsl⟩ := HO.out.readI
          obtain ⟨n, hn⟩ : ∃ n, n = init.length := ⟨_, rfl⟩
          have hln : (init ++ [y]).length = n + 1 := by rw [hn]; simp
          obtain ⟨b, off, rfl, hbb, c00⟩ := SlR.atI hsl (k := n) (by omega)
          have hy : (init ++ [y])[n]'(by omega) = y := by simp [hn]
          rw [hy] at c00
          have HO3 : Hid (OwnI w1.heap.size wr (.slice (some ⟨b, off, none⟩) (n + 1) cap3) (init ++ [y])) := by have := HO.out; rw [hln] at this; exact this
          have HLN := Lib.hid hln
          have hnb : n ≤ 200001 := by have := HOK.out; omega
          have hlast : okI (init ++ [y]).getLast? (f + 1) = decide (y < f + 1) := by rw [last_snocI]; rfl
          rw [hln]
          rw [hlast] at HN
          have HY2 : Hid (y < f + 1 → goR p none = (goR (p.drop (k + 1)) (some (f + 1))).map (((init ++ [y]) ++ [f + 1]) ++ ·)) := fun h => HY.out (f + 1) hf rfl (hlast.trans (decide_eq_true h))
          have hoB : (init ++ [y]).length ≤ 200001 := by omega
          have HOB := Lib.hid hoB
          have hw2 : IntKind.i64.wrap ((n : Int) + 1 - 1) = n := by rw [show (n : Int) + 1 - 1 = n by omega]; exact IntWalk.i64_in _ (by omega)
          have hw3 : IntKind.i64.wrap (n : Int) = n := IntWalk.i64_in _ (by omega)
          have hpos : (0 : Int) < (n : Int) + 1 := by omega
          clear HY HO hsl hy hln hn hok hlast hoB
          by_cases hyf : y < f + 1
          · have HU2 := Lib.hid (HY2.out hyf)
            have hyf2 : ¬ f + 1 ≤ y := by omega
            clear HN HY2
            go_wp2_with fail
            refine HRD.out.mono ?_
            rintro e w' ⟨rfl, j, rfl⟩
            have e0 : (wr.more j).cell? ⟨b, off + n, none⟩ = some (.int .i64 y) := by rw [World.cell?_more _ _ _ hbb]; exact c00
            clear c00
            go_wp2_with (at_builtin; refine app_c (y := f + 1) st_ints intC_len intC_one (by omega) (.tmp 40) (.tmp 42) rfl rfl rfl (HO3.out.below (C := wr.heap.size) (by repeat (first | (with_reducible exact Below.refl _ _) | (with_reducible refine Below.allocS ?_ _) | (with_reducible refine Below.moreS ?_ _) | (with_reducible refine Below.drew ?_) | (with_reducible refine below_drewN ?_ _))) (Nat.le_refl _)) rfl (Blk.at_ _ _ _ (by simp)) rfl (by have := HOB.out; omega) (by have := HB.out.size; simp only [World.size_alloc, World.size_more]; omega) ?_; intro v' w2 hown hbw)
            have hb2 := HB.out.trans ((Below.mono (B := wr.heap.size) (by repeat (first | (with_reducible exact Below.refl _ _) | (with_reducible refine Below.allocS ?_ _) | (with_reducible refine Below.moreS ?_ _) | (with_reducible refine Below.drew ?_) | (with_reducible refine below_drewN ?_ _))) HB.out.size).trans hbw)
            have HB2 := Lib.hid hb2
            have HO2 := Lib.hid hown
            clear hbw hb2 hown
            go_wp2_with fail
            go_roundg (p.length - (k + 1))
            case measure => have := HK.out; omega
            case rel => exact ⟨k + 1, (init ++ [y]) ++ [f + 1], by have := HK.out; omega, by go_num, by have h9 := HOK.out; rw [List.length_append]; exact Nat.succ_le_succ h9, HO2.out, HB2.out, by show _ = _; rw [HU2.out, last_snocI]⟩
          · have hr := HN.out (by simp [hyf])
            obtain ⟨rfl, rfl⟩ := Prod.mk.inj hr
            have hyf2 : f + 1 ≤ y := by omega
            clear hr HN HY2
            go_wp2_with fail
            refine HRD.out.mono ?_
            rintro e w' ⟨rfl, j, rfl⟩
            have e0 : (wr.more j).cell? ⟨b, off + n, none⟩ = some (.int .i64 y) := by rw [World.cell?_more _ _ _ hbb]; exact c00
            clear c00
            go_wp2_with fail
            go_ret2
            exact ⟨none, 0, rfl, .nil, none_new, HB1.out.trans ((HB.out.mono HB1.out.size).trans (Below.mono (B := wr.heap.size) (by repeat (first | (with_reducible exact Below.refl _ _) | (with_reducible refine Below.allocS ?_ _) | (with_reducible refine Below.moreS ?_ _) | (with_reducible refine Below.drew ?_) | (with_reducible refine below_drewN ?_ _))) (Nat.le_trans HB1.out.size HB.out.size)))⟩
      · have hr := HN.out (fun h => hf h.1)
        obtain ⟨rfl, rfl⟩ := Prod.mk.inj hr
        rw [decide_eq_false hf] at HRD
        clear hr HN HY
        go_wp2_with fail
        refine HRD.out.mono ?_
        rintro e w' ⟨rfl, j, rfl⟩
        go_wp2_with fail
        go_ret2
        exact ⟨none, 0, rfl, .nil, none_new, HB1.out.trans ((HB.out.mono HB1.out.size).trans (Below.mono (B := wr.heap.size) (by repeat (first | (with_reducible exact Below.refl _ _) | (with_reducible refine Below.allocS ?_ _) | (with_reducible refine Below.moreS ?_ _) | (with_reducible refine Below.drew ?_) | (with_reducible refine below_drewN ?_ _))) (Nat.le_trans HB1.out.size HB.out.size)))⟩
    · have hr : (r1, r2) = (out, true) := by rw [HS.out, HU.out, List.drop_of_length_le (by omega)]; simp [goR, endP]
      obtain ⟨rfl, rfl⟩ := Prod.mk.inj hr
      obtain ⟨a, cap, rfl, hsl⟩ := HO.out.readI
      have HSO := Lib.hid hsl
      have HNW := Lib.hid (own_new HO.out HB1.out.size)
      clear hr hb hkg hsl
      go_wp2_with fail
      go_ret2
      exact ⟨_, _, rfl, HSO.out, HNW.out, HB1.out.trans (HB.out.mono HB1.out.size)⟩
set_option maxHeartbeats 8000000 in
set_option maxRecDepth 100000 in
theorem faults_ReadSetN (s : List UInt8) (hm : s.length ≤ 100000) (w : World) (hE : Env w) (hF : FN w) :
    Calls Tryz.prog 43 #[bstr s] w fun e w' => ∃ a cap, e = .returned (.tuple #[.slice a (setW s).1.length cap, .bool (setW s).2]) ∧ SlFl w' w'.heap.size a (setW s).1 ∧ (∀ p, a = some p → w.heap.size ≤ p.block) ∧ Below w.heap.size w w' := by
  by_cases h0 : s = [45]
  · subst h0
    have hr : setW [45] = ([], true) := by unfold setW; rw [if_pos rfl]
    rw [hr]
    clear hr
    go_enter Tryz.func43, Tryz.ntmps43
    go_wp2_with fail
    go_ret2
    exact ⟨none, 0, rfl, .nil, none_new, Below.refl _ _⟩
  have hne : (s == ([45] : List UInt8)) = false := by rw [beq_eq_false_iff_ne]; exact h0
  obtain ⟨m, hM⟩ := hE.max
  have H1 := Lib.hid (strings_cut s 44 m w (by omega) hM)
  have hlen := cut_len 44 s
  have HX : Hid (∀ x ∈ cutF 44 s, x.length ≤ 1000000) := fun x hx => by have := cut_short 44 s x hx; omega
  have HS : Hid (setW s = setE (goW (cutF 44 s) none)) := by show _ = _; unfold setW; rw [if_neg h0]
  have HE := Lib.hid hE
  have HF := Lib.hid hF
  clear hM h0 hE hF
  generalize cutF 44 s = p at H1 HS HX hlen
  have hpl : p.length ≤ 100001 := by omega
  clear hlen
  generalize setW s = R at HS ⊢
  obtain ⟨r1, r2⟩ := R
  go_enter Tryz.func43, Tryz.ntmps43
  go_wp2_with fail
  refine H1.out.mono ?_
  rintro e w1 ⟨rfl, hs1, hb1⟩
  have HSL := Lib.hid hs1
  have HB1 := Lib.hid hb1
  have HE1 := Lib.hid (HE.out.below hb1)
  have HF1 := Lib.hid (HF.out.below hb1)
  clear hs1 hb1 HE HF
  go_wp2_with fail
  go_loopg [4, 14] p.length (fun g v i wr => ∃ (k : Nat) (out : List Fl), k + g = p.length ∧ i = .int .i64 k ∧ out.length ≤ k ∧ OwnFl w1.heap.size wr v out ∧ Below w1.heap.size w1 wr ∧ Hid (goW p none = (goW (p.drop k) out.getLast?).map (out ++ ·)))
  case atStart => exact ⟨0, [], by omega, rfl, by simp, OwnC.nil _ _, Below.refl _ _, by show _ = _; exact map_nil_appF _⟩
  case round =>
    obtain ⟨k, out, hkg, rfl, hok, HO, hb, HU⟩ := hrel
    have HO := Lib.hid HO
    have HB := Lib.hid hb
    have HK := Lib.hid hkg
    by_cases hlt : k < p.length
    · obtain ⟨b, off, ha, hbb, c00, _⟩ := SlR.atX HSL.out hlt
      injection ha with ha
      injection ha with ha1 ha2
      subst ha1 ha2
      have c0 : wr.cell? ⟨w.heap.size, 0 + k, none⟩ = some (bstr p[k]) := (hb.cell (p := ⟨w.heap.size, 0 + k, none⟩) hbb).trans c00
      rw [Nat.zero_add] at c0
      have hx := HX.out _ (List.getElem_mem hlt)
      have HRD : Hid (∀ W, Env W → FN W → Calls Tryz.prog 82 #[bstr p[k]] W fun e w' => e = .returned (.tuple #[.agg #[.int .i64 (readW p[k]).1.scope, .int .i64 (readW p[k]).1.code], .bool (readW p[k]).2]) ∧ ∃ j, w' = W.more j) := fun W hW hW2 => faults_Read _ hx W hW hW2
      have hd : p.drop k = p[k] :: p.drop (k + 1) := List.drop_eq_getElem_cons hlt
      have HY : Hid (∀ f, readW p[k] = (f, true) → okBy out.getLast? f = true → goW p none = (goW (p.drop (k + 1)) (some f)).map ((out ++ [f]) ++ ·)) := fun f h h2 => by rw [HU.out, hd, goW_yes h h2]
      have HN : Hid (¬ ((readW p[k]).2 = true ∧ okBy out.getLast? (readW p[k]).1 = true) → (r1, r2) = ([], false)) := fun h => by rw [HS.out, HU.out, hd, goW_no h]; rfl
      have HER := Lib.hid (HE1.out.below hb)
      have HFR := Lib.hid (HF1.out.below hb)
      clear hd c00 hb hkg HU hx
      generalize p[k] = x at c0 HRD HY HN
      generalize readW x = V at HRD HY HN
      obtain ⟨⟨fs, fc⟩, is⟩ := V
      simp only at HRD HN
      have HOK := Lib.hid hok
      have hsz := HB.out.size
      go_wp2_with fail
      refine (HRD.out wr HER.out HFR.out).mono ?_
      rintro e w' ⟨rfl, j, rfl⟩
      cases is
      · have hr := HN.out (by simp)
        obtain ⟨rfl, rfl⟩ := Prod.mk.inj hr
        clear hr HN HY
        obtain ⟨wk, hwk⟩ : ∃ wk, wk = (wr.more j).alloc (.cells #[.int .i64 fs, .int .i64 fc] 88) := ⟨_, rfl⟩
        have hbk : Below wr.heap.size wr wk := by rw [hwk]; exact (by repeat (first | (with_reducible exact Below.refl _ _) | (with_reducible refine Below.allocS ?_ _) | (with_reducible refine Below.moreS ?_ _) | (with_reducible refine Below.drew ?_) | (with_reducible refine below_drewN ?_ _)))
        have d0 : wk.cell? ⟨wr.heap.size + j.heap.size, 0, none⟩ = some (.int .i64 fs) := by rw [hwk]; go_simp
        have d1 : wk.cell? ⟨wr.heap.size + j.heap.size, 1, none⟩ = some (.int .i64 fc) := by rw [hwk]; go_simp
        have hks : wr.heap.size + j.heap.size < wk.heap.size := by rw [hwk]; simp
        have HBK := Lib.hid hbk
        go_wp2_with fail
        rw [← hwk]
        clear hwk hbk
        refine wp_region_more (by kernel_rfl) (by kernel_rfl) ?_
        repeat (go_big_quiet_step (first | fail))
        refine wpQuiet_nil ?_
        intro w' hw'
        obtain ⟨j, rfl⟩ := hw'
        go_wp2_with fail
        go_ret2
        exact ⟨none, 0, rfl, .nil, none_new, HB1.out.trans ((HB.out.mono HB1.out.size).trans ((HBK.out.moreS _).mono (Nat.le_trans HB1.out.size HB.out.size)))⟩
      · rcases nil_or_snoc out with rfl | ⟨init, y, rfl⟩
        · have HU2 := Lib.hid (HY.out ⟨fs, fc⟩ rfl rfl)
          obtain ⟨a3, cap3, rfl, _⟩ := HO.out.read flC_len
          have HO3 : Hid (OwnFl w1.heap.size wr (.slice a3 0 cap3) []) := HO.out
          clear HN HY HO
          simp only [List.length_nil]
          obtain ⟨wk, hwk⟩ : ∃ wk, wk = (wr.more j).alloc (.cells #[.int .i64 fs, .int .i64 fc] 88) := ⟨_, rfl⟩
          have hbk : Below wr.heap.size wr wk := by rw [hwk]; exact (by repeat (first | (with_reducible exact Below.refl _ _) | (with_reducible refine Below.allocS ?_ _) | (with_reducible refine Below.moreS ?_ _) | (with_reducible refine Below.drew ?_) | (with_reducible refine below_drewN ?_ _)))
          have d0 : wk.cell? ⟨wr.heap.size + j.heap.size, 0, none⟩ = some (.int .i64 fs) := by rw [hwk]; go_simp
          have d1 : wk.cell? ⟨wr.heap.size + j.heap.size, 1, none⟩ = some (.int .i64 fc) := by rw [hwk]; go_simp
          have hks : wr.heap.size + j.heap.size < wk.heap.size := by rw [hwk]; simp
          have HBK := Lib.hid hbk
          go_wp2_with fail
          rw [← hwk]
          clear hwk hbk
          refine wp_region_more (by kernel_rfl) (by kernel_rfl) ?_
          repeat (go_big_quiet_step (first | fail))
          refine wpQuiet_nil ?_
          intro w' hw'
          obtain ⟨j, rfl⟩ := hw'
          go_wp2_with (at_builtin; refine app_c (y := ⟨fs, fc⟩) st_fl flC_len flC_one (by omega) (.tmp 41) (.tmp 43) rfl rfl rfl (HO3.out.below (C := wr.heap.size) (by repeat (first | exact HBK.out | (with_reducible refine Below.allocS ?_ _) | (with_reducible refine Below.moreS ?_ _) | (with_reducible refine Below.drew ?_))) (Nat.le_refl _)) rfl (Blk.at_ _ _ _ (by simp)) rfl (by skip; omega) (by have := HB.out.size; have := HBK.out.size; simp only [World.size_alloc, World.size_more]; omega) ?_; intro v' w2 hown hbw)
          have hb2 := HB.out.trans ((Below.mono (B := wr.heap.size) (by repeat (first | exact HBK.out | (with_reducible refine Below.allocS ?_ _) | (with_reducible refine Below.moreS ?_ _) | (with_reducible refine Below.drew ?_))) HB.out.size).trans hbw)
          have HB2 := Lib.hid hb2
          have HO2 := Lib.hid hown
          clear hbw hb2 hown
          go_wp2_with fail
          go_roundg (p.length - (k + 1))
          case measure => have := HK.out; omega
          case rel => exact ⟨k + 1, [] ++ [⟨fs, fc⟩], by have := HK.out; omega, by go_num, by simp, HO2.out, HB2.out, by show _ = _; rw [HU2.out]; rfl⟩
        · obtain ⟨a3, cap3, rfl, hsl⟩ := HO.out.read flC_len
          obtain ⟨n, hn⟩ : ∃ n, n = init.length := ⟨_, rfl⟩
          have hln : (init ++ [y]).length = n + 1 := by rw [hn]; simp
          obtain ⟨b, off, rfl, hbb, c00, c01⟩ := SlR.atFl hsl (k := n) (by omega)
          have hy : (init ++ [y])[n]'(by omega) = y := by simp [hn]
          rw [hy] at c00 c01
          have HO3 : Hid (OwnFl w1.heap.size wr (.slice (some ⟨b, off, none⟩) (n + 1) cap3) (init ++ [y])) := by have := HO.out; rw [hln] at this; exact this
          have HLN := Lib.hid hln
          have hnb : n ≤ 100001 := by omega
          have hlast : okBy (init ++ [y]).getLast? ⟨fs, fc⟩ = ltFl y ⟨fs, fc⟩ := by rw [last_snoc]; rfl
          rw [hln]
          rw [hlast] at HN
          have HY2 : Hid (ltFl y ⟨fs, fc⟩ = true → goW p none = (goW (p.drop (k + 1)) (some ⟨fs, fc⟩)).map (((init ++ [y]) ++ [⟨fs, fc⟩]) ++ ·)) := fun h => HY.out ⟨fs, fc⟩ rfl (hlast.trans h)
          have hoB : (init ++ [y]).length ≤ 100001 := by omega
          have HOB := Lib.hid hoB
          clear HY HO hsl hy hln hn hok hlast hoB
          obtain ⟨ys, yc⟩ := y
          have HL : Hid (∀ W, Calls Tryz.prog 83 #[.agg #[.int .i64 ys, .int .i64 yc], .agg #[.int .i64 fs, .int .i64 fc]] W fun e w' => e = .returned (.bool (ltFl ⟨ys, yc⟩ ⟨fs, fc⟩)) ∧ ∃ j, w' = W.more j) := faults_Less ys yc fs fc
          generalize ltFl ⟨ys, yc⟩ ⟨fs, fc⟩ = r at HL HN HY2
          have hw1 : IntKind.i64.wrap ((n : Int) + 1 - 1) = n := by rw [show (n : Int) + 1 - 1 = n by omega]; exact IntWalk.i64_in _ (by omega)
          have hw2 : IntKind.i64.wrap (n : Int) = n := IntWalk.i64_in _ (by omega)
          have hpos : (0 : Int) < (n : Int) + 1 := by omega
          obtain ⟨wk, hwk⟩ : ∃ wk, wk = (wr.more j).alloc (.cells #[.int .i64 fs, .int .i64 fc] 88) := ⟨_, rfl⟩
          have hbk : Below wr.heap.size wr wk := by rw [hwk]; exact (by repeat (first | (with_reducible exact Below.refl _ _) | (with_reducible refine Below.allocS ?_ _) | (with_reducible refine Below.moreS ?_ _) | (with_reducible refine Below.drew ?_) | (with_reducible refine below_drewN ?_ _)))
          have d0 : wk.cell? ⟨wr.heap.size + j.heap.size, 0, none⟩ = some (.int .i64 fs) := by rw [hwk]; go_simp
          have d1 : wk.cell? ⟨wr.heap.size + j.heap.size, 1, none⟩ = some (.int .i64 fc) := by rw [hwk]; go_simp
          have hks : wr.heap.size + j.heap.size < wk.heap.size := by rw [hwk]; simp
          have HBK := Lib.hid hbk
          go_wp2_with fail
          rw [← hwk]
          clear hwk hbk
          have e0 : wk.cell? ⟨b, off + n * 2, none⟩ = some (.int .i64 ys) := (HBK.out.cell (p := ⟨b, off + n * 2, none⟩) hbb).trans c00
          have e1 : wk.cell? ⟨b, off + n * 2 + 1, none⟩ = some (.int .i64 yc) := (HBK.out.cell (p := ⟨b, off + n * 2 + 1, none⟩) hbb).trans c01
          have hkb : b < wk.heap.size := Nat.lt_of_lt_of_le hbb HBK.out.size
          clear c00 c01
          cases r
          · have hr := HN.out (by simp)
            obtain ⟨rfl, rfl⟩ := Prod.mk.inj hr
            clear hr HN HY2
            refine wp_region_more (by kernel_rfl) (by kernel_rfl) ?_
            repeat (go_big_quiet_step (first | (go_at_call 83; with_reducible exact more_of (HL.out _))))
            refine wpQuiet_nil ?_
            intro w' hw'
            obtain ⟨j, rfl⟩ := hw'
            go_wp2_with fail
            go_ret2
            exact ⟨none, 0, rfl, .nil, none_new, HB1.out.trans ((HB.out.mono HB1.out.size).trans ((HBK.out.moreS _).mono (Nat.le_trans HB1.out.size HB.out.size)))⟩
          · have HU2 := Lib.hid (HY2.out rfl)
            clear HN HY2
            refine wp_region_more (by kernel_rfl) (by kernel_rfl) ?_
            repeat (go_big_quiet_step (first | (go_at_call 83; with_reducible exact more_of (HL.out _))))
            refine wpQuiet_nil ?_
            intro w' hw'
            obtain ⟨j, rfl⟩ := hw'
            go_wp2_with (at_builtin; refine app_c (y := ⟨fs, fc⟩) st_fl flC_len flC_one (by omega) (.tmp 41) (.tmp 43) rfl rfl rfl (HO3.out.below (C := wr.heap.size) (by repeat (first | exact HBK.out | (with_reducible refine Below.allocS ?_ _) | (with_reducible refine Below.moreS ?_ _) | (with_reducible refine Below.drew ?_))) (Nat.le_refl _)) rfl (Blk.at_ _ _ _ (by simp)) rfl (by have := HOB.out; omega) (by have := HB.out.size; have := HBK.out.size; simp only [World.size_alloc, World.size_more]; omega) ?_; intro v' w2 hown hbw)
            have hb2 := HB.out.trans ((Below.mono (B := wr.heap.size) (by repeat (first | exact HBK.out | (with_reducible refine Below.allocS ?_ _) | (with_reducible refine Below.moreS ?_ _) | (with_reducible refine Below.drew ?_))) HB.out.size).trans hbw)
            have HB2 := Lib.hid hb2
            have HO2 := Lib.hid hown
            clear hbw hb2 hown
            go_wp2_with fail
            go_roundg (p.length - (k + 1))
            case measure => have := HK.out; omega
            case rel => exact ⟨k + 1, (init ++ [⟨ys, yc⟩]) ++ [⟨fs, fc⟩], by have := HK.out; omega, by go_num, by have h9 := HOK.out; rw [List.length_append]; exact Nat.succ_le_succ h9, HO2.out, HB2.out, by show _ = _; rw [HU2.out, last_snoc]⟩
    · have hr : (r1, r2) = (out, true) := by rw [HS.out, HU.out, List.drop_of_length_le (by omega)]; simp [goW, setE]
      obtain ⟨rfl, rfl⟩ := Prod.mk.inj hr
      obtain ⟨a, cap, rfl, hsl⟩ := HO.out.read flC_len
      have HSO := Lib.hid hsl
      have HNW := Lib.hid (own_new HO.out HB1.out.size)
      clear hr hb hkg hsl
      go_wp2_with fail
      go_ret2
      exact ⟨_, _, rfl, HSO.out, HNW.out, HB1.out.trans (HB.out.mono HB1.out.size)⟩
end Go.Proofs.YtbdmepidabnfkaaGreatDoor
