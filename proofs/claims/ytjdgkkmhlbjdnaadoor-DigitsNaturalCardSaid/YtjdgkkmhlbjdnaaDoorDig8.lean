/-
  Numbers as digits: texts as lists, both roads.
-/
import Derived.Test.YtjdgkkmhlbjdnaaDoorDig7
import Derived.Test.YtjdgkkmhlbjdnaaDoorLine5
namespace Go.Proofs.YtjdgkkmhlbjdnaaDoor
set_option linter.unusedSimpArgs false
set_option linter.unusedVariables false
set_option linter.unusedSectionVars false
open Go.ChangeShapes Go.WideShapes Go.ChangeAt Go.RowKit Go.Deep Go.Shelf

theorem map_nil_app {α : Type} (o : Option (List α)) : o = o.map ([] ++ ·) := by cases o <;> simp
theorem readAll_yes {x : List UInt8} {r : List (List UInt8)} {n : Int} (h : readF x = (n, true)) (out : List Int) : (readAll (x :: r)).map (out ++ ·) = (readAll r).map ((out ++ [n]) ++ ·) := by
  rw [readAll, h, if_pos rfl]
  cases readAll r <;> simp
theorem readAll_no {x : List UInt8} {r : List (List UInt8)} (h : (readF x).2 = false) : readAll (x :: r) = none := by
  rw [readAll, if_neg (by rw [h]; simp)]

set_option maxHeartbeats 8000000 in
set_option maxRecDepth 100000 in
theorem digits_ReadList (s : List UInt8) (hm : s.length ≤ 100000) (w : World) (hE : Env w) :
    Calls Tryd.prog 59 #[bstr s] w fun e w' => ∃ a cap, e = .returned (.tuple #[.slice a (rlF s).1.length cap, .bool (rlF s).2]) ∧ (rlF s).1.length ≤ cap ∧ SlI w' w'.heap.size a (rlF s).1 ∧ Below w.heap.size w w' := by
  by_cases h0 : s = []
  · subst h0
    go_enter Tryd.func59, Tryd.ntmps59
    go_wp2_with fail
    go_ret2
    exact ⟨none, 0, rfl, Nat.le_refl _, .nil, Below.refl _ _⟩
  have hne : s.isEmpty = false := by cases s <;> simp_all
  have hne' : (!s.isEmpty) = true := by rw [hne]; rfl
  obtain ⟨m, hM⟩ := hE.max
  have H1 := Lib.hid (strings_cut s 44 m w (by omega) hM)
  have hlen := cut_len 44 s
  have HX : Hid (∀ x ∈ cutF 44 s, x.length ≤ 1048576) := fun x hx => by have := cut_short 44 s x hx; omega
  have HS : Hid (rlF s = rlE (readAll (cutF 44 s))) := by show _ = _; unfold rlF; rw [if_neg h0]
  have HE := Lib.hid hE
  clear hM h0 hE
  generalize cutF 44 s = p at H1 HS HX hlen
  have hpl : p.length ≤ 100001 := by omega
  clear hlen
  generalize rlF s = R at HS ⊢
  obtain ⟨r1, r2⟩ := R
  go_enter Tryd.func59, Tryd.ntmps59
  go_wp2_with fail
  refine H1.out.mono ?_
  rintro e w1 ⟨rfl, hs1, hb1⟩
  have HSL := Lib.hid hs1
  have HB1 := Lib.hid hb1
  have HE1 := Lib.hid (HE.out.below hb1)
  clear hs1 hb1 HE
  go_wp2_with fail
  go_loopg [4, 14] p.length (fun g v i wr => ∃ (k : Nat) (out : List Int), k + g = p.length ∧ i = .int .i64 k ∧ out.length ≤ k ∧ OwnI w1.heap.size wr v out ∧ Below w1.heap.size w1 wr ∧ Hid (readAll p = (readAll (p.drop k)).map (out ++ ·)))
  case atStart => exact ⟨0, [], by omega, rfl, by simp, OwnC.nil _ _, Below.refl _ _, by show _ = _; exact map_nil_app _⟩
  case round =>
    obtain ⟨k, out, hkg, rfl, hok, HO, hb, HU⟩ := hrel
    have HO := Lib.hid HO
    have HB := Lib.hid hb
    have HK := Lib.hid hkg
    by_cases hlt : k < p.length
    · obtain ⟨b, off, ha, hbb, c00, _⟩ := SlR.atX HSL.out hlt
      injection ha with ha
      injection ha with ha1 ha2
      subst ha1 ha2
      have c0 : wr.cell? ⟨w.heap.size, 0 + k, none⟩ = some (bstr p[k]) := (hb.cell (p := ⟨w.heap.size, 0 + k, none⟩) hbb).trans c00
      rw [Nat.zero_add] at c0
      have hx := HX.out _ (List.getElem_mem hlt)
      have HRD : Hid (∀ W, Env W → Calls Tryd.prog 52 #[bstr p[k]] W fun e w' => e = .returned (.tuple #[.int .i64 (readF p[k]).1, .bool (readF p[k]).2]) ∧ ∃ j, w' = W.more j) := fun W hW => digits_Read _ hx W hW
      have hd : p.drop k = p[k] :: p.drop (k + 1) := List.drop_eq_getElem_cons hlt
      have HY : Hid (∀ n, readF p[k] = (n, true) → readAll p = (readAll (p.drop (k + 1))).map ((out ++ [n]) ++ ·)) := fun n h => by rw [HU.out, hd, readAll_yes h]
      have HN : Hid ((readF p[k]).2 = false → (r1, r2) = ([], false)) := fun h => by rw [HS.out, HU.out, hd, readAll_no h]; rfl
      have HER := Lib.hid (HE1.out.below hb)
      clear hd c00 hb hkg HU hx
      generalize p[k] = x at c0 HRD HY HN
      generalize readF x = V at HRD HY HN
      obtain ⟨n, is⟩ := V
      cases is
      · have hr := HN.out rfl
        obtain ⟨rfl, rfl⟩ := Prod.mk.inj hr
        clear hr HN HY
        go_wp2_with fail
        refine (HRD.out wr HER.out).mono ?_
        rintro e w' ⟨rfl, j, rfl⟩
        go_wp2_with fail
        go_ret2
        exact ⟨none, 0, rfl, Nat.le_refl _, .nil, (HB1.out.trans ((HB.out.mono HB1.out.size))).trans ((Below.moreS (Below.refl wr.heap.size wr) j).mono (Nat.le_trans HB1.out.size HB.out.size))⟩
      · have HU2 := Lib.hid (HY.out n rfl)
        clear HN HY
        go_wp2_with fail
        refine (HRD.out wr HER.out).mono ?_
        rintro e w' ⟨rfl, j, rfl⟩
        go_wp2_with (at_builtin; refine app_c st_ints intC_len intC_one (by omega) (.tmp 25) (.tmp 27) rfl rfl rfl ((HO.out.more _).alloc _) rfl (Blk.at_ _ _ _ (by simp)) rfl (by omega) (by rw [World.size_alloc, World.size_more]; have := HB.out.size; omega) ?_; intro v' w2 hown hbw)
        have hb2 := HB.out.trans (((((Below.refl wr.heap.size wr).moreS j).alloc (by simp) _).mono HB.out.size).trans hbw)
        have HB2 := Lib.hid hb2
        have HO2 := Lib.hid hown
        clear hbw hb2 hown
        go_wp2_with fail
        go_roundg (p.length - (k + 1))
        case measure => have := HK.out; omega
        case rel => exact ⟨k + 1, out ++ [n], by have := HK.out; omega, by go_num, by simp; omega, HO2.out, HB2.out, HU2⟩
    · have hr : (r1, r2) = (out, true) := by rw [HS.out, HU.out, List.drop_of_length_le (by omega)]; simp [readAll, rlE]
      obtain ⟨rfl, rfl⟩ := Prod.mk.inj hr
      obtain ⟨a, cap, rfl, hcap⟩ := HO.out.cap
      have HCP := Lib.hid hcap
      clear hr hb hkg hcap
      go_wp2_with fail
      go_ret2
      obtain ⟨a', cap', hv, hsl⟩ := HO.out.readI
      injection hv with h1 h2 h3
      subst h1 h3
      exact ⟨_, _, rfl, HCP.out, hsl, HB1.out.trans (HB.out.mono HB1.out.size)⟩

def tailR (s : List UInt8) (k fr : Nat) : Option (List Int) := if k ≤ s.length then readAll (preF ((s.drop fr).take (k - fr)) (cutF 44 (s.drop k))) else some []
theorem pre_nil_cut (c : UInt8) (s : List UInt8) : preF [] (cutF c s) = cutF c s := by obtain ⟨a, t, e⟩ := cut_ne c s; rw [e]; rfl
theorem tail_zero (s : List UInt8) : readAll (cutF 44 s) = tailR s 0 0 := by unfold tailR; rw [if_pos (Nat.zero_le _)]; simp [pre_nil_cut]
theorem tail_skip {s : List UInt8} {k fr : Nat} (hlt : k < s.length) (hf : fr ≤ k) (hc : s[k] ≠ 44) : tailR s k fr = tailR s (k + 1) fr := by
  unfold tailR
  rw [if_pos (by omega), if_pos (by omega), List.drop_eq_getElem_cons hlt, cutF, if_neg hc, pre_pre]
  congr 2
  rw [show k + 1 - fr = (k - fr) + 1 by omega, List.take_succ_eq_append_getElem (by simp; omega)]
  simp [show fr + (k - fr) = k by omega]
theorem tail_cut {s : List UInt8} {k fr : Nat} (hk : k ≤ s.length) (hc : ∀ h : k < s.length, s[k] = 44) : ∃ r, tailR s k fr = readAll ((s.drop fr).take (k - fr) :: r) ∧ readAll r = tailR s (k + 1) (k + 1) := by
  unfold tailR
  rw [if_pos hk]
  by_cases hlt : k < s.length
  · refine ⟨cutF 44 (s.drop (k + 1)), ?_, ?_⟩
    · rw [List.drop_eq_getElem_cons hlt, cutF, if_pos (hc hlt)]; simp [preF]
    · rw [if_pos (by omega)]; simp [pre_nil_cut]
  · refine ⟨[], ?_, ?_⟩
    · have e : s.drop k = [] := List.drop_of_length_le (by omega)
      rw [e]; simp [cutF, preF]
    · rw [if_neg (by omega)]; rfl

set_option maxHeartbeats 8000000 in
set_option maxRecDepth 100000 in
theorem ref03_ReadList (s : List UInt8) (hm : s.length ≤ 100000) (w : World) :
    Calls Tryd.prog 60 #[bstr s] w fun e w' => ∃ a cap, e = .returned (.tuple #[.slice a (rlF s).1.length cap, .bool (rlF s).2]) ∧ (rlF s).1.length ≤ cap ∧ SlI w' w'.heap.size a (rlF s).1 ∧ Below w.heap.size w w' := by
  by_cases h0 : s = []
  · subst h0
    go_enter Tryd.func60, Tryd.ntmps60
    go_wp2_with fail
    go_ret2
    exact ⟨none, 0, rfl, Nat.le_refl _, .nil, Below.refl _ _⟩
  have hne : s.isEmpty = false := by cases s <;> simp_all
  have hne' : (!s.isEmpty) = true := by rw [hne]; rfl
  have HS : Hid (rlF s = rlE (tailR s 0 0)) := by show _ = _; unfold rlF; rw [if_neg h0, tail_zero]
  clear h0
  generalize rlF s = R at HS ⊢
  obtain ⟨r1, r2⟩ := R
  go_enter Tryd.func60, Tryd.ntmps60
  go_wp2_with fail
  go_loopg [4, 5, 6] (s.length + 1) (fun g v f i wr => ∃ (k fr : Nat) (out : List Int), k + g = s.length + 1 ∧ i = .int .i64 k ∧ f = .int .i64 fr ∧ fr ≤ k ∧ out.length ≤ k ∧ OwnI w.heap.size wr v out ∧ Below w.heap.size w wr ∧ Hid (tailR s 0 0 = (tailR s k fr).map (out ++ ·)))
  case atStart => exact ⟨0, 0, [], by omega, rfl, rfl, Nat.le_refl _, by simp, OwnC.nil _ _, Below.refl _ _, by show _ = _; exact map_nil_app _⟩
  case round =>
    obtain ⟨k, fr, out, hkg, rfl, rfl, hfk, hok, HO, hb, HU⟩ := hrel
    have HO := Lib.hid HO
    have HB := Lib.hid hb
    have HK := Lib.hid hkg
    by_cases hle : k ≤ s.length
    · have hle' : (k : Int) ≤ s.length := by omega
      have hfk' : (fr : Int) ≤ k := by omega
      by_cases hskip : ∃ h : k < s.length, s[k] ≠ 44
      · obtain ⟨hlt, hne4⟩ := hskip
        have hc : ((s[k].toNat : Int) != 44) = true := by
          rw [bne_iff_ne]; intro h; exact hne4 (UInt8.toNat_inj.1 (by show s[k].toNat = 44; omega))
        have hc2 : ((s[k].toNat : Int) == 44) = false := by
          rw [beq_eq_false_iff_ne]; intro h; exact hne4 (UInt8.toNat_inj.1 (by show s[k].toNat = 44; omega))
        have HU2 : Hid (tailR s 0 0 = (tailR s (k + 1) fr).map (out ++ ·)) := by show _ = _; rw [HU.out, tail_skip hlt hfk hne4]
        clear hne4 hkg hb HU
        go_wp2_with fail
        go_roundg (s.length + 1 - (k + 1))
        case measure => have := HK.out; omega
        case rel => exact ⟨k + 1, fr, out, by have := HK.out; omega, by go_num, rfl, by omega, by omega, HO.out, HB.out, HU2⟩
      · have hc : ∀ h : k < s.length, s[k] = 44 := fun h => Decidable.byContradiction fun hn => hskip ⟨h, hn⟩
        obtain ⟨rr, ht1, ht2⟩ := tail_cut (fr := fr) hle hc
        have hX : ((s.drop fr).take (k - fr)).length ≤ 1048576 := by simp; omega
        have HRD : Hid (∀ W, Calls Tryd.prog 55 #[bstr ((s.drop fr).take (k - fr))] W fun e w' => e = .returned (.tuple #[.int .i64 (readF ((s.drop fr).take (k - fr))).1, .bool (readF ((s.drop fr).take (k - fr))).2]) ∧ W = w') := fun W => by rw [read_eq]; exact ref03_Read _ hX W
        have HY : Hid (∀ n, readF ((s.drop fr).take (k - fr)) = (n, true) → tailR s 0 0 = (tailR s (k + 1) (k + 1)).map ((out ++ [n]) ++ ·)) := fun n h => by rw [HU.out, ht1, readAll_yes h, ht2]
        have HN : Hid ((readF ((s.drop fr).take (k - fr))).2 = false → (r1, r2) = ([], false)) := fun h => by rw [HS.out, HU.out, ht1, readAll_no h]; rfl
        clear ht1 ht2 HU hskip hX
        generalize readF ((s.drop fr).take (k - fr)) = V at HRD HY HN
        obtain ⟨n, is⟩ := V
        have hcase : k < s.length ∨ ¬ k < s.length := Decidable.em _
        rcases hcase with hlt | hlt
        · have hc4 := hc hlt
          have hc : ((s[k].toNat : Int) != 44) = false := by rw [hc4]; rfl
          have hc2 : ((s[k].toNat : Int) == 44) = true := by rw [hc4]; rfl
          clear hc4
          cases is
          · have hr := HN.out rfl
            obtain ⟨rfl, rfl⟩ := Prod.mk.inj hr
            clear hr HN HY hkg hb
            go_wp2_with (go_at_call 55; (with_reducible refine (HRD.out _).mono ?_); rintro e w' ⟨rfl, rfl⟩)
            go_ret2
            exact ⟨none, 0, rfl, Nat.le_refl _, .nil, HB.out⟩
          · have HU2 := Lib.hid (HY.out n rfl)
            clear HN HY hkg hb
            go_wp2_with (first
              | (go_at_call 55; (with_reducible refine (HRD.out _).mono ?_); rintro e w' ⟨rfl, rfl⟩)
              | (at_builtin; refine app_c st_ints intC_len intC_one (by omega) (.tmp 37) (.tmp 39) rfl rfl rfl (HO.out.alloc _) rfl (Blk.new _ _ _) rfl (by omega) (by rw [World.size_alloc]; have := HB.out.size; omega) ?_; intro v' w2 hown hbw))
            have hb2 := HB.out.trans (((Below.refl w.heap.size wr).alloc HB.out.size _).trans hbw)
            have HB2 := Lib.hid hb2
            have HO2 := Lib.hid hown
            clear hbw hb2 hown
            go_wp2_with fail
            go_roundg (s.length + 1 - (k + 1))
            case measure => have := HK.out; omega
            case rel => exact ⟨k + 1, k + 1, out ++ [n], by have := HK.out; omega, by go_num, by go_num, Nat.le_refl _, by simp; omega, HO2.out, HB2.out, HU2⟩
        · clear hc
          cases is
          · have hr := HN.out rfl
            obtain ⟨rfl, rfl⟩ := Prod.mk.inj hr
            clear hr HN HY hkg hb
            go_wp2_with (go_at_call 55; (with_reducible refine (HRD.out _).mono ?_); rintro e w' ⟨rfl, rfl⟩)
            go_ret2
            exact ⟨none, 0, rfl, Nat.le_refl _, .nil, HB.out⟩
          · have HU2 := Lib.hid (HY.out n rfl)
            clear HN HY hkg hb
            go_wp2_with (first
              | (go_at_call 55; (with_reducible refine (HRD.out _).mono ?_); rintro e w' ⟨rfl, rfl⟩)
              | (at_builtin; refine app_c st_ints intC_len intC_one (by omega) (.tmp 37) (.tmp 39) rfl rfl rfl (HO.out.alloc _) rfl (Blk.new _ _ _) rfl (by omega) (by rw [World.size_alloc]; have := HB.out.size; omega) ?_; intro v' w2 hown hbw))
            have hb2 := HB.out.trans (((Below.refl w.heap.size wr).alloc HB.out.size _).trans hbw)
            have HB2 := Lib.hid hb2
            have HO2 := Lib.hid hown
            clear hbw hb2 hown
            go_wp2_with fail
            go_roundg (s.length + 1 - (k + 1))
            case measure => have := HK.out; omega
            case rel => exact ⟨k + 1, k + 1, out ++ [n], by have := HK.out; omega, by go_num, by go_num, Nat.le_refl _, by simp; omega, HO2.out, HB2.out, HU2⟩
    · have hr : (r1, r2) = (out, true) := by rw [HS.out, HU.out]; unfold tailR; rw [if_neg hle]; simp [rlE]
      obtain ⟨rfl, rfl⟩ := Prod.mk.inj hr
      obtain ⟨a, cap, rfl, hcap⟩ := HO.out.cap
      have HCP := Lib.hid hcap
      have hle' : ¬ (k : Int) ≤ s.length := by omega
      clear hr hb hkg hcap
      go_wp2_with fail
      go_ret2
      obtain ⟨a', cap', hv, hsl⟩ := HO.out.readI
      injection hv with h1 h2 h3
      subst h1 h3
      exact ⟨_, _, rfl, HCP.out, hsl, HB.out⟩
end Go.Proofs.YtjdgkkmhlbjdnaaDoor
