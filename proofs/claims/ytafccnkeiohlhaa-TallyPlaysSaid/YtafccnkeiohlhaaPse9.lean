/-
  The law PseudoOne: no fields are both a request's and a response's.
-/
import Derived.Test.YtafccnkeiohlhaaPse8
import Derived.Test.YtafccnkeiohlhaaLenOth
namespace Go.Proofs.Ytafccnkeiohlhaa
open Go.ChangeShapes Go.WideShapes Go.ChangeAt Go.RowKit Go.Deep Go.Sort

def notP (m : List Fd) : List Fd := m.filter fun f => !startsF f.name
theorem notP_no (m : List Fd) : ∀ f ∈ notP m, startsF f.name = false := by
  intro f hf
  have := (List.mem_filter.1 hf).2
  simpa using this
theorem valueR_mem : ∀ {l : List Fd} {n : List UInt8}, valueR l n ≠ [] → ∃ f ∈ l, f.name = n
  | [], n, h => absurd rfl h
  | f :: r, n, h => by
    cases h1 : (f.name == n) with
    | true => exact ⟨f, by simp, by simpa using h1⟩
    | false =>
      rw [valueR_no h1] at h
      obtain ⟨g, hg, e⟩ := valueR_mem h
      exact ⟨g, by simp [hg], e⟩
theorem ord_mem {all : List Fd} {names : List (List UInt8)} : ∀ {r : List Fd} {p : Bool}, ordGo all names p r = true → ∀ f ∈ r, startsF f.name = true → amongF names f.name = true
  | [], _, _, f, hf, _ => by simp at hf
  | g :: r, p, h, f, hf, hs => by
    cases hg : startsF g.name with
    | true =>
      rw [ordGo_yes hg] at h
      simp only [Bool.and_eq_true] at h
      rcases List.mem_cons.1 hf with rfl | hf
      · exact h.1.1.2
      · exact ord_mem h.2 f hf hs
    | false =>
      rw [ordGo_no hg] at h
      rcases List.mem_cons.1 hf with rfl | hf
      · rw [hg] at hs; cases hs
      · exact ord_mem h f hf hs
theorem refReq_method {l : List Fd} (h : (refReq l).2 = true) : orderedF l reqNames = true ∧ valueR l nMethod ≠ [] := by
  cases ho : orderedF l reqNames with
  | false => rw [refReq_no ho] at h; cases h
  | true =>
    refine ⟨rfl, fun e => ?_⟩
    have : reqOk (reqHd l) (manyF l nScheme + manyF l nPath) = false := by
      unfold reqOk reqHd
      simp only [e]
      rfl
    rw [refReq_bad this] at h
    cases h
theorem refRes_status {l : List Fd} (h : (refRes l).2 = true) : orderedF l stNames = true ∧ valueR l nStatus ≠ [] := by
  cases ho : orderedF l stNames with
  | false => rw [refRes_no ho] at h; cases h
  | true =>
    refine ⟨rfl, fun e => ?_⟩
    rw [refRes_len (by rw [e]; decide)] at h
    cases h
theorem not_both (l : List Fd) : ((refReq l).2 && (refRes l).2) = false := by
  cases h1 : (refReq l).2 with
  | false => rfl
  | true =>
    cases h2 : (refRes l).2 with
    | false => rfl
    | true =>
      exfalso
      obtain ⟨_, hm⟩ := refReq_method h1
      obtain ⟨ho, _⟩ := refRes_status h2
      obtain ⟨f, hf, hn⟩ := valueR_mem hm
      have := ord_mem ho f hf (by rw [hn]; decide)
      rw [hn] at this
      exact absurd this (by decide)
theorem not_trailer (l : List Fd) : (trailerF l && ((refReq l).2 || (refRes l).2)) = false := by
  cases ht : trailerF l with
  | false => rfl
  | true =>
    have hno : ∀ f ∈ l, startsF f.name = false := by
      intro f hf
      have := List.all_eq_true.1 ht f hf
      simpa using this
    cases h1 : (refReq l).2 with
    | true =>
      exfalso
      obtain ⟨f, hf, hn⟩ := valueR_mem (refReq_method h1).2
      have := hno f hf
      rw [hn] at this
      exact absurd this (by decide)
    | false =>
      cases h2 : (refRes l).2 with
      | true =>
        exfalso
        obtain ⟨f, hf, hn⟩ := valueR_mem (refRes_status h2).2
        have := hno f hf
        rw [hn] at this
        exact absurd this (by decide)
      | false => rfl
theorem manyF_zero {q : List Fd} (h : ∀ f ∈ q, startsF f.name = false) {n : List UInt8} (hn : startsF n = true) : manyF q n = 0 := by
  have h0 := (manyF_le q n).1
  by_cases hp : 0 < manyF q n
  · obtain ⟨g, hg, e⟩ := manyF_mem hp
    have := h g hg
    rw [e, hn] at this
    cases this
  · omega
theorem valueR_behind (l : List Fd) {q : List Fd} (h : ∀ f ∈ q, startsF f.name = false) {n : List UInt8} (hn : startsF n = true) : valueR (l ++ q) n = valueR l n := by
  rw [valueR_append]
  split
  · rename_i h0
    have e : ∀ (p : List Fd), manyF p n = 0 → valueR p n = [] := by
      intro p
      induction p with
      | nil => intro _; rfl
      | cons g r ih =>
        intro h
        cases hg : (g.name == n) with
        | true => rw [manyF_yes hg] at h; have := (manyF_le r n).1; omega
        | false => rw [valueR_no hg]; rw [manyF_no hg] at h; exact ih h
    rw [e l h0, e q (manyF_zero h hn)]
  · rfl
theorem manyF_behind (l : List Fd) {q : List Fd} (h : ∀ f ∈ q, startsF f.name = false) {n : List UInt8} (hn : startsF n = true) : manyF (l ++ q) n = manyF l n := by
  rw [manyF_append, manyF_zero h hn]; omega
theorem ordGo_plain {all : List Fd} {names : List (List UInt8)} : ∀ {q : List Fd} {p : Bool}, (∀ f ∈ q, startsF f.name = false) → ordGo all names p q = true
  | [], _, _ => rfl
  | f :: r, p, h => by rw [ordGo_no (h f (by simp))]; exact ordGo_plain fun g hg => h g (by simp [hg])
theorem ordGo_behind {l q : List Fd} {names : List (List UInt8)} (h : ∀ f ∈ q, startsF f.name = false) : ∀ (r : List Fd) (p : Bool), ordGo (l ++ q) names p (r ++ q) = ordGo l names p r
  | [], p => by rw [List.nil_append, ordGo_plain h]; rfl
  | f :: r, p => by
    cases hf : startsF f.name with
    | true => rw [List.cons_append, ordGo_yes hf, ordGo_yes hf, manyF_behind l h hf, ordGo_behind h r true]
    | false => rw [List.cons_append, ordGo_no hf, ordGo_no hf, ordGo_behind h r false]
theorem orderedF_behind (l : List Fd) {q : List Fd} {names : List (List UInt8)} (h : ∀ f ∈ q, startsF f.name = false) : orderedF (l ++ q) names = orderedF l names := ordGo_behind h l true
theorem refReq_behind (l : List Fd) {q : List Fd} (h : ∀ f ∈ q, startsF f.name = false) : refReq (l ++ q) = refReq l := by
  unfold refReq reqHd
  rw [orderedF_behind l h, valueR_behind l h (by decide), valueR_behind l h (by decide), valueR_behind l h (by decide), valueR_behind l h (by decide), manyF_behind l h (by decide), manyF_behind l h (by decide)]
theorem refRes_behind (l : List Fd) {q : List Fd} (h : ∀ f ∈ q, startsF f.name = false) : refRes (l ++ q) = refRes l := by
  unfold refRes
  rw [orderedF_behind l h, valueR_behind l h (by decide)]
theorem notP_cons_no {f : Fd} {r : List Fd} (h : startsF f.name = true) : notP (f :: r) = notP r := by simp [notP, h]
theorem notP_cons_yes {f : Fd} {r : List Fd} (h : startsF f.name = false) : notP (f :: r) = f :: notP r := by simp [notP, h]
theorem trailer_one (f : Fd) : trailerF [f] = !startsF f.name := by simp [trailerF]
theorem notP_len (m : List Fd) : (notP m).length ≤ m.length := List.length_filter_le _ _

set_option maxRecDepth 100000 in
set_option maxHeartbeats 4000000 in
theorem pseudoOne_law (a : Option Addr) (cap : Nat) (l : List Fd) (am : Option Addr) (capm : Nat) (m : List Fd) (w : World) (_hc : l.length ≤ cap) (hm : l.length ≤ maxLen) (hs : SlF w w.heap.size a l) (_hcm : m.length ≤ capm) (hmm : m.length ≤ maxLen) (hsm : SlF w w.heap.size am m) :
    Calls Try.prog 12 #[.slice a l.length cap, .slice am m.length capm] w fun e w' => e = .returned (.bool true) ∧ Below w.heap.size w w' := by
  by_cases hbig : largeF l 60 200 = true ∨ largeF m 60 200 = true
  · cases hL : largeF l 60 200 <;> cases hM : largeF m 60 200
    case false.false => rw [hL, hM] at hbig; simp at hbig
    all_goals
      clear hbig
      go_enter Try.func12, Try.ntmps12
      go_wp2_with fail
      refine (ref21_Large a cap w.heap.size l _ _ _ hm hs).mono ?_
      rintro e w1 ⟨rfl, rfl⟩
      rw [hL]
      go_wp2_with (first
        | (go_at_call 19; refine (ref21_Large am capm w.heap.size m _ _ _ hmm hsm).mono ?_; rintro e w1 ⟨rfl, rfl⟩; rw [hM])
        | (go_at_call 41; refine (law27_alive _).mono ?_; rintro e w1 ⟨rfl, hb⟩))
      go_ret
      exact ⟨rfl, hb⟩
  · have hL : largeF l 60 200 = false := by cases h : largeF l 60 200 <;> simp_all
    have hM : largeF m 60 200 = false := by cases h : largeF m 60 200 <;> simp_all
    have hl60 := small_of hL
    have hm60 := small_of hM
    clear hbig
    go_enter Try.func12, Try.ntmps12
    go_wp2_with fail
    refine (ref21_Large a cap w.heap.size l _ _ _ hm hs).mono ?_
    rintro e w1 ⟨rfl, rfl⟩
    rw [hL]
    go_wp2_with fail
    refine (ref21_Large am capm w.heap.size m _ _ _ hmm hsm).mono ?_
    rintro e w1 ⟨rfl, rfl⟩
    rw [hM]
    have ob : ∀ (y : Fd), ∀ u ∈ y.cells, u.oneCell' = true := by intro y u hu; simp [Fd.cells] at hu; rcases hu with rfl | rfl | rfl <;> rfl
    go_wp2_with (at_builtin
                 refine wpList_app_sl st_fields (.tmp 23) (.tmp 24) rfl rfl (base := w.heap.size) rfl (World.ownsRow_lit (base := w.heap.size) w #[] 0 (Nat.le_refl _) (by decide) rfl) rfl rfl (hs.below ((Below.refl w.heap.size w).alloc (Nat.le_refl _) _) (Nat.le_refl _)) (fun y _ => fd_cells y) (fun _ _ => rfl) (fun y _ => ob y) ?_ ?_ ?_ ?_
                 · unfold maxLen; omega
                 · omega
                 · simp
                 intro v1 w1 hown1 hg1
                 have hb1 := own_grown ((Below.refl w.heap.size w).alloc (Nat.le_refl _) _) (World.ownsRow_lit (base := w.heap.size) (e := 33) (size := 3) w #[] 0 (Nat.le_refl _) (by decide) rfl) hg1 (Nat.le_refl _) (by simp)
                 clear hg1)
    have hown1' : w1.ownsRow w.heap.size 33 3 v1 l.length (l.flatMap Fd.cells) := by simpa using hown1
    have HQ0 : Hid (l ++ notP m = l ++ notP (m.drop 0)) := rfl
    have hbl := slF_bounds hs
    clear hown1
    go_loopg [28, 5] m.length (fun g i v wr => ∃ (k : Nat) (acc : List Fd), k + g = m.length ∧ i = .int .i64 k ∧ acc.length ≤ l.length + k ∧ Below w.heap.size w wr ∧ wr.ownsRow w.heap.size 33 3 v acc.length (acc.flatMap Fd.cells) ∧ (∀ f ∈ acc, f.name.length ≤ maxLen ∧ f.value.length ≤ maxLen) ∧ Hid (l ++ notP m = acc ++ notP (m.drop k)))
    case atStart => exact ⟨0, l, by omega, rfl, by omega, hb1, hown1', hbl, HQ0⟩
    case round =>
      clear HQ0 hb1 hown1'
      obtain ⟨k, acc, hkg, rfl, hacc, hb, hown, hbd, HQ⟩ := hrel
      have HK := Lib.hid hkg
      have HBD := Lib.hid hbd
      by_cases hlt : k < m.length
      · obtain ⟨b, off, rfl, hb', c0, c1, c2, m1, m2⟩ := (hsm.below hb (Nat.le_refl _)).atF hlt
        have hbk := slF_bounds hsm m[k] (List.getElem_mem hlt)
        have HBK := Lib.hid hbk
        have hz := hb.size
        have hdrop := List.drop_eq_getElem_cons hlt
        have HQ2 : Hid (l ++ notP m = acc ++ notP (m[k] :: m.drop (k + 1))) := HQ.out.trans (by rw [hdrop])
        clear HQ hdrop hkg hbd hbk
        go_wp2_with fail
        have s1 : SlF ((wr.alloc (.cells #[bstr m[k].name, bstr m[k].value, .bool m[k].never] 33)).alloc (.cells #[bstr m[k].name, bstr m[k].value, .bool m[k].never] 33)) (wr.heap.size + 2) (some ⟨wr.heap.size + 1, 0, none⟩) [m[k]] := (slF_new (l := [m[k]]) (Blk.at_ _ _ _ (by simp)) rfl (by simp [HBK.out.1, HBK.out.2]))
        refine (ref27_Trailer (some ⟨wr.heap.size + 1, 0, none⟩) 1 (wr.heap.size + 2) [m[k]] _ (show 1 ≤ maxLen by decide) (by simp) s1).mono ?_
        rintro e w2 ⟨rfl, hb2⟩
        rw [trailer_one]
        have hown2 := own_below ((hown.alloc (.cells #[bstr m[k].name, bstr m[k].value, .bool m[k].never] 33)).alloc (.cells #[bstr m[k].name, bstr m[k].value, .bool m[k].never] 33)) hb2 (by simp)
        have BF := ((Blk.new wr 33 #[bstr m[k].name, bstr m[k].value, .bool m[k].never]).alloc (.cells #[bstr m[k].name, bstr m[k].value, .bool m[k].never] 33)).below hb2 (by simp; omega)
        have hb3 := ((hb.alloc hz (.cells #[bstr m[k].name, bstr m[k].value, .bool m[k].never] 33)).alloc (by simp; omega) (.cells #[bstr m[k].name, bstr m[k].value, .bool m[k].never] 33)).trans (hb2.mono (by simp; omega))
        have hz3 := hb3.size
        obtain ⟨q0, q1, q2, _, _, _, _⟩ := BF.three
        clear c0 c1 c2 s1 hb2
        cases h1 : startsF m[k].name with
        | true =>
          have HQ3 := Lib.hid (HQ2.out.trans (by rw [notP_cons_no h1]))
          go_wp2_with fail
          go_roundg (m.length - (k + 1))
          case measure => have := HK.out; omega
          case rel => exact ⟨k + 1, acc, by omega, by go_num, by omega, hb3, hown2, HBD.out, HQ3⟩
        | false =>
          have HQ3 : Hid (l ++ notP m = (acc ++ [m[k]]) ++ notP (m.drop (k + 1))) := HQ2.out.trans (by rw [notP_cons_yes h1]; simp)
          go_wp2_with (at_builtin
                       refine wpList_app st_fields (.tmp 35) (.tmp 37) rfl rfl rfl (hown2.alloc _) rfl (Blk.new _ _ _) rfl (by simp [Value.oneCell']) ?_ ?_ ?_ ?_
                       · unfold maxLen; omega
                       · omega
                       · simp; omega
                       intro v3 w3 hown3 hg3
                       have hb4 := own_grown (hb3.alloc hz3 _) (hown2.alloc _) hg3 (Nat.le_refl _) (by simp; omega)
                       clear hg3)
          go_roundg (m.length - (k + 1))
          case measure => have := HK.out; omega
          case rel => exact ⟨k + 1, acc ++ [m[k]], by omega, by go_num, by simp; omega, hb4, by simpa [Fd.cells] using hown3, fun f hf => by
            rcases List.mem_append.1 hf with hf | hf
            · exact HBD.out f hf
            · simp at hf; subst hf; exact HBK.out, HQ3⟩
      · have HQ2 : Hid (acc = l ++ notP m) := (HQ.out.trans (by rw [List.drop_of_length_le (by omega)]; simp [notP])).symm
        obtain ⟨a3, cap3, rfl, hsa⟩ := own_slF hown rfl rfl hbd
        clear HQ hkg hbd hown HK
        have hm60' : (notP m).length ≤ 60 := Nat.le_trans (notP_len m) hm60
        have hacc2 : acc.length ≤ 120 := by rw [HQ2.out, List.length_append]; omega
        have hma : acc.length ≤ maxLen := by unfold maxLen; omega
        have hz0 := hb.size
        have EQ := Lib.hid (show refReq acc = refReq l by rw [HQ2.out]; exact refReq_behind l (notP_no m))
        have ES := Lib.hid (show refRes acc = refRes l by rw [HQ2.out]; exact refRes_behind l (notP_no m))
        clear HQ2 hacc hm60'
        go_wp2_with fail
        have hbX0 := hb
        have hw0 := Below.refl wr.heap.size wr
        refine (pseudo_Request a cap w.heap.size l wr hm hbX0.size (hs.below hbX0 (Nat.le_refl _))).mono ?_
        rintro e y1 ⟨rfl, hby1⟩
        rw [progReq_eq]
        have zy1 := hby1.size
        obtain ⟨X1, hX1⟩ : ∃ X, X = y1.alloc (.cells #[bstr (refReq l).1.method, bstr (refReq l).1.scheme, bstr (refReq l).1.authority, bstr (refReq l).1.path, .int .i64 (refReq l).1.status] 58) := ⟨_, rfl⟩
        have B1 : Blk X1 y1.heap.size 58 #[bstr (refReq l).1.method, bstr (refReq l).1.scheme, bstr (refReq l).1.authority, bstr (refReq l).1.path, .int .i64 (refReq l).1.status] := hX1 ▸ Blk.new _ _ _
        have hpx1 : Below wr.heap.size wr X1 := hX1 ▸ hby1.alloc zy1 _
        have hbX1 := hbX0.trans (hpx1.mono hbX0.size)
        have hw1 := hw0.trans (hpx1.mono hw0.size)
        have HX1 := Lib.hid hX1
        clear hX1 hby1
        go_wp2_with fail
        rw [← HX1.out]
        refine (pseudo_Response a cap w.heap.size l X1 hm hbX1.size (hs.below hbX1 (Nat.le_refl _)) (valF_le hs)).mono ?_
        rintro e y2 ⟨rfl, hby2⟩
        rw [progRes_eq]
        have zy2 := hby2.size
        obtain ⟨X2, hX2⟩ : ∃ X, X = y2.alloc (.cells #[bstr (refRes l).1.method, bstr (refRes l).1.scheme, bstr (refRes l).1.authority, bstr (refRes l).1.path, .int .i64 (refRes l).1.status] 58) := ⟨_, rfl⟩
        have B2 : Blk X2 y2.heap.size 58 #[bstr (refRes l).1.method, bstr (refRes l).1.scheme, bstr (refRes l).1.authority, bstr (refRes l).1.path, .int .i64 (refRes l).1.status] := hX2 ▸ Blk.new _ _ _
        have hpx2 : Below X1.heap.size X1 X2 := hX2 ▸ hby2.alloc zy2 _
        have hbX2 := hbX1.trans (hpx2.mono hbX1.size)
        have hw2 := hw1.trans (hpx2.mono hw1.size)
        replace B1 := B1.below hpx2 B1.lt
        have HX2 := Lib.hid hX2
        clear hX2 hby2
        go_wp2_with fail
        rw [← HX2.out]
        refine (pseudo_Request a3 cap3 wr.heap.size acc X2 hma hw2.size (hsa.below hw2 (Nat.le_refl _))).mono ?_
        rintro e y3 ⟨rfl, hby3⟩
        rw [progReq_eq, EQ.out]
        have zy3 := hby3.size
        obtain ⟨X3, hX3⟩ : ∃ X, X = y3.alloc (.cells #[bstr (refReq l).1.method, bstr (refReq l).1.scheme, bstr (refReq l).1.authority, bstr (refReq l).1.path, .int .i64 (refReq l).1.status] 58) := ⟨_, rfl⟩
        have B3 : Blk X3 y3.heap.size 58 #[bstr (refReq l).1.method, bstr (refReq l).1.scheme, bstr (refReq l).1.authority, bstr (refReq l).1.path, .int .i64 (refReq l).1.status] := hX3 ▸ Blk.new _ _ _
        have hpx3 : Below X2.heap.size X2 X3 := hX3 ▸ hby3.alloc zy3 _
        have hbX3 := hbX2.trans (hpx3.mono hbX2.size)
        have hw3 := hw2.trans (hpx3.mono hw2.size)
        replace B1 := B1.below hpx3 B1.lt
        replace B2 := B2.below hpx3 B2.lt
        have HX3 := Lib.hid hX3
        clear hX3 hby3
        go_wp2_with fail
        rw [← HX3.out]
        refine (pseudo_Response a3 cap3 wr.heap.size acc X3 hma hw3.size (hsa.below hw3 (Nat.le_refl _)) (valF_le hsa)).mono ?_
        rintro e y4 ⟨rfl, hby4⟩
        rw [progRes_eq, ES.out]
        have zy4 := hby4.size
        obtain ⟨X4, hX4⟩ : ∃ X, X = y4.alloc (.cells #[bstr (refRes l).1.method, bstr (refRes l).1.scheme, bstr (refRes l).1.authority, bstr (refRes l).1.path, .int .i64 (refRes l).1.status] 58) := ⟨_, rfl⟩
        have B4 : Blk X4 y4.heap.size 58 #[bstr (refRes l).1.method, bstr (refRes l).1.scheme, bstr (refRes l).1.authority, bstr (refRes l).1.path, .int .i64 (refRes l).1.status] := hX4 ▸ Blk.new _ _ _
        have hpx4 : Below X3.heap.size X3 X4 := hX4 ▸ hby4.alloc zy4 _
        have hbX4 := hbX3.trans (hpx4.mono hbX3.size)
        have hw4 := hw3.trans (hpx4.mono hw3.size)
        replace B1 := B1.below hpx4 B1.lt
        replace B2 := B2.below hpx4 B2.lt
        replace B3 := B3.below hpx4 B3.lt
        have HX4 := Lib.hid hX4
        clear hX4 hby4
        have k1 := fun W (h : Below X4.heap.size X4 W) => (B1.below h B1.lt).all5.1
        have k2 := fun W (h : Below X4.heap.size X4 W) => (B2.below h B2.lt).all5.1
        have k3 := fun W (h : Below X4.heap.size X4 W) => (B3.below h B3.lt).all5.1
        have k4 := fun W (h : Below X4.heap.size X4 W) => (B4.below h B4.lt).all5.1
        have hzX := hbX4.size
        have T1 : ∀ W, Below X4.heap.size X4 W → Calls Try.prog 52 #[.slice a l.length cap] W fun e w' => e = .returned (.bool (trailerF l)) ∧ Below X4.heap.size X4 w' := fun W h => (pseudo_Trailer a cap w.heap.size l W hm (Nat.le_trans hzX h.size) (hs.below (hbX4.trans (h.mono hzX)) (Nat.le_refl _))).mono fun e w' ⟨he, hb⟩ => ⟨he, h.trans (hb.mono h.size)⟩
        have T2 : ∀ W, Below X4.heap.size X4 W → Calls Try.prog 51 #[.slice a l.length cap] W fun e w' => e = .returned (.bool (trailerF l)) ∧ Below X4.heap.size X4 w' := fun W h => (ref27_Trailer a cap w.heap.size l W hm (Nat.le_trans hzX h.size) (hs.below (hbX4.trans (h.mono hzX)) (Nat.le_refl _))).mono fun e w' ⟨he, hb⟩ => ⟨he, h.trans (hb.mono h.size)⟩
        have T3 : ∀ W, Below X4.heap.size X4 W → Calls Try.prog 41 #[] W fun e w' => e = .returned (.bool true) ∧ Below X4.heap.size X4 w' := fun W h => (law27_alive W).mono fun e w' ⟨he, hb⟩ => ⟨he, h.trans (hb.mono h.size)⟩
        have H1 := Lib.hid T1
        have H2 := Lib.hid T2
        have H3 := Lib.hid T3
        have nb := not_both l
        have nt := not_trailer l
        have hX : Below X4.heap.size X4 X4 := Below.refl _ _
        clear T1 T2 T3 B1 B2 B3 B4 hs hsm hsa
        cases e1 : (refReq l).2 <;> cases e2 : (refRes l).2 <;> cases e3 : trailerF l
        all_goals first
          | (exfalso; rw [e1, e2] at nb; exact absurd nb (by decide))
          | (exfalso; rw [e1, e2, e3] at nt; exact absurd nt (by decide))
          | skip
        all_goals
          clear nb nt
          go_wp2_with fail
          rw [← HX4.out]
        all_goals
          go_wp2_with (first
            | (go_at_call 52; refine (H1.out _ (by assumption)).mono ?_; rintro e w' ⟨rfl, hbw⟩)
            | (go_at_call 51; refine (H2.out _ (by assumption)).mono ?_; rintro e w' ⟨rfl, hbw⟩)
            | (go_at_call 41; refine (H3.out _ (by assumption)).mono ?_; rintro e w' ⟨rfl, hbw⟩))
        all_goals
          go_ret
          exact ⟨rfl, hbX4.trans ((by assumption : Below X4.heap.size X4 _).mono hzX)⟩
end Go.Proofs.Ytafccnkeiohlhaa
