/-
  Reports: a line is written.
-/
import Derived.Test.YtbdmepidabnfkaaGreatDoorBld2
import Derived.Test.YtbdmepidabnfkaaGreatDoorRepP
import Derived.Test.YtbdmepidabnfkaaGreatDoorMg
namespace Go.Proofs.YtbdmepidabnfkaaGreatDoor
set_option linter.unusedSimpArgs false
set_option linter.unusedVariables false
set_option linter.unusedSectionVars false
open Go.ChangeShapes Go.WideShapes Go.ChangeAt Go.RowKit Go.Deep Go.Shelf

def blN (n : Int) : List UInt8 := 32 :: Lib.itoa n
def lnW (head : List UInt8) (ns : List Int) : List UInt8 := head ++ ns.flatMap blN ++ [10]
theorem blN_len {n : Int} (h : goodI n) : (blN n).length ≤ 21 := by
  have := itoa_len h.1 h.2
  simp [blN]; omega
theorem blN_lens : ∀ (ns : List Int), (∀ n ∈ ns, goodI n) → (ns.flatMap blN).length ≤ 21 * ns.length
  | [], _ => by simp
  | n :: r, h => by
    have h1 := blN_len (h n (by simp))
    have h2 := blN_lens r (fun x hx => h x (by simp [hx]))
    simp only [List.flatMap_cons, List.length_append, List.length_cons]
    omega
theorem lnW_len {head : List UInt8} {ns : List Int} (h : ∀ n ∈ ns, goodI n) : (lnW head ns).length ≤ head.length + 21 * ns.length + 1 := by
  have := blN_lens ns h
  simp only [lnW, List.length_append, List.length_cons, List.length_nil]
  omega
/-- A row of numbers in a block of its own. -/
def RowI (w : World) (a : Option Addr) (ns : List Int) : Prop := ns = [] ∨ ∃ g cs, a = some ⟨g, 0, none⟩ ∧ Blk w g 3 cs ∧ cs.toList = ns.map (Value.int .i64)
theorem RowI.stay {w w' : World} {a : Option Addr} {ns : List Int} (h : RowI w a ns) (hs : Stay w w') : RowI w' a ns := by
  rcases h with h | ⟨g, cs, h1, h2, h3⟩
  · exact .inl h
  · exact .inr ⟨g, cs, h1, hs g _ _ h2 (by decide) (by decide), h3⟩
theorem RowI.at_ {w : World} {a : Option Addr} {ns : List Int} (h : RowI w a ns) {k : Nat} (hk : k < ns.length) : ∃ g, a = some ⟨g, 0, none⟩ ∧ g < w.heap.size ∧ w.cell? ⟨g, k, none⟩ = some (.int .i64 ns[k]) := by
  rcases h with h | ⟨g, cs, h1, h2, h3⟩
  · subst h; simp at hk
  · refine ⟨g, h1, h2.lt, (h2.cell k).trans ?_⟩
    rw [← Array.getElem?_toList, h3, List.getElem?_map, List.getElem?_eq_getElem hk]; rfl
/-- What writing a line leaves. -/
def LinP (B b : Nat) (acc : List UInt8) (w : World) (e : Ending) (w' : World) : Prop := e = .returned (.tuple #[]) ∧ Lib.IsBuilder BT BytT B b (Lib.byteCells acc) w' ∧ Below B w w' ∧ Stay w w'
set_option maxHeartbeats 8000000 in
set_option maxRecDepth 100000 in
theorem report_line (B b : Nat) (acc head : List UInt8) (a : Option Addr) (cap : Nat) (ns : List Int) (hg : ∀ n ∈ ns, goodI n) (hn : ns.length ≤ 1000) (hacc : acc.length ≤ 1000000000) (hhead : head.length ≤ 6000000) (w0 w : World) (hE : EnvP w0) (hb0 : Below w0.heap.size w0 w) (hB0 : w0.heap.size ≤ B) (hBw : B ≤ w.heap.size) (h : Lib.IsBuilder BT BytT B b (Lib.byteCells acc) w) (hR : RowI w a ns) :
    Calls Tryz.prog 20 #[.pointer (some ⟨b, 0, none⟩), bstr head, .slice a ns.length cap] w (LinP B b (acc ++ lnW head ns) w) := by
  have HG := Lib.hid hg
  have HE : Hid (∀ W, Below B w W → EnvP W) := fun W hW => hE.below (hb0.trans (hW.mono hB0))
  have H0 := Lib.hid h
  have HR := Lib.hid hR
  have HTl : Hid (∀ k, k ≤ ns.length → (acc ++ head ++ (ns.take k).flatMap blN).length ≤ 1007000000) := fun k hk => by
    have := blN_lens (ns.take k) (fun n hn => hg n (List.mem_of_mem_take hn))
    simp only [List.length_append, List.length_take] at this ⊢
    omega
  clear hg hE h hR hb0 hB0
  go_enter Tryz.func20, Tryz.ntmps20
  go_wp2_with fail
  refine (writeSK B b acc head w H0.out (by omega) hBw).mono ?_
  rintro e w1 ⟨rfl, h1, hb1, hs1⟩
  have H1 := Lib.hid h1
  have HB1 := Lib.hid hb1
  have HS1 := Lib.hid hs1
  clear h1 hb1 hs1
  go_wp2_with fail
  go_loopg [13] ns.length (fun g i wr => ∃ k : Nat, k + g = ns.length ∧ i = .int .i64 k ∧ Below B w wr ∧ Stay w wr ∧ Lib.IsBuilder BT BytT B b (Lib.byteCells (acc ++ head ++ (ns.take k).flatMap blN)) wr)
  case atStart => exact ⟨0, by omega, rfl, HB1.out, HS1.out, by rw [List.take_zero, List.flatMap_nil, List.append_nil]; exact H1.out⟩
  case round =>
    obtain ⟨k, hkg, rfl, hb, hs, hB⟩ := hrel
    have HB := Lib.hid hb
    have HS := Lib.hid hs
    have HBd := Lib.hid hB
    have HK := Lib.hid hkg
    have hsz := Nat.le_trans hBw hb.size
    by_cases hlt : k < ns.length
    · obtain ⟨g, ha, hgl, c0⟩ := (HR.out.stay hs).at_ hlt
      have hacc2 := HTl.out k (by omega)
      have hgk := HG.out _ (List.getElem_mem hlt)
      have hlen := itoa_len hgk.1 hgk.2
      have HT : Hid (∀ W, EnvP W → Calls Tryz.prog 61 #[.int .i64 ns[k]] W fun e w' => e = .returned (bstr (Lib.itoa ns[k])) ∧ ∃ j, w' = W.more j) := fun W hW => digits_Text0 _ hgk.1 hgk.2 W hW
      have HU : Hid (acc ++ head ++ (ns.take (k + 1)).flatMap blN = acc ++ head ++ (ns.take k).flatMap blN ++ [32] ++ Lib.itoa ns[k]) := by
        show _ = _
        rw [List.take_succ_eq_append_getElem hlt, List.flatMap_append]
        simp [blN]
      generalize acc ++ head ++ (ns.take k).flatMap blN = ac at HU HBd hacc2
      generalize Lib.itoa ns[k] = tx at HT HU hlen
      generalize ns[k] = x at c0 HT
      subst ha
      clear hkg hb hs hB hgk
      go_wp2_with fail
      refine (writeBK B b ac 32 wr HBd.out (by omega) hsz).mono ?_
      rintro e w2 ⟨rfl, h2, hb2, hs2⟩
      have H2 := Lib.hid h2
      have HB2 := Lib.hid (HB.out.trans hb2)
      have HS2 := Lib.hid (HS.out.trans hs2)
      have hsz2 := hb2.size
      clear h2 hb2 hs2
      go_wp2_with fail
      refine (HT.out w2 (HE.out _ HB2.out)).mono ?_
      rintro e w3 ⟨rfl, j, rfl⟩
      have H3 := Lib.hid (builder_below H2.out (Below.moreS (Below.refl w2.heap.size w2) j))
      go_wp2_with fail
      refine (writeSK B b (ac ++ [32]) tx _ H3.out (by simp only [List.length_append, List.length_cons, List.length_nil]; omega) (by rw [World.size_more]; omega)).mono ?_
      rintro e w4 ⟨rfl, h4, hb4, hs4⟩
      rw [← HU.out] at h4
      have H4 := Lib.hid h4
      have HB4 := Lib.hid ((HB2.out.trans ((Below.moreS (Below.refl w2.heap.size w2) j).mono (by omega))).trans hb4)
      have HS4 := Lib.hid ((HS2.out.trans (stay_more _ _)).trans hs4)
      clear h4 hb4 hs4
      go_wp2_with fail
      go_roundg (ns.length - (k + 1))
      case measure => have := HK.out; omega
      case rel => exact ⟨k + 1, by have := HK.out; omega, by go_num, HB4.out, HS4.out, H4.out⟩
    · obtain rfl : k = ns.length := by omega
      have hacc2 := HTl.out ns.length (Nat.le_refl _)
      have HU : Hid (acc ++ lnW head ns = acc ++ head ++ (ns.take ns.length).flatMap blN ++ [10]) := by
        show _ = _
        rw [List.take_length]
        simp [lnW]
      generalize acc ++ head ++ (ns.take ns.length).flatMap blN = ac at HU HBd hacc2
      clear hkg hb hs hB
      go_wp2_with fail
      refine (writeBK B b ac 10 wr HBd.out (by omega) hsz).mono ?_
      rintro e w2 ⟨rfl, h2, hb2, hs2⟩
      have H2 := Lib.hid h2
      have HB2 := Lib.hid (HB.out.trans hb2)
      have HS2 := Lib.hid (HS.out.trans hs2)
      clear h2 hb2 hs2
      go_wp2_with fail
      refine bodyPost_ret (results_none rfl _ _ _) rfl ?_
      exact ⟨rfl, by rw [HU.out]; exact H2.out, HB2.out, HS2.out⟩
end Go.Proofs.YtbdmepidabnfkaaGreatDoor
