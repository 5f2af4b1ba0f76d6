/-
  The program's values of pseudo-fields.
-/
import Derived.Test.YtafccnkeiohlhaaPse3
import Derived.Test.YtafccnkeiohlhaaLenR
import Derived.Deep.LoopGhost
namespace Go.Proofs.Ytafccnkeiohlhaa
open Go.ChangeShapes Go.WideShapes Go.ChangeAt Go.RowKit Go.Deep

def fndGo : List (List UInt8) → List Int → List UInt8 → Nat → Option Nat
  | n :: ns, m :: ms, name, i => if ((n == name) && (m == 0)) = true then some i else fndGo ns ms name (i + 1)
  | _, _, _, _ => none
def valGo (names : List (List UInt8)) : List Fd → List (List UInt8) → List Int → Bool → Option (List (List UInt8) × List Int)
  | [], out, many, _ => some (out, many)
  | f :: r, out, many, over =>
    if startsF f.name = true then (if over = true then none else match fndGo names many f.name 0 with
      | none => none
      | some i => valGo names r (out.set i f.value) (many.set i 1) false) else valGo names r out many true
def valF (l : List Fd) (names : List (List UInt8)) : Option (List (List UInt8) × List Int) := valGo names l (names.map fun _ => []) (names.map fun _ => 0) false
theorem valGo_over {names : List (List UInt8)} {f : Fd} {r : List Fd} {out : List (List UInt8)} {many : List Int} {over : Bool} (h : startsF f.name = false) : valGo names (f :: r) out many over = valGo names r out many true := by simp [valGo, h]
theorem valGo_late {names : List (List UInt8)} {f : Fd} {r : List Fd} {out : List (List UInt8)} {many : List Int} (h : startsF f.name = true) : valGo names (f :: r) out many true = none := by simp [valGo, h]
theorem valGo_none {names : List (List UInt8)} {f : Fd} {r : List Fd} {out : List (List UInt8)} {many : List Int} (h : startsF f.name = true) (h2 : fndGo names many f.name 0 = none) : valGo names (f :: r) out many false = none := by simp [valGo, h, h2]
theorem valGo_some {names : List (List UInt8)} {f : Fd} {r : List Fd} {out : List (List UInt8)} {many : List Int} {i : Nat} (h : startsF f.name = true) (h2 : fndGo names many f.name 0 = some i) : valGo names (f :: r) out many false = valGo names r (out.set i f.value) (many.set i 1) false := by simp [valGo, h, h2]
theorem fnd_yes {names : List (List UInt8)} {many : List Int} {name : List UInt8} {j : Nat} (h1 : j < names.length) (h2 : j < many.length) (h : ((names[j] == name) && (many[j] == 0)) = true) : fndGo (names.drop j) (many.drop j) name j = some j := by
  rw [List.drop_eq_getElem_cons h1, List.drop_eq_getElem_cons h2, fndGo, if_pos h]
theorem fnd_no {names : List (List UInt8)} {many : List Int} {name : List UInt8} {j : Nat} (h1 : j < names.length) (h2 : j < many.length) (h : ((names[j] == name) && (many[j] == 0)) = false) : fndGo (names.drop j) (many.drop j) name j = fndGo (names.drop (j + 1)) (many.drop (j + 1)) name (j + 1) := by
  rw [List.drop_eq_getElem_cons h1, List.drop_eq_getElem_cons h2, fndGo, h]; rfl
theorem fnd_end {names : List (List UInt8)} {many : List Int} {name : List UInt8} {j : Nat} (h1 : names.length ≤ j) : fndGo (names.drop j) (many.drop j) name j = none := by
  rw [List.drop_of_length_le h1, fndGo]
  simp

abbrev strCells (l : List (List UInt8)) : Array Value := (l.map bstr).toArray
abbrev intCells (l : List Int) : Array Value := (l.map (Value.int .i64)).toArray
def ValPost (w : World) (l : List Fd) (names : List (List UInt8)) (e : Ending) (w' : World) : Prop :=
  Below w.heap.size w w' ∧ match valF l names with
    | none => e = .returned (.tuple #[.slice none 0 0, .slice none 0 0, .bool false])
    | some (out, many) => ∃ gO gM n : Nat, n = names.length ∧ e = .returned (.tuple #[.slice (some ⟨gO, 0, none⟩) n n, .slice (some ⟨gM, 0, none⟩) n n, .bool true]) ∧
        out.length = names.length ∧ many.length = names.length ∧ w.heap.size ≤ gO ∧ w.heap.size ≤ gM ∧ Blk w' gO 9 (strCells out) ∧ Blk w' gM 3 (intCells many)
theorem st_strs : SliceTy Try.prog 112 9 (.string .empty) 1 16 := .mk' Try.underlying112 (by kernel_rfl) rfl (by omega)
theorem made_of {z : Value} {n : Nat} : madeCells #[z] n = (List.replicate n z).toArray := by
  apply Array.ext
  · simp [madeCells]
  · intro i h1 h2
    simp [madeCells, Nat.mod_one]
theorem run_make_list {P : Program} {t e : TypeId} {z : Value} {bytes : Nat} (hT : SliceTy P t e z 1 bytes) (hz : z.cells = #[z]) (n : Nat) (hb : bytes * n ≤ 281474976710656) (h63 : n ≤ 9223372036854775807) (w : World) :
    (Instr.makeSlice t (.int .i64 (n : Int)) (.int .i64 (n : Int))).run P w = .ok (.slice (some ⟨w.heap.size, 0, none⟩) n n) (w.alloc (.cells (List.replicate n z).toArray e)) := by
  obtain ⟨i, ht, hi, hiz, hsz, hby, _, _⟩ := hT
  have hb' : (bytes : Int) * (n : Int) ≤ 281474976710656 := by
    have h : ((bytes * n : Nat) : Int) ≤ 281474976710656 := by omega
    rwa [Int.natCast_mul] at h
  have hr := run_make (P := P) w t e i z ht hi hiz .i64 .i64 n n (by omega) (by omega) (by rw [hby]; exact hb') (by omega)
  simp only [Int.toNat_natCast] at hr
  rw [hsz, hz, Nat.mul_one, made_of] at hr
  exact hr

theorem start_str (names : List (List UInt8)) : Array.replicate names.length (Value.string ByteArray.empty) = strCells (names.map fun _ => []) := by
  apply Array.ext
  · simp [strCells]
  · intro i h1 h2
    simp [strCells]
    rfl
theorem start_int (names : List (List UInt8)) : Array.replicate names.length (Value.int .i64 0) = intCells (names.map fun _ => 0) := by
  apply Array.ext
  · simp [intCells]
  · intro i h1 h2
    simp [intCells]
theorem strCells_set (out : List (List UInt8)) (i : Nat) (s : List UInt8) : (strCells out).setIfInBounds i (bstr s) = strCells (out.set i s) := by
  simp [strCells, List.map_set]
theorem intCells_set (out : List Int) (i : Nat) (s : Int) : (intCells out).setIfInBounds i (.int .i64 s) = intCells (out.set i s) := by
  simp [intCells, List.map_set]
theorem intCells_get {out : List Int} {i : Nat} (h : i < out.length) : (intCells out)[i]? = some (.int .i64 out[i]) := by
  simp [intCells, h]
theorem strCells_get {out : List (List UInt8)} {i : Nat} (h : i < out.length) : (strCells out)[i]? = some (bstr out[i]) := by
  simp [strCells, h]

set_option maxRecDepth 100000 in
theorem pseudo_values (a an : Option Addr) (cap capn B Bn : Nat) (l : List Fd) (names : List (List UInt8)) (w : World) (hm : l.length ≤ maxLen) (hB : B ≤ w.heap.size) (hs : SlF w B a l) (hmn : names.length ≤ 1000) (hBn : Bn ≤ w.heap.size) (hsn : SlS w Bn an names) :
    Calls Try.prog 74 #[.slice a l.length cap, .slice an names.length capn] w (ValPost w l names) := by
  have hm' := hm
  unfold maxLen at hm'
  have mk1 := run_make_list (P := Try.prog) st_strs rfl names.length (by omega) (by omega)
  have mk2 := run_make_list (P := Try.prog) st_ints rfl names.length (by omega) (by omega)
  have HV : Hid (valF l names = valGo names (l.drop 0) (names.map fun _ => []) (names.map fun _ => 0) false) := rfl
  go_enter Try.func74, Try.ntmps74
  go_wp2_with fail
  go_step3
  go_wp2_with fail
  go_step3
  go_wp2_with fail
  go_loopg [22, 9, 11] l.length (fun g i ov _ wr => ∃ (k : Nat) (over : Bool) (out : List (List UInt8)) (many : List Int), k + g = l.length ∧ i = .int .i64 k ∧ ov = .bool over ∧ out.length = names.length ∧ many.length = names.length ∧ Below w.heap.size w wr ∧ Blk wr w.heap.size 9 (strCells out) ∧ Blk wr (w.heap.size + 1) 3 (intCells many) ∧ Hid (valF l names = valGo names (l.drop k) out many over))
  case atStart =>
    refine ⟨0, false, _, _, by omega, rfl, rfl, by simp, by simp, ((Below.refl _ _).alloc (Nat.le_refl _) _).alloc (by simp) _, ?_, ?_, HV⟩
    · rw [← start_str]; exact (Blk.new _ _ _).alloc _
    · rw [← start_int]; exact Blk.at_ _ _ _ (by simp)
  case round =>
    clear HV mk1 mk2
    obtain ⟨k, over, out, many, hkg, rfl, rfl, hlo, hlm, hb, BO, BM, HF⟩ := hrel
    by_cases hlt : k < l.length
    · obtain ⟨b, off, rfl, hb', c0, c1, c2, m1, m2⟩ := (hs.below hb hB).atF hlt
      have hdrop := List.drop_eq_getElem_cons hlt
      have HF2 : Hid (valF l names = valGo names (l[k] :: l.drop (k + 1)) out many over) := HF.out.trans (by rw [hdrop])
      have HLO := Lib.hid hlo
      have HLM := Lib.hid hlm
      have HK := Lib.hid hkg
      have hz := BM.lt
      clear HF hdrop hlo hlm hkg
      go_wp2_with fail
      refine (pseudo_starts l[k] _ (by unfold maxLen; exact m1)).mono ?_
      rintro e w1 ⟨rfl, hb1⟩
      have hb2 := (hb.alloc hb.size (.cells #[bstr l[k].name, bstr l[k].value, .bool l[k].never] 33)).trans (hb1.mono (by have := hb.size; simp; omega))
      have BO1 := (BO.alloc (.cells #[bstr l[k].name, bstr l[k].value, .bool l[k].never] 33)).below hb1 (by simp; omega)
      have BM1 := (BM.alloc (.cells #[bstr l[k].name, bstr l[k].value, .bool l[k].never] 33)).below hb1 (by simp; omega)
      have BF1 := (Blk.new wr 33 #[bstr l[k].name, bstr l[k].value, .bool l[k].never]).below hb1 (by simp)
      have hsn1 := hsn.below hb2 hBn
      clear c0 c1 c2 BO BM hb1
      cases h1 : startsF l[k].name with
      | false =>
        have HF3 := Lib.hid (HF2.out.trans (valGo_over h1))
        go_wp2_with fail
        go_roundg (l.length - (k + 1))
        case measure => have := HK.out; omega
        case rel => exact ⟨k + 1, true, out, many, by omega, by go_num, rfl, HLO.out, HLM.out, hb2, BO1, BM1, HF3⟩
      | true =>
        have HP : valF l names = none → ValPost w l names (.returned (.tuple #[.slice none 0 0, .slice none 0 0, .bool false])) w1 := fun h => ⟨hb2, by rw [h]⟩
        obtain ⟨p0, p1, p2, _, _, _, hzf⟩ := BF1.three
        have HP' := Lib.hid HP
        clear HP
        cases over with
        | true =>
          have HN := Lib.hid (HF2.out.trans (valGo_late h1))
          clear HF2
          go_wp2_with fail
          go_loopg [31, 12, 13] names.length (fun g i _ _ wx => ∃ j : Nat, j + g = names.length ∧ i = .int .i64 j ∧ wx = w1)
          case atStart => exact ⟨0, by omega, rfl, rfl⟩
          case round =>
            obtain ⟨j, hj, rfl, rfl⟩ := hrel
            have HJ := Lib.hid hj
            by_cases hlj : j < names.length
            · obtain ⟨bn, offn, rfl, hbn, d0, _⟩ := hsn1.atS hlj
              clear hj
              cases e1 : (names[j] == l[k].name)
              all_goals
                go_wp2_with fail
                go_roundg (names.length - (j + 1))
                case measure => have := HJ.out; omega
                case rel => exact ⟨j + 1, by omega, by go_num, rfl⟩
            · clear hj
              go_wp2_with fail
              try rw [Exit.noGoto_ret]
              go_ret3
              exact HP'.out HN.out
        | false =>
          have HF0 : Hid (fndGo names many l[k].name 0 = fndGo (names.drop 0) (many.drop 0) l[k].name 0) := rfl
          go_wp2_with fail
          go_loopg [31, 12, 13] names.length (fun g i _ _ wx => ∃ j : Nat, j + g = names.length ∧ i = .int .i64 j ∧ wx = w1 ∧ Hid (fndGo names many l[k].name 0 = fndGo (names.drop j) (many.drop j) l[k].name j))
          case atStart => exact ⟨0, by omega, rfl, rfl, HF0⟩
          case round =>
            clear HF0
            obtain ⟨j, hj, rfl, rfl, HQ⟩ := hrel
            have HJ := Lib.hid hj
            by_cases hlj : j < names.length
            · obtain ⟨bn, offn, rfl, hbn, d0, _⟩ := hsn1.atS hlj
              have hljm : j < many.length := by have := HLM.out; omega
              have hljo : j < out.length := by have := HLO.out; omega
              have cm := (BM1.cell j).trans (intCells_get hljm)
              have co := (BO1.cell j).trans (strCells_get hljo)
              have fm := BM1.frozen j
              have fo := BO1.frozen j
              have hzz := BM1.lt
              clear hj
              cases e1 : (names[j] == l[k].name) with
              | false =>
                have HQ2 := Lib.hid (HQ.out.trans (fnd_no hlj hljm (by rw [e1]; rfl)))
                clear HQ
                go_wp2_with fail
                go_roundg (names.length - (j + 1))
                case measure => have := HJ.out; omega
                case rel => exact ⟨j + 1, by omega, by go_num, rfl, HQ2⟩
              | true =>
                cases e2 : (many[j] == 0) with
                | false =>
                  have HQ2 := Lib.hid (HQ.out.trans (fnd_no hlj hljm (by rw [e1, e2]; rfl)))
                  clear HQ
                  go_wp2_with fail
                  go_roundg (names.length - (j + 1))
                  case measure => have := HJ.out; omega
                  case rel => exact ⟨j + 1, by omega, by go_num, rfl, HQ2⟩
                | true =>
                  have HQ2 := HQ.out.trans (fnd_yes hlj hljm (by rw [e1, e2]; rfl))
                  have HF3 := Lib.hid (HF2.out.trans (valGo_some h1 HQ2))
                  have e3 : many[j] = 0 := by simpa using e2
                  rw [e3] at cm
                  clear HQ HQ2 HF2 e3
                  go_wp2_with fail
                  go_roundg (l.length - (k + 1))
                  case measure => have := HK.out; omega
                  case rel =>
                    refine ⟨k + 1, false, out.set j l[k].value, many.set j 1, by omega, by go_num, rfl, by rw [List.length_set]; exact HLO.out, by rw [List.length_set]; exact HLM.out, (hb2.setCell (by simp) _).setCell (by simp) _, ?_, ?_, HF3⟩
                    · rw [← strCells_set]; exact (BO1.set_ j _).far (by simp) _
                    · rw [← intCells_set]; exact (BM1.far (by simp) _).set_ j _
            · have HQ2 := HQ.out.trans (fnd_end (by omega))
              have HN := Lib.hid (HF2.out.trans (valGo_none h1 HQ2))
              clear hj HQ HQ2 HF2
              go_wp2_with fail
              try rw [Exit.noGoto_ret]
              go_ret3
              exact HP'.out HN.out
    · have HS := Lib.hid (HF.out.trans (by rw [List.drop_of_length_le (by omega)]; rfl : valGo names (l.drop k) out many over = some (out, many)))
      clear HF
      go_wp2_with fail
      try rw [Exit.noGoto_ret]
      go_ret3
      exact ⟨hb, by rw [HS.out]; exact ⟨_, _, _, rfl, rfl, hlo, hlm, Nat.le_refl _, by omega, BO, BM⟩⟩
end Go.Proofs.Ytafccnkeiohlhaa
