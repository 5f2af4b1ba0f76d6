/-
  NARROWER THAN 'FOR EVERY INPUT', by the rows' own cells (each row's printed sentence says how): CoreMore: laid · CoreKept: laid · CoreNobody: laid · CoreAsks: laid.
  DERIVED. THE GIVEN ROWS OF THIS SEAT. 4 by the template 'for every input the law returns true; each argument reads behind the call as it read before'; 0 by the template 'total and deterministic' (their statements: YtfloijkagfabpaaGreatDoorTotals.lean).
  GIVEN WITH THE SEED: the statements are not yours to turn. If you find one false, say at which input.
  Laid BY PROGRAM, IN A SANDBOX (cutbox-rows.mjs): the forced cells as the released guide's own fill.sh prints them over the translation 170a56d3d31b4e76… (all of the seat's roots in one cut). By AI agents, Wed Nov 11 2026. No macro, syntax, notation, axiom, sorry.
-/
import Derived.Test.YtfloijkagfabpaaGreatDoorChecked
import GoSem.Claim
import GoSem.ClaimJoined
import GoSem.ClaimMapViews
import Derived.JoinedTies
import Derived.KernelRfl
namespace Go.Proofs.YtfloijkagfabpaaGreatDoor
/- THE CELL 'sum', in the pinned program and in every row, IS THE sha256 OF THE DUMP (.gsa) THAT YtfloijkagfabpaaGreatDoorProg.lean LOADS. Nothing in Lean hashes anything: it is a label: what it is worth is what the hold of that sum in a sandbox is worth. -/
noncomputable def Tryz.pinned : Pinned := { name := "ytfloijkagfabpaagreatdoor", sum := "170a56d3d31b4e764c561a592a8d84b087288eb3834f925923c3451e7572a4ec", checked := Tryz.checked }
namespace Rows
def none {H : Type} : Left H := { results := [], args := [] }

/- WHAT THE LISTED PACKAGE-LEVEL VARIABLES READ AS WHEN THE CALL BEGINS. Each datum BY PROGRAM (the guide's laid-datum.mjs) off the statement by which the dump's own 'gosem.cut.vars' lays the variable. In a bare row this is a premise. The card (YtfloijkagfabpaaGreatDoorCards.lean) ties it to the program's text. -/
def laid_stickler_repr_forms {H : Type} : DataW H := .agg [.agg [.lit (.int .i64 0), .lit (.int .i64 0)], .agg [.lit (.int .i64 128), .lit (.int .i64 7)], .agg [.lit (.int .i64 64), .lit (.int .i64 6)], .agg [.lit (.int .i64 0), .lit (.int .i64 4)], .agg [.lit (.int .i64 16), .lit (.int .i64 4)], .agg [.lit (.int .i64 32), .lit (.int .i64 5)]]

/-- 'sticklerlaw39.CoreMore': WHATEVER THE INPUT: true; the input reads as it did. -/
def coreMoreSpec : ChangeSpec := { name := "coreMore", fn := fun _ => fun
  | [d1, d2] => { results := [.lit (.bool true)], args := [d1, d2] }
  | _ => none }
def coreMoreRow : OpenClaim := { program := "ytfloijkagfabpaagreatdoor", sum := "170a56d3d31b4e764c561a592a8d84b087288eb3834f925923c3451e7572a4ec", func := "stickler/sticklerlaw39.CoreMore", spec := "coreMore", inPlace := ["internal/bytealg.IndexByteString", "internal/abi.NoEscape"], named := ["stickler/repr.forms"], plainKeys := false, apart := false, laid := [("stickler/repr.forms", laid_stickler_repr_forms)] }
def CoreMoreSaid : Prop := coreMoreRow.holds Tryz.pinned (OpenSpec.ofChange coreMoreSpec)

/-- ITS FALSE NEIGHBOUR: 'it returns false'. Refute it at one input. -/
def coreMoreWrong : ChangeSpec := { name := "coreMore", fn := fun _ => fun
  | [d1, d2] => { results := [.lit (.bool false)], args := [d1, d2] }
  | _ => none }
def CoreMoreWrongFalsely : Prop := coreMoreRow.holds Tryz.pinned (OpenSpec.ofChange coreMoreWrong)

/-- 'sticklerlaw39.CoreKept': WHATEVER THE INPUT: true; the input reads as it did. -/
def coreKeptSpec : ChangeSpec := { name := "coreKept", fn := fun _ => fun
  | [d] => { results := [.lit (.bool true)], args := [d] }
  | _ => none }
def coreKeptRow : OpenClaim := { program := "ytfloijkagfabpaagreatdoor", sum := "170a56d3d31b4e764c561a592a8d84b087288eb3834f925923c3451e7572a4ec", func := "stickler/sticklerlaw39.CoreKept", spec := "coreKept", inPlace := ["internal/bytealg.IndexByteString", "internal/abi.NoEscape"], named := ["stickler/repr.forms"], plainKeys := false, apart := false, laid := [("stickler/repr.forms", laid_stickler_repr_forms)] }
def CoreKeptSaid : Prop := coreKeptRow.holds Tryz.pinned (OpenSpec.ofChange coreKeptSpec)

/-- ITS FALSE NEIGHBOUR: 'it returns false'. Refute it at one input. -/
def coreKeptWrong : ChangeSpec := { name := "coreKept", fn := fun _ => fun
  | [d] => { results := [.lit (.bool false)], args := [d] }
  | _ => none }
def CoreKeptWrongFalsely : Prop := coreKeptRow.holds Tryz.pinned (OpenSpec.ofChange coreKeptWrong)

/-- 'sticklerlaw39.CoreNobody': WHATEVER THE INPUT: true; the input reads as it did. -/
def coreNobodySpec : ChangeSpec := { name := "coreNobody", fn := fun _ => fun
  | [d1, d2] => { results := [.lit (.bool true)], args := [d1, d2] }
  | _ => none }
def coreNobodyRow : OpenClaim := { program := "ytfloijkagfabpaagreatdoor", sum := "170a56d3d31b4e764c561a592a8d84b087288eb3834f925923c3451e7572a4ec", func := "stickler/sticklerlaw39.CoreNobody", spec := "coreNobody", inPlace := ["internal/bytealg.IndexByteString", "internal/abi.NoEscape"], named := ["stickler/repr.forms"], plainKeys := false, apart := false, laid := [("stickler/repr.forms", laid_stickler_repr_forms)] }
def CoreNobodySaid : Prop := coreNobodyRow.holds Tryz.pinned (OpenSpec.ofChange coreNobodySpec)

/-- ITS FALSE NEIGHBOUR: 'it returns false'. Refute it at one input. -/
def coreNobodyWrong : ChangeSpec := { name := "coreNobody", fn := fun _ => fun
  | [d1, d2] => { results := [.lit (.bool false)], args := [d1, d2] }
  | _ => none }
def CoreNobodyWrongFalsely : Prop := coreNobodyRow.holds Tryz.pinned (OpenSpec.ofChange coreNobodyWrong)

/-- 'sticklerlaw39.CoreAsks': WHATEVER THE INPUT: true; the input reads as it did. -/
def coreAsksSpec : ChangeSpec := { name := "coreAsks", fn := fun _ => fun
  | [d1, d2] => { results := [.lit (.bool true)], args := [d1, d2] }
  | _ => none }
def coreAsksRow : OpenClaim := { program := "ytfloijkagfabpaagreatdoor", sum := "170a56d3d31b4e764c561a592a8d84b087288eb3834f925923c3451e7572a4ec", func := "stickler/sticklerlaw39.CoreAsks", spec := "coreAsks", inPlace := ["internal/bytealg.IndexByteString", "internal/abi.NoEscape"], named := ["stickler/repr.forms"], plainKeys := false, apart := false, laid := [("stickler/repr.forms", laid_stickler_repr_forms)] }
def CoreAsksSaid : Prop := coreAsksRow.holds Tryz.pinned (OpenSpec.ofChange coreAsksSpec)

/-- ITS FALSE NEIGHBOUR: 'it returns false'. Refute it at one input. -/
def coreAsksWrong : ChangeSpec := { name := "coreAsks", fn := fun _ => fun
  | [d1, d2] => { results := [.lit (.bool false)], args := [d1, d2] }
  | _ => none }
def CoreAsksWrongFalsely : Prop := coreAsksRow.holds Tryz.pinned (OpenSpec.ofChange coreAsksWrong)

/- THE SECOND FORM. 'bulk': how many values and letters a reading holds, each counted each time it is reached (what is shared counts as often as it is met; a slice's spare places count too). A statement '..UptoSaid' is the law's where the arguments, and the package variables that the reading takes, are together of bulk at most 1048576: NARROWER than '..Said'. Prove '..Said' where nothing that the law and all that it calls make is longer than what came in: it says more and counts as full. Else prove '..UptoSaid'. A law counts once. -/
mutual
def uptoBulk {H : Type} : DataW H → Nat
  | .lit (.string bytes) => bytes.length + 1
  | .lit _ => 1
  | .nil => 1
  | .ptr d => uptoBulk d + 1
  | .slice elems spare => uptoBulkAll elems + uptoBulkAll spare + 1
  | .agg parts => uptoBulkAll parts + 1
  | .iface _ d => uptoBulk d + 1
  | .map entries => uptoBulkEntries entries + 1
  | .held _ => 1
def uptoBulkAll {H : Type} : List (DataW H) → Nat
  | [] => 0
  | d :: r => uptoBulk d + uptoBulkAll r
def uptoBulkEntries {H : Type} : List (Lit × DataW H) → Nat
  | [] => 0
  | x :: r => uptoBulkEntry x + uptoBulkEntries r
def uptoBulkEntry {H : Type} : Lit × DataW H → Nat
  | (.string bytes, d) => bytes.length + uptoBulk d + 1
  | (_, d) => uptoBulk d + 1
 end
def uptoSmall : (H : Type) → List (DataW H) → Bool := fun _ ds => decide (uptoBulkAll ds ≤ 1048576)
def OpenSpec.upto (s : _root_.Go.ChangeSpec) : _root_.Go.OpenSpec := { _root_.Go.OpenSpec.ofChange s with cond := some uptoSmall }

/-- 'sticklerlaw39.CoreMore', WHERE WHAT IT READS IS OF BULK AT MOST 1048576: true; the input reads as it did. -/
def coreMoreUptoRow : OpenClaim := { program := "ytfloijkagfabpaagreatdoor", sum := "170a56d3d31b4e764c561a592a8d84b087288eb3834f925923c3451e7572a4ec", func := "stickler/sticklerlaw39.CoreMore", spec := "coreMore", inPlace := ["internal/bytealg.IndexByteString", "internal/abi.NoEscape"], named := ["stickler/repr.forms"], plainKeys := false, apart := false, laid := [("stickler/repr.forms", laid_stickler_repr_forms)], narrowed := true }
def CoreMoreUptoSaid : Prop := coreMoreUptoRow.holds Tryz.pinned (OpenSpec.upto coreMoreSpec)

/-- 'sticklerlaw39.CoreKept', WHERE WHAT IT READS IS OF BULK AT MOST 1048576: true; the input reads as it did. -/
def coreKeptUptoRow : OpenClaim := { program := "ytfloijkagfabpaagreatdoor", sum := "170a56d3d31b4e764c561a592a8d84b087288eb3834f925923c3451e7572a4ec", func := "stickler/sticklerlaw39.CoreKept", spec := "coreKept", inPlace := ["internal/bytealg.IndexByteString", "internal/abi.NoEscape"], named := ["stickler/repr.forms"], plainKeys := false, apart := false, laid := [("stickler/repr.forms", laid_stickler_repr_forms)], narrowed := true }
def CoreKeptUptoSaid : Prop := coreKeptUptoRow.holds Tryz.pinned (OpenSpec.upto coreKeptSpec)

/-- 'sticklerlaw39.CoreNobody', WHERE WHAT IT READS IS OF BULK AT MOST 1048576: true; the input reads as it did. -/
def coreNobodyUptoRow : OpenClaim := { program := "ytfloijkagfabpaagreatdoor", sum := "170a56d3d31b4e764c561a592a8d84b087288eb3834f925923c3451e7572a4ec", func := "stickler/sticklerlaw39.CoreNobody", spec := "coreNobody", inPlace := ["internal/bytealg.IndexByteString", "internal/abi.NoEscape"], named := ["stickler/repr.forms"], plainKeys := false, apart := false, laid := [("stickler/repr.forms", laid_stickler_repr_forms)], narrowed := true }
def CoreNobodyUptoSaid : Prop := coreNobodyUptoRow.holds Tryz.pinned (OpenSpec.upto coreNobodySpec)

/-- 'sticklerlaw39.CoreAsks', WHERE WHAT IT READS IS OF BULK AT MOST 1048576: true; the input reads as it did. -/
def coreAsksUptoRow : OpenClaim := { program := "ytfloijkagfabpaagreatdoor", sum := "170a56d3d31b4e764c561a592a8d84b087288eb3834f925923c3451e7572a4ec", func := "stickler/sticklerlaw39.CoreAsks", spec := "coreAsks", inPlace := ["internal/bytealg.IndexByteString", "internal/abi.NoEscape"], named := ["stickler/repr.forms"], plainKeys := false, apart := false, laid := [("stickler/repr.forms", laid_stickler_repr_forms)], narrowed := true }
def CoreAsksUptoSaid : Prop := coreAsksUptoRow.holds Tryz.pinned (OpenSpec.upto coreAsksSpec)

end Rows
end Go.Proofs.YtfloijkagfabpaaGreatDoor
