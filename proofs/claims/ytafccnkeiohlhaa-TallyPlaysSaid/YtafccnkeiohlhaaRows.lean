/-
  No cell of these rows narrows 'for every input' (looked for: loops, veiled, ifaces, maps, wideKeys, modest, calm, conditions, laid).
  DERIVED. THE GIVEN ROWS OF THIS SEAT. 16 by the template 'for every input the law returns true; each argument reads behind the call as it read before'; 0 by the template 'total and deterministic' (their statements: YtafccnkeiohlhaaTotals.lean).
  GIVEN WITH THE SEED: the statements are not yours to turn. If you find one false, say at which input.
  Laid BY PROGRAM, IN A SANDBOX (cutbox-rows.mjs): the forced cells as the released guide's own fill.sh prints them over the translation 96caac054c018b2e… (all of the seat's roots in one cut). By AI agents, Wed Nov 11 2026. No macro, syntax, notation, axiom, sorry.
-/
import Derived.Test.YtafccnkeiohlhaaChecked
import GoSem.Claim
import GoSem.ClaimJoined
import GoSem.ClaimMapViews
import Derived.JoinedTies
import Derived.KernelRfl
namespace Go.Proofs.Ytafccnkeiohlhaa
/- THE CELL 'sum', in the pinned program and in every row, IS THE sha256 OF THE DUMP (.gsa) THAT YtafccnkeiohlhaaProg.lean LOADS. Nothing in Lean hashes anything: it is a label: what it is worth is what the hold of that sum in a sandbox is worth. -/
noncomputable def Try.pinned : Pinned := { name := "ytafccnkeiohlhaa", sum := "96caac054c018b2e16280714be7e81c49f5763424d5885e18d3f649e7abbc85a", checked := Try.checked }
namespace Rows
def none {H : Type} : Left H := { results := [], args := [] }

/-- 'sticklerlaw26.LengthTold': WHATEVER THE INPUT: true; the input reads as it did. -/
def lengthToldSpec : ChangeSpec := { name := "lengthTold", fn := fun _ => fun
  | [d] => { results := [.lit (.bool true)], args := [d] }
  | _ => none }
def lengthToldRow : OpenClaim := { program := "ytafccnkeiohlhaa", sum := "96caac054c018b2e16280714be7e81c49f5763424d5885e18d3f649e7abbc85a", func := "stickler/sticklerlaw26.LengthTold", spec := "lengthTold", plainKeys := false, apart := false }
def LengthToldSaid : Prop := lengthToldRow.holds Try.pinned (OpenSpec.ofChange lengthToldSpec)

/-- ITS FALSE NEIGHBOUR: 'it returns false'. Refute it at one input. -/
def lengthToldWrong : ChangeSpec := { name := "lengthTold", fn := fun _ => fun
  | [d] => { results := [.lit (.bool false)], args := [d] }
  | _ => none }
def LengthToldWrongFalsely : Prop := lengthToldRow.holds Try.pinned (OpenSpec.ofChange lengthToldWrong)

/-- 'sticklerlaw26.LengthOthers': WHATEVER THE INPUT: true; the input reads as it did. -/
def lengthOthersSpec : ChangeSpec := { name := "lengthOthers", fn := fun _ => fun
  | [d1, d2, d3] => { results := [.lit (.bool true)], args := [d1, d2, d3] }
  | _ => none }
def lengthOthersRow : OpenClaim := { program := "ytafccnkeiohlhaa", sum := "96caac054c018b2e16280714be7e81c49f5763424d5885e18d3f649e7abbc85a", func := "stickler/sticklerlaw26.LengthOthers", spec := "lengthOthers", plainKeys := false, apart := false }
def LengthOthersSaid : Prop := lengthOthersRow.holds Try.pinned (OpenSpec.ofChange lengthOthersSpec)

/-- ITS FALSE NEIGHBOUR: 'it returns false'. Refute it at one input. -/
def lengthOthersWrong : ChangeSpec := { name := "lengthOthers", fn := fun _ => fun
  | [d1, d2, d3] => { results := [.lit (.bool false)], args := [d1, d2, d3] }
  | _ => none }
def LengthOthersWrongFalsely : Prop := lengthOthersRow.holds Try.pinned (OpenSpec.ofChange lengthOthersWrong)

/-- 'sticklerlaw25.TokenNames': WHATEVER THE INPUT: true; the input reads as it did. -/
def tokenNamesSpec : ChangeSpec := { name := "tokenNames", fn := fun _ => fun
  | [d] => { results := [.lit (.bool true)], args := [d] }
  | _ => none }
def tokenNamesRow : OpenClaim := { program := "ytafccnkeiohlhaa", sum := "96caac054c018b2e16280714be7e81c49f5763424d5885e18d3f649e7abbc85a", func := "stickler/sticklerlaw25.TokenNames", spec := "tokenNames", inPlace := ["internal/bytealg.IndexByteString"], plainKeys := false, apart := false }
def TokenNamesSaid : Prop := tokenNamesRow.holds Try.pinned (OpenSpec.ofChange tokenNamesSpec)

/-- ITS FALSE NEIGHBOUR: 'it returns false'. Refute it at one input. -/
def tokenNamesWrong : ChangeSpec := { name := "tokenNames", fn := fun _ => fun
  | [d] => { results := [.lit (.bool false)], args := [d] }
  | _ => none }
def TokenNamesWrongFalsely : Prop := tokenNamesRow.holds Try.pinned (OpenSpec.ofChange tokenNamesWrong)

/-- 'sticklerlaw25.TokenValues': WHATEVER THE INPUT: true; the input reads as it did. -/
def tokenValuesSpec : ChangeSpec := { name := "tokenValues", fn := fun _ => fun
  | [d] => { results := [.lit (.bool true)], args := [d] }
  | _ => none }
def tokenValuesRow : OpenClaim := { program := "ytafccnkeiohlhaa", sum := "96caac054c018b2e16280714be7e81c49f5763424d5885e18d3f649e7abbc85a", func := "stickler/sticklerlaw25.TokenValues", spec := "tokenValues", inPlace := ["internal/bytealg.IndexByteString"], plainKeys := false, apart := false }
def TokenValuesSaid : Prop := tokenValuesRow.holds Try.pinned (OpenSpec.ofChange tokenValuesSpec)

/-- ITS FALSE NEIGHBOUR: 'it returns false'. Refute it at one input. -/
def tokenValuesWrong : ChangeSpec := { name := "tokenValues", fn := fun _ => fun
  | [d] => { results := [.lit (.bool false)], args := [d] }
  | _ => none }
def TokenValuesWrongFalsely : Prop := tokenValuesRow.holds Try.pinned (OpenSpec.ofChange tokenValuesWrong)

/-- 'sticklerlaw36.PingsPlays': WHATEVER THE INPUT: true; the input reads as it did. -/
def pingsPlaysSpec : ChangeSpec := { name := "pingsPlays", fn := fun _ => fun
  | [d1, d2] => { results := [.lit (.bool true)], args := [d1, d2] }
  | _ => none }
def pingsPlaysRow : OpenClaim := { program := "ytafccnkeiohlhaa", sum := "96caac054c018b2e16280714be7e81c49f5763424d5885e18d3f649e7abbc85a", func := "stickler/sticklerlaw36.PingsPlays", spec := "pingsPlays", plainKeys := false, apart := false }
def PingsPlaysSaid : Prop := pingsPlaysRow.holds Try.pinned (OpenSpec.ofChange pingsPlaysSpec)

/-- ITS FALSE NEIGHBOUR: 'it returns false'. Refute it at one input. -/
def pingsPlaysWrong : ChangeSpec := { name := "pingsPlays", fn := fun _ => fun
  | [d1, d2] => { results := [.lit (.bool false)], args := [d1, d2] }
  | _ => none }
def PingsPlaysWrongFalsely : Prop := pingsPlaysRow.holds Try.pinned (OpenSpec.ofChange pingsPlaysWrong)

/-- 'sticklerlaw36.PingsOrder': WHATEVER THE INPUT: true; the input reads as it did. -/
def pingsOrderSpec : ChangeSpec := { name := "pingsOrder", fn := fun _ => fun
  | [d1, d2] => { results := [.lit (.bool true)], args := [d1, d2] }
  | _ => none }
def pingsOrderRow : OpenClaim := { program := "ytafccnkeiohlhaa", sum := "96caac054c018b2e16280714be7e81c49f5763424d5885e18d3f649e7abbc85a", func := "stickler/sticklerlaw36.PingsOrder", spec := "pingsOrder", plainKeys := false, apart := false }
def PingsOrderSaid : Prop := pingsOrderRow.holds Try.pinned (OpenSpec.ofChange pingsOrderSpec)

/-- ITS FALSE NEIGHBOUR: 'it returns false'. Refute it at one input. -/
def pingsOrderWrong : ChangeSpec := { name := "pingsOrder", fn := fun _ => fun
  | [d1, d2] => { results := [.lit (.bool false)], args := [d1, d2] }
  | _ => none }
def PingsOrderWrongFalsely : Prop := pingsOrderRow.holds Try.pinned (OpenSpec.ofChange pingsOrderWrong)

/-- 'sticklerlaw27.PseudoRequests': WHATEVER THE INPUT: true; the input reads as it did. -/
def pseudoRequestsSpec : ChangeSpec := { name := "pseudoRequests", fn := fun _ => fun
  | [d] => { results := [.lit (.bool true)], args := [d] }
  | _ => none }
def pseudoRequestsRow : OpenClaim := { program := "ytafccnkeiohlhaa", sum := "96caac054c018b2e16280714be7e81c49f5763424d5885e18d3f649e7abbc85a", func := "stickler/sticklerlaw27.PseudoRequests", spec := "pseudoRequests", plainKeys := false, apart := false }
def PseudoRequestsSaid : Prop := pseudoRequestsRow.holds Try.pinned (OpenSpec.ofChange pseudoRequestsSpec)

/-- ITS FALSE NEIGHBOUR: 'it returns false'. Refute it at one input. -/
def pseudoRequestsWrong : ChangeSpec := { name := "pseudoRequests", fn := fun _ => fun
  | [d] => { results := [.lit (.bool false)], args := [d] }
  | _ => none }
def PseudoRequestsWrongFalsely : Prop := pseudoRequestsRow.holds Try.pinned (OpenSpec.ofChange pseudoRequestsWrong)

/-- 'sticklerlaw27.PseudoResponses': WHATEVER THE INPUT: true; the input reads as it did. -/
def pseudoResponsesSpec : ChangeSpec := { name := "pseudoResponses", fn := fun _ => fun
  | [d] => { results := [.lit (.bool true)], args := [d] }
  | _ => none }
def pseudoResponsesRow : OpenClaim := { program := "ytafccnkeiohlhaa", sum := "96caac054c018b2e16280714be7e81c49f5763424d5885e18d3f649e7abbc85a", func := "stickler/sticklerlaw27.PseudoResponses", spec := "pseudoResponses", plainKeys := false, apart := false }
def PseudoResponsesSaid : Prop := pseudoResponsesRow.holds Try.pinned (OpenSpec.ofChange pseudoResponsesSpec)

/-- ITS FALSE NEIGHBOUR: 'it returns false'. Refute it at one input. -/
def pseudoResponsesWrong : ChangeSpec := { name := "pseudoResponses", fn := fun _ => fun
  | [d] => { results := [.lit (.bool false)], args := [d] }
  | _ => none }
def PseudoResponsesWrongFalsely : Prop := pseudoResponsesRow.holds Try.pinned (OpenSpec.ofChange pseudoResponsesWrong)

/-- 'sticklerlaw25.TokenLowers': WHATEVER THE INPUT: true; the input reads as it did. -/
def tokenLowersSpec : ChangeSpec := { name := "tokenLowers", fn := fun _ => fun
  | [d] => { results := [.lit (.bool true)], args := [d] }
  | _ => none }
def tokenLowersRow : OpenClaim := { program := "ytafccnkeiohlhaa", sum := "96caac054c018b2e16280714be7e81c49f5763424d5885e18d3f649e7abbc85a", func := "stickler/sticklerlaw25.TokenLowers", spec := "tokenLowers", inPlace := ["internal/bytealg.IndexByteString", "internal/abi.NoEscape"], plainKeys := false, apart := false }
def TokenLowersSaid : Prop := tokenLowersRow.holds Try.pinned (OpenSpec.ofChange tokenLowersSpec)

/-- ITS FALSE NEIGHBOUR: 'it returns false'. Refute it at one input. -/
def tokenLowersWrong : ChangeSpec := { name := "tokenLowers", fn := fun _ => fun
  | [d] => { results := [.lit (.bool false)], args := [d] }
  | _ => none }
def TokenLowersWrongFalsely : Prop := tokenLowersRow.holds Try.pinned (OpenSpec.ofChange tokenLowersWrong)

/-- 'sticklerlaw27.PseudoOne': WHATEVER THE INPUT: true; the input reads as it did. -/
def pseudoOneSpec : ChangeSpec := { name := "pseudoOne", fn := fun _ => fun
  | [d1, d2] => { results := [.lit (.bool true)], args := [d1, d2] }
  | _ => none }
def pseudoOneRow : OpenClaim := { program := "ytafccnkeiohlhaa", sum := "96caac054c018b2e16280714be7e81c49f5763424d5885e18d3f649e7abbc85a", func := "stickler/sticklerlaw27.PseudoOne", spec := "pseudoOne", plainKeys := false, apart := false }
def PseudoOneSaid : Prop := pseudoOneRow.holds Try.pinned (OpenSpec.ofChange pseudoOneSpec)

/-- ITS FALSE NEIGHBOUR: 'it returns false'. Refute it at one input. -/
def pseudoOneWrong : ChangeSpec := { name := "pseudoOne", fn := fun _ => fun
  | [d1, d2] => { results := [.lit (.bool false)], args := [d1, d2] }
  | _ => none }
def PseudoOneWrongFalsely : Prop := pseudoOneRow.holds Try.pinned (OpenSpec.ofChange pseudoOneWrong)

/-- 'sticklerlaw28.MessageChecks': WHATEVER THE INPUT: true; the input reads as it did. -/
def messageChecksSpec : ChangeSpec := { name := "messageChecks", fn := fun _ => fun
  | [d1, d2] => { results := [.lit (.bool true)], args := [d1, d2] }
  | _ => none }
def messageChecksRow : OpenClaim := { program := "ytafccnkeiohlhaa", sum := "96caac054c018b2e16280714be7e81c49f5763424d5885e18d3f649e7abbc85a", func := "stickler/sticklerlaw28.MessageChecks", spec := "messageChecks", inPlace := ["internal/bytealg.IndexByteString", "internal/abi.NoEscape"], plainKeys := false, apart := false }
def MessageChecksSaid : Prop := messageChecksRow.holds Try.pinned (OpenSpec.ofChange messageChecksSpec)

/-- ITS FALSE NEIGHBOUR: 'it returns false'. Refute it at one input. -/
def messageChecksWrong : ChangeSpec := { name := "messageChecks", fn := fun _ => fun
  | [d1, d2] => { results := [.lit (.bool false)], args := [d1, d2] }
  | _ => none }
def MessageChecksWrongFalsely : Prop := messageChecksRow.holds Try.pinned (OpenSpec.ofChange messageChecksWrong)

/-- 'sticklerlaw28.MessageMore': WHATEVER THE INPUT: true; the input reads as it did. -/
def messageMoreSpec : ChangeSpec := { name := "messageMore", fn := fun _ => fun
  | [d1, d2, d3] => { results := [.lit (.bool true)], args := [d1, d2, d3] }
  | _ => none }
def messageMoreRow : OpenClaim := { program := "ytafccnkeiohlhaa", sum := "96caac054c018b2e16280714be7e81c49f5763424d5885e18d3f649e7abbc85a", func := "stickler/sticklerlaw28.MessageMore", spec := "messageMore", inPlace := ["internal/bytealg.IndexByteString", "internal/abi.NoEscape"], plainKeys := false, apart := false }
def MessageMoreSaid : Prop := messageMoreRow.holds Try.pinned (OpenSpec.ofChange messageMoreSpec)

/-- ITS FALSE NEIGHBOUR: 'it returns false'. Refute it at one input. -/
def messageMoreWrong : ChangeSpec := { name := "messageMore", fn := fun _ => fun
  | [d1, d2, d3] => { results := [.lit (.bool false)], args := [d1, d2, d3] }
  | _ => none }
def MessageMoreWrongFalsely : Prop := messageMoreRow.holds Try.pinned (OpenSpec.ofChange messageMoreWrong)

/-- 'sticklerlaw28.MessagePromise': WHATEVER THE INPUT: true; the input reads as it did. -/
def messagePromiseSpec : ChangeSpec := { name := "messagePromise", fn := fun _ => fun
  | [d] => { results := [.lit (.bool true)], args := [d] }
  | _ => none }
def messagePromiseRow : OpenClaim := { program := "ytafccnkeiohlhaa", sum := "96caac054c018b2e16280714be7e81c49f5763424d5885e18d3f649e7abbc85a", func := "stickler/sticklerlaw28.MessagePromise", spec := "messagePromise", inPlace := ["internal/bytealg.IndexByteString", "internal/abi.NoEscape"], plainKeys := false, apart := false }
def MessagePromiseSaid : Prop := messagePromiseRow.holds Try.pinned (OpenSpec.ofChange messagePromiseSpec)

/-- ITS FALSE NEIGHBOUR: 'it returns false'. Refute it at one input. -/
def messagePromiseWrong : ChangeSpec := { name := "messagePromise", fn := fun _ => fun
  | [d] => { results := [.lit (.bool false)], args := [d] }
  | _ => none }
def MessagePromiseWrongFalsely : Prop := messagePromiseRow.holds Try.pinned (OpenSpec.ofChange messagePromiseWrong)

/-- 'sticklerlaw29.TallyPlays': WHATEVER THE INPUT: true; the input reads as it did. -/
def tallyPlaysSpec : ChangeSpec := { name := "tallyPlays", fn := fun _ => fun
  | [d1, d2, d3] => { results := [.lit (.bool true)], args := [d1, d2, d3] }
  | _ => none }
def tallyPlaysRow : OpenClaim := { program := "ytafccnkeiohlhaa", sum := "96caac054c018b2e16280714be7e81c49f5763424d5885e18d3f649e7abbc85a", func := "stickler/sticklerlaw29.TallyPlays", spec := "tallyPlays", inPlace := ["internal/bytealg.IndexByteString", "internal/abi.NoEscape"], plainKeys := false, apart := false }
def TallyPlaysSaid : Prop := tallyPlaysRow.holds Try.pinned (OpenSpec.ofChange tallyPlaysSpec)

/-- ITS FALSE NEIGHBOUR: 'it returns false'. Refute it at one input. -/
def tallyPlaysWrong : ChangeSpec := { name := "tallyPlays", fn := fun _ => fun
  | [d1, d2, d3] => { results := [.lit (.bool false)], args := [d1, d2, d3] }
  | _ => none }
def TallyPlaysWrongFalsely : Prop := tallyPlaysRow.holds Try.pinned (OpenSpec.ofChange tallyPlaysWrong)

/-- 'sticklerlaw29.TallySums': WHATEVER THE INPUT: true; the input reads as it did. -/
def tallySumsSpec : ChangeSpec := { name := "tallySums", fn := fun _ => fun
  | [d1, d2] => { results := [.lit (.bool true)], args := [d1, d2] }
  | _ => none }
def tallySumsRow : OpenClaim := { program := "ytafccnkeiohlhaa", sum := "96caac054c018b2e16280714be7e81c49f5763424d5885e18d3f649e7abbc85a", func := "stickler/sticklerlaw29.TallySums", spec := "tallySums", inPlace := ["internal/bytealg.IndexByteString", "internal/abi.NoEscape"], recurses := true, plainKeys := false, apart := false }
def TallySumsSaid : Prop := tallySumsRow.holds Try.pinned (OpenSpec.ofChange tallySumsSpec)

/-- ITS FALSE NEIGHBOUR: 'it returns false'. Refute it at one input. -/
def tallySumsWrong : ChangeSpec := { name := "tallySums", fn := fun _ => fun
  | [d1, d2] => { results := [.lit (.bool false)], args := [d1, d2] }
  | _ => none }
def TallySumsWrongFalsely : Prop := tallySumsRow.holds Try.pinned (OpenSpec.ofChange tallySumsWrong)

/-- 'sticklerlaw29.TallyNone': WHATEVER THE INPUT: true; the input reads as it did. -/
def tallyNoneSpec : ChangeSpec := { name := "tallyNone", fn := fun _ => fun
  | [d1, d2, d3] => { results := [.lit (.bool true)], args := [d1, d2, d3] }
  | _ => none }
def tallyNoneRow : OpenClaim := { program := "ytafccnkeiohlhaa", sum := "96caac054c018b2e16280714be7e81c49f5763424d5885e18d3f649e7abbc85a", func := "stickler/sticklerlaw29.TallyNone", spec := "tallyNone", inPlace := ["internal/bytealg.IndexByteString", "internal/abi.NoEscape"], plainKeys := false, apart := false }
def TallyNoneSaid : Prop := tallyNoneRow.holds Try.pinned (OpenSpec.ofChange tallyNoneSpec)

/-- ITS FALSE NEIGHBOUR: 'it returns false'. Refute it at one input. -/
def tallyNoneWrong : ChangeSpec := { name := "tallyNone", fn := fun _ => fun
  | [d1, d2, d3] => { results := [.lit (.bool false)], args := [d1, d2, d3] }
  | _ => none }
def TallyNoneWrongFalsely : Prop := tallyNoneRow.holds Try.pinned (OpenSpec.ofChange tallyNoneWrong)

/- THE SECOND FORM. 'bulk': how many values and letters a reading holds, each counted each time it is reached (what is shared counts as often as it is met; a slice's spare places count too). A statement '..UptoSaid' is the law's where the arguments, and the package variables that the reading takes, are together of bulk at most 1048576: NARROWER than '..Said'. Prove '..Said' where nothing that the law and all that it calls make is longer than what came in: it says more and counts as full. Else prove '..UptoSaid'. A law counts once. -/
mutual
def uptoBulk {H : Type} : DataW H → Nat
  | .lit (.string bytes) => bytes.length + 1
  | .lit _ => 1
  | .nil => 1
  | .ptr d => uptoBulk d + 1
  | .slice elems spare => uptoBulkAll elems + uptoBulkAll spare + 1
  | .agg parts => uptoBulkAll parts + 1
  | .iface _ d => uptoBulk d + 1
  | .map entries => uptoBulkEntries entries + 1
  | .held _ => 1
def uptoBulkAll {H : Type} : List (DataW H) → Nat
  | [] => 0
  | d :: r => uptoBulk d + uptoBulkAll r
def uptoBulkEntries {H : Type} : List (Lit × DataW H) → Nat
  | [] => 0
  | x :: r => uptoBulkEntry x + uptoBulkEntries r
def uptoBulkEntry {H : Type} : Lit × DataW H → Nat
  | (.string bytes, d) => bytes.length + uptoBulk d + 1
  | (_, d) => uptoBulk d + 1
 end
def uptoSmall : (H : Type) → List (DataW H) → Bool := fun _ ds => decide (uptoBulkAll ds ≤ 1048576)
def OpenSpec.upto (s : _root_.Go.ChangeSpec) : _root_.Go.OpenSpec := { _root_.Go.OpenSpec.ofChange s with cond := some uptoSmall }

/-- 'sticklerlaw26.LengthTold', WHERE WHAT IT READS IS OF BULK AT MOST 1048576: true; the input reads as it did. -/
def lengthToldUptoRow : OpenClaim := { program := "ytafccnkeiohlhaa", sum := "96caac054c018b2e16280714be7e81c49f5763424d5885e18d3f649e7abbc85a", func := "stickler/sticklerlaw26.LengthTold", spec := "lengthTold", plainKeys := false, apart := false, narrowed := true }
def LengthToldUptoSaid : Prop := lengthToldUptoRow.holds Try.pinned (OpenSpec.upto lengthToldSpec)

/-- 'sticklerlaw26.LengthOthers', WHERE WHAT IT READS IS OF BULK AT MOST 1048576: true; the input reads as it did. -/
def lengthOthersUptoRow : OpenClaim := { program := "ytafccnkeiohlhaa", sum := "96caac054c018b2e16280714be7e81c49f5763424d5885e18d3f649e7abbc85a", func := "stickler/sticklerlaw26.LengthOthers", spec := "lengthOthers", plainKeys := false, apart := false, narrowed := true }
def LengthOthersUptoSaid : Prop := lengthOthersUptoRow.holds Try.pinned (OpenSpec.upto lengthOthersSpec)

/-- 'sticklerlaw25.TokenNames', WHERE WHAT IT READS IS OF BULK AT MOST 1048576: true; the input reads as it did. -/
def tokenNamesUptoRow : OpenClaim := { program := "ytafccnkeiohlhaa", sum := "96caac054c018b2e16280714be7e81c49f5763424d5885e18d3f649e7abbc85a", func := "stickler/sticklerlaw25.TokenNames", spec := "tokenNames", inPlace := ["internal/bytealg.IndexByteString"], plainKeys := false, apart := false, narrowed := true }
def TokenNamesUptoSaid : Prop := tokenNamesUptoRow.holds Try.pinned (OpenSpec.upto tokenNamesSpec)

/-- 'sticklerlaw25.TokenValues', WHERE WHAT IT READS IS OF BULK AT MOST 1048576: true; the input reads as it did. -/
def tokenValuesUptoRow : OpenClaim := { program := "ytafccnkeiohlhaa", sum := "96caac054c018b2e16280714be7e81c49f5763424d5885e18d3f649e7abbc85a", func := "stickler/sticklerlaw25.TokenValues", spec := "tokenValues", inPlace := ["internal/bytealg.IndexByteString"], plainKeys := false, apart := false, narrowed := true }
def TokenValuesUptoSaid : Prop := tokenValuesUptoRow.holds Try.pinned (OpenSpec.upto tokenValuesSpec)

/-- 'sticklerlaw36.PingsPlays', WHERE WHAT IT READS IS OF BULK AT MOST 1048576: true; the input reads as it did. -/
def pingsPlaysUptoRow : OpenClaim := { program := "ytafccnkeiohlhaa", sum := "96caac054c018b2e16280714be7e81c49f5763424d5885e18d3f649e7abbc85a", func := "stickler/sticklerlaw36.PingsPlays", spec := "pingsPlays", plainKeys := false, apart := false, narrowed := true }
def PingsPlaysUptoSaid : Prop := pingsPlaysUptoRow.holds Try.pinned (OpenSpec.upto pingsPlaysSpec)

/-- 'sticklerlaw36.PingsOrder', WHERE WHAT IT READS IS OF BULK AT MOST 1048576: true; the input reads as it did. -/
def pingsOrderUptoRow : OpenClaim := { program := "ytafccnkeiohlhaa", sum := "96caac054c018b2e16280714be7e81c49f5763424d5885e18d3f649e7abbc85a", func := "stickler/sticklerlaw36.PingsOrder", spec := "pingsOrder", plainKeys := false, apart := false, narrowed := true }
def PingsOrderUptoSaid : Prop := pingsOrderUptoRow.holds Try.pinned (OpenSpec.upto pingsOrderSpec)

/-- 'sticklerlaw27.PseudoRequests', WHERE WHAT IT READS IS OF BULK AT MOST 1048576: true; the input reads as it did. -/
def pseudoRequestsUptoRow : OpenClaim := { program := "ytafccnkeiohlhaa", sum := "96caac054c018b2e16280714be7e81c49f5763424d5885e18d3f649e7abbc85a", func := "stickler/sticklerlaw27.PseudoRequests", spec := "pseudoRequests", plainKeys := false, apart := false, narrowed := true }
def PseudoRequestsUptoSaid : Prop := pseudoRequestsUptoRow.holds Try.pinned (OpenSpec.upto pseudoRequestsSpec)

/-- 'sticklerlaw27.PseudoResponses', WHERE WHAT IT READS IS OF BULK AT MOST 1048576: true; the input reads as it did. -/
def pseudoResponsesUptoRow : OpenClaim := { program := "ytafccnkeiohlhaa", sum := "96caac054c018b2e16280714be7e81c49f5763424d5885e18d3f649e7abbc85a", func := "stickler/sticklerlaw27.PseudoResponses", spec := "pseudoResponses", plainKeys := false, apart := false, narrowed := true }
def PseudoResponsesUptoSaid : Prop := pseudoResponsesUptoRow.holds Try.pinned (OpenSpec.upto pseudoResponsesSpec)

/-- 'sticklerlaw25.TokenLowers', WHERE WHAT IT READS IS OF BULK AT MOST 1048576: true; the input reads as it did. -/
def tokenLowersUptoRow : OpenClaim := { program := "ytafccnkeiohlhaa", sum := "96caac054c018b2e16280714be7e81c49f5763424d5885e18d3f649e7abbc85a", func := "stickler/sticklerlaw25.TokenLowers", spec := "tokenLowers", inPlace := ["internal/bytealg.IndexByteString", "internal/abi.NoEscape"], plainKeys := false, apart := false, narrowed := true }
def TokenLowersUptoSaid : Prop := tokenLowersUptoRow.holds Try.pinned (OpenSpec.upto tokenLowersSpec)

/-- 'sticklerlaw27.PseudoOne', WHERE WHAT IT READS IS OF BULK AT MOST 1048576: true; the input reads as it did. -/
def pseudoOneUptoRow : OpenClaim := { program := "ytafccnkeiohlhaa", sum := "96caac054c018b2e16280714be7e81c49f5763424d5885e18d3f649e7abbc85a", func := "stickler/sticklerlaw27.PseudoOne", spec := "pseudoOne", plainKeys := false, apart := false, narrowed := true }
def PseudoOneUptoSaid : Prop := pseudoOneUptoRow.holds Try.pinned (OpenSpec.upto pseudoOneSpec)

/-- 'sticklerlaw28.MessageChecks', WHERE WHAT IT READS IS OF BULK AT MOST 1048576: true; the input reads as it did. -/
def messageChecksUptoRow : OpenClaim := { program := "ytafccnkeiohlhaa", sum := "96caac054c018b2e16280714be7e81c49f5763424d5885e18d3f649e7abbc85a", func := "stickler/sticklerlaw28.MessageChecks", spec := "messageChecks", inPlace := ["internal/bytealg.IndexByteString", "internal/abi.NoEscape"], plainKeys := false, apart := false, narrowed := true }
def MessageChecksUptoSaid : Prop := messageChecksUptoRow.holds Try.pinned (OpenSpec.upto messageChecksSpec)

/-- 'sticklerlaw28.MessageMore', WHERE WHAT IT READS IS OF BULK AT MOST 1048576: true; the input reads as it did. -/
def messageMoreUptoRow : OpenClaim := { program := "ytafccnkeiohlhaa", sum := "96caac054c018b2e16280714be7e81c49f5763424d5885e18d3f649e7abbc85a", func := "stickler/sticklerlaw28.MessageMore", spec := "messageMore", inPlace := ["internal/bytealg.IndexByteString", "internal/abi.NoEscape"], plainKeys := false, apart := false, narrowed := true }
def MessageMoreUptoSaid : Prop := messageMoreUptoRow.holds Try.pinned (OpenSpec.upto messageMoreSpec)

/-- 'sticklerlaw28.MessagePromise', WHERE WHAT IT READS IS OF BULK AT MOST 1048576: true; the input reads as it did. -/
def messagePromiseUptoRow : OpenClaim := { program := "ytafccnkeiohlhaa", sum := "96caac054c018b2e16280714be7e81c49f5763424d5885e18d3f649e7abbc85a", func := "stickler/sticklerlaw28.MessagePromise", spec := "messagePromise", inPlace := ["internal/bytealg.IndexByteString", "internal/abi.NoEscape"], plainKeys := false, apart := false, narrowed := true }
def MessagePromiseUptoSaid : Prop := messagePromiseUptoRow.holds Try.pinned (OpenSpec.upto messagePromiseSpec)

/-- 'sticklerlaw29.TallyPlays', WHERE WHAT IT READS IS OF BULK AT MOST 1048576: true; the input reads as it did. -/
def tallyPlaysUptoRow : OpenClaim := { program := "ytafccnkeiohlhaa", sum := "96caac054c018b2e16280714be7e81c49f5763424d5885e18d3f649e7abbc85a", func := "stickler/sticklerlaw29.TallyPlays", spec := "tallyPlays", inPlace := ["internal/bytealg.IndexByteString", "internal/abi.NoEscape"], plainKeys := false, apart := false, narrowed := true }
def TallyPlaysUptoSaid : Prop := tallyPlaysUptoRow.holds Try.pinned (OpenSpec.upto tallyPlaysSpec)

/-- 'sticklerlaw29.TallySums', WHERE WHAT IT READS IS OF BULK AT MOST 1048576: true; the input reads as it did. -/
def tallySumsUptoRow : OpenClaim := { program := "ytafccnkeiohlhaa", sum := "96caac054c018b2e16280714be7e81c49f5763424d5885e18d3f649e7abbc85a", func := "stickler/sticklerlaw29.TallySums", spec := "tallySums", inPlace := ["internal/bytealg.IndexByteString", "internal/abi.NoEscape"], recurses := true, plainKeys := false, apart := false, narrowed := true }
def TallySumsUptoSaid : Prop := tallySumsUptoRow.holds Try.pinned (OpenSpec.upto tallySumsSpec)

/-- 'sticklerlaw29.TallyNone', WHERE WHAT IT READS IS OF BULK AT MOST 1048576: true; the input reads as it did. -/
def tallyNoneUptoRow : OpenClaim := { program := "ytafccnkeiohlhaa", sum := "96caac054c018b2e16280714be7e81c49f5763424d5885e18d3f649e7abbc85a", func := "stickler/sticklerlaw29.TallyNone", spec := "tallyNone", inPlace := ["internal/bytealg.IndexByteString", "internal/abi.NoEscape"], plainKeys := false, apart := false, narrowed := true }
def TallyNoneUptoSaid : Prop := tallyNoneUptoRow.holds Try.pinned (OpenSpec.upto tallyNoneSpec)

end Rows
end Go.Proofs.Ytafccnkeiohlhaa
