/-
  DERIVED. GIVEN WITH THE SEED: THE CARDS: each row of YtjdgkkmhlbjdnaaDoorRows.lean that lists a variable, with what it lists TIED to the program's text (the seventh form; the later family's looks); each row that meets fmt, with fmt's text TOLD by the authors' own Lean function (tested against real Go, not proved from fmt's source: count such statements apart). THE CARD IS WHAT COUNTS. Prove the row's statement (the work); the ties are given (YtjdgkkmhlbjdnaaDoorTie.lean); close each card by the builder's one call (the guide's Derived/Test/ToyasCard.lean, 'card_holds'). Laid BY PROGRAM, IN A SANDBOX (cutbox-door.mjs). By AI agents, Wed Nov 11 2026. No macro, syntax, notation, axiom, sorry.
-/
import Derived.Test.YtjdgkkmhlbjdnaaDoorRows
import GoSem.ClaimSeven
namespace Go.Proofs.YtjdgkkmhlbjdnaaDoor
namespace Rows

/-- THE TIED CARD OF 'sticklerlaw41.RecordOf'. -/
def recordOfCard : Claim7 := { stood := { row := recordOfRow, standIns := [], harness := (true, "c92cfaad91f369d87bb5c4c27265295a83ae2b310ff6d0ce2e45f86813fab3c9"), looks := true }, kinds := [], alts := [], laidByText := true, laidKinds := [.data, .data, .data, .data], laidTests := true, laidLooks := .later }
def RecordOfCardSaid : Prop := Claim7.holds Tryd.pinned (.plain (OpenSpec.ofChange recordOfSpec)) recordOfCard

/-- THE TIED CARD OF 'sticklerlaw04.WordsLine'. -/
def wordsLineCard : Claim7 := { stood := { row := wordsLineRow, standIns := [], harness := (true, "c92cfaad91f369d87bb5c4c27265295a83ae2b310ff6d0ce2e45f86813fab3c9"), looks := true }, kinds := [], alts := [], laidByText := true, laidKinds := [.data, .pinned], laidTests := true, laidLooks := .later }
def WordsLineCardSaid : Prop := Claim7.holds Tryd.pinned (.plain (OpenSpec.ofChange wordsLineSpec)) wordsLineCard

/-- THE TIED CARD OF 'sticklerlaw04.WordsSplit'. -/
def wordsSplitCard : Claim7 := { stood := { row := wordsSplitRow, standIns := [], harness := (true, "c92cfaad91f369d87bb5c4c27265295a83ae2b310ff6d0ce2e45f86813fab3c9"), looks := true }, kinds := [], alts := [], laidByText := true, laidKinds := [.data, .pinned], laidTests := true, laidLooks := .later }
def WordsSplitCardSaid : Prop := Claim7.holds Tryd.pinned (.plain (OpenSpec.ofChange wordsSplitSpec)) wordsSplitCard

/-- THE TIED CARD OF 'sticklerlaw04.WordsQuote'. -/
def wordsQuoteCard : Claim7 := { stood := { row := wordsQuoteRow, standIns := [], harness := (true, "c92cfaad91f369d87bb5c4c27265295a83ae2b310ff6d0ce2e45f86813fab3c9"), looks := true }, kinds := [], alts := [], laidByText := true, laidKinds := [.data, .pinned], laidTests := true, laidLooks := .later }
def WordsQuoteCardSaid : Prop := Claim7.holds Tryd.pinned (.plain (OpenSpec.ofChange wordsQuoteSpec)) wordsQuoteCard

/-- THE TIED CARD OF 'sticklerlaw04.WordsHex'. -/
def wordsHexCard : Claim7 := { stood := { row := wordsHexRow, standIns := [], harness := (true, "c92cfaad91f369d87bb5c4c27265295a83ae2b310ff6d0ce2e45f86813fab3c9"), looks := true }, kinds := [], alts := [], laidByText := true, laidKinds := [.data, .pinned], laidTests := true, laidLooks := .later }
def WordsHexCardSaid : Prop := Claim7.holds Tryd.pinned (.plain (OpenSpec.ofChange wordsHexSpec)) wordsHexCard

/-- THE TIED CARD OF 'sticklerlaw09.FaultsUnion'. -/
def faultsUnionCard : Claim7 := { stood := { row := faultsUnionRow, standIns := [], harness := (true, "c92cfaad91f369d87bb5c4c27265295a83ae2b310ff6d0ce2e45f86813fab3c9"), looks := true }, kinds := [], alts := [], laidByText := true, laidKinds := [.data, .data, .data, .data], laidTests := true, laidLooks := .later }
def FaultsUnionCardSaid : Prop := Claim7.holds Tryd.pinned (.plain (OpenSpec.ofChange faultsUnionSpec)) faultsUnionCard

/-- THE TIED CARD OF 'sticklerlaw09.FaultsSets'. -/
def faultsSetsCard : Claim7 := { stood := { row := faultsSetsRow, standIns := [], harness := (true, "c92cfaad91f369d87bb5c4c27265295a83ae2b310ff6d0ce2e45f86813fab3c9"), looks := true }, kinds := [], alts := [], laidByText := true, laidKinds := [.data, .data, .data, .data], laidTests := true, laidLooks := .later }
def FaultsSetsCardSaid : Prop := Claim7.holds Tryd.pinned (.plain (OpenSpec.ofChange faultsSetsSpec)) faultsSetsCard

/-- THE TIED CARD OF 'sticklerlaw03.DigitsTexts'. -/
def digitsTextsCard : Claim7 := { stood := { row := digitsTextsRow, standIns := [], harness := (true, "c92cfaad91f369d87bb5c4c27265295a83ae2b310ff6d0ce2e45f86813fab3c9"), looks := true }, kinds := [], alts := [], laidByText := true, laidKinds := [.data, .data, .data, .data, .sentinel, .sentinel, .pinned], laidTests := true, laidLooks := .later }
def DigitsTextsCardSaid : Prop := Claim7.holds Tryd.pinned (.plain (OpenSpec.ofChange digitsTextsSpec)) digitsTextsCard

/-- THE TIED CARD OF 'sticklerlaw03.DigitsReads'. -/
def digitsReadsCard : Claim7 := { stood := { row := digitsReadsRow, standIns := [], harness := (true, "c92cfaad91f369d87bb5c4c27265295a83ae2b310ff6d0ce2e45f86813fab3c9"), looks := true }, kinds := [], alts := [], laidByText := true, laidKinds := [.data, .data, .data, .data, .sentinel, .sentinel, .pinned], laidTests := true, laidLooks := .later }
def DigitsReadsCardSaid : Prop := Claim7.holds Tryd.pinned (.plain (OpenSpec.ofChange digitsReadsSpec)) digitsReadsCard

/-- THE TIED CARD OF 'sticklerlaw03.DigitsNatural'. -/
def digitsNaturalCard : Claim7 := { stood := { row := digitsNaturalRow, standIns := [], harness := (true, "c92cfaad91f369d87bb5c4c27265295a83ae2b310ff6d0ce2e45f86813fab3c9"), looks := true }, kinds := [], alts := [], laidByText := true, laidKinds := [.data, .data, .data, .data, .sentinel, .sentinel, .pinned], laidTests := true, laidLooks := .later }
def DigitsNaturalCardSaid : Prop := Claim7.holds Tryd.pinned (.plain (OpenSpec.ofChange digitsNaturalSpec)) digitsNaturalCard

/-- THE TIED CARD OF 'sticklerlaw03.DigitsLists'. -/
def digitsListsCard : Claim7 := { stood := { row := digitsListsRow, standIns := [], harness := (true, "c92cfaad91f369d87bb5c4c27265295a83ae2b310ff6d0ce2e45f86813fab3c9"), looks := true }, kinds := [], alts := [], laidByText := true, laidKinds := [.data, .data, .data, .data, .sentinel, .sentinel, .pinned], laidTests := true, laidLooks := .later }
def DigitsListsCardSaid : Prop := Claim7.holds Tryd.pinned (.plain (OpenSpec.ofChange digitsListsSpec)) digitsListsCard

/-- THE TIED CARD OF 'sticklerlaw41.RecordTexts'. -/
def recordTextsCard : Claim7 := { stood := { row := recordTextsRow, standIns := [], harness := (true, "c92cfaad91f369d87bb5c4c27265295a83ae2b310ff6d0ce2e45f86813fab3c9"), looks := true }, kinds := [], alts := [], laidByText := true, laidKinds := [.data, .data, .data, .data, .sentinel, .sentinel, .data, .pinned], laidTests := true, laidLooks := .later }
def RecordTextsCardSaid : Prop := Claim7.holds Tryd.pinned (.plain (OpenSpec.ofChange recordTextsSpec)) recordTextsCard

/-- THE TIED CARD OF 'sticklerlaw41.RecordReads'. -/
def recordReadsCard : Claim7 := { stood := { row := recordReadsRow, standIns := [], harness := (true, "c92cfaad91f369d87bb5c4c27265295a83ae2b310ff6d0ce2e45f86813fab3c9"), looks := true }, kinds := [], alts := [], laidByText := true, laidKinds := [.data, .data, .data, .data, .sentinel, .sentinel, .data, .pinned], laidTests := true, laidLooks := .later }
def RecordReadsCardSaid : Prop := Claim7.holds Tryd.pinned (.plain (OpenSpec.ofChange recordReadsSpec)) recordReadsCard

/-- THE TIED CARD OF 'sticklerlaw09.FaultsCodes'. -/
def faultsCodesCard : Claim7 := { stood := { row := faultsCodesRow, standIns := [], harness := (true, "c92cfaad91f369d87bb5c4c27265295a83ae2b310ff6d0ce2e45f86813fab3c9"), looks := true }, kinds := [], alts := [], laidByText := true, laidKinds := [.data, .data, .data, .sentinel, .sentinel, .data], laidTests := true, laidLooks := .later }
def FaultsCodesCardSaid : Prop := Claim7.holds Tryd.pinned (.plain (OpenSpec.ofChange faultsCodesSpec)) faultsCodesCard

/-- THE SECOND FORM's CARD OF 'sticklerlaw41.RecordOf'. -/
def recordOfUptoCard : Claim7 := { stood := { row := recordOfUptoRow, standIns := [], harness := (true, "c92cfaad91f369d87bb5c4c27265295a83ae2b310ff6d0ce2e45f86813fab3c9"), looks := true }, kinds := [], alts := [], laidByText := true, laidKinds := [.data, .data, .data, .data], laidTests := true, laidLooks := .later }
def RecordOfUptoCardSaid : Prop := Claim7.holds Tryd.pinned (.plain (OpenSpec.upto recordOfSpec)) recordOfUptoCard

/-- THE SECOND FORM's CARD OF 'sticklerlaw04.WordsLine'. -/
def wordsLineUptoCard : Claim7 := { stood := { row := wordsLineUptoRow, standIns := [], harness := (true, "c92cfaad91f369d87bb5c4c27265295a83ae2b310ff6d0ce2e45f86813fab3c9"), looks := true }, kinds := [], alts := [], laidByText := true, laidKinds := [.data, .pinned], laidTests := true, laidLooks := .later }
def WordsLineUptoCardSaid : Prop := Claim7.holds Tryd.pinned (.plain (OpenSpec.upto wordsLineSpec)) wordsLineUptoCard

/-- THE SECOND FORM's CARD OF 'sticklerlaw04.WordsSplit'. -/
def wordsSplitUptoCard : Claim7 := { stood := { row := wordsSplitUptoRow, standIns := [], harness := (true, "c92cfaad91f369d87bb5c4c27265295a83ae2b310ff6d0ce2e45f86813fab3c9"), looks := true }, kinds := [], alts := [], laidByText := true, laidKinds := [.data, .pinned], laidTests := true, laidLooks := .later }
def WordsSplitUptoCardSaid : Prop := Claim7.holds Tryd.pinned (.plain (OpenSpec.upto wordsSplitSpec)) wordsSplitUptoCard

/-- THE SECOND FORM's CARD OF 'sticklerlaw04.WordsQuote'. -/
def wordsQuoteUptoCard : Claim7 := { stood := { row := wordsQuoteUptoRow, standIns := [], harness := (true, "c92cfaad91f369d87bb5c4c27265295a83ae2b310ff6d0ce2e45f86813fab3c9"), looks := true }, kinds := [], alts := [], laidByText := true, laidKinds := [.data, .pinned], laidTests := true, laidLooks := .later }
def WordsQuoteUptoCardSaid : Prop := Claim7.holds Tryd.pinned (.plain (OpenSpec.upto wordsQuoteSpec)) wordsQuoteUptoCard

/-- THE SECOND FORM's CARD OF 'sticklerlaw04.WordsHex'. -/
def wordsHexUptoCard : Claim7 := { stood := { row := wordsHexUptoRow, standIns := [], harness := (true, "c92cfaad91f369d87bb5c4c27265295a83ae2b310ff6d0ce2e45f86813fab3c9"), looks := true }, kinds := [], alts := [], laidByText := true, laidKinds := [.data, .pinned], laidTests := true, laidLooks := .later }
def WordsHexUptoCardSaid : Prop := Claim7.holds Tryd.pinned (.plain (OpenSpec.upto wordsHexSpec)) wordsHexUptoCard

/-- THE SECOND FORM's CARD OF 'sticklerlaw09.FaultsUnion'. -/
def faultsUnionUptoCard : Claim7 := { stood := { row := faultsUnionUptoRow, standIns := [], harness := (true, "c92cfaad91f369d87bb5c4c27265295a83ae2b310ff6d0ce2e45f86813fab3c9"), looks := true }, kinds := [], alts := [], laidByText := true, laidKinds := [.data, .data, .data, .data], laidTests := true, laidLooks := .later }
def FaultsUnionUptoCardSaid : Prop := Claim7.holds Tryd.pinned (.plain (OpenSpec.upto faultsUnionSpec)) faultsUnionUptoCard

/-- THE SECOND FORM's CARD OF 'sticklerlaw09.FaultsSets'. -/
def faultsSetsUptoCard : Claim7 := { stood := { row := faultsSetsUptoRow, standIns := [], harness := (true, "c92cfaad91f369d87bb5c4c27265295a83ae2b310ff6d0ce2e45f86813fab3c9"), looks := true }, kinds := [], alts := [], laidByText := true, laidKinds := [.data, .data, .data, .data], laidTests := true, laidLooks := .later }
def FaultsSetsUptoCardSaid : Prop := Claim7.holds Tryd.pinned (.plain (OpenSpec.upto faultsSetsSpec)) faultsSetsUptoCard

/-- THE SECOND FORM's CARD OF 'sticklerlaw03.DigitsTexts'. -/
def digitsTextsUptoCard : Claim7 := { stood := { row := digitsTextsUptoRow, standIns := [], harness := (true, "c92cfaad91f369d87bb5c4c27265295a83ae2b310ff6d0ce2e45f86813fab3c9"), looks := true }, kinds := [], alts := [], laidByText := true, laidKinds := [.data, .data, .data, .data, .sentinel, .sentinel, .pinned], laidTests := true, laidLooks := .later }
def DigitsTextsUptoCardSaid : Prop := Claim7.holds Tryd.pinned (.plain (OpenSpec.upto digitsTextsSpec)) digitsTextsUptoCard

/-- THE SECOND FORM's CARD OF 'sticklerlaw03.DigitsReads'. -/
def digitsReadsUptoCard : Claim7 := { stood := { row := digitsReadsUptoRow, standIns := [], harness := (true, "c92cfaad91f369d87bb5c4c27265295a83ae2b310ff6d0ce2e45f86813fab3c9"), looks := true }, kinds := [], alts := [], laidByText := true, laidKinds := [.data, .data, .data, .data, .sentinel, .sentinel, .pinned], laidTests := true, laidLooks := .later }
def DigitsReadsUptoCardSaid : Prop := Claim7.holds Tryd.pinned (.plain (OpenSpec.upto digitsReadsSpec)) digitsReadsUptoCard

/-- THE SECOND FORM's CARD OF 'sticklerlaw03.DigitsNatural'. -/
def digitsNaturalUptoCard : Claim7 := { stood := { row := digitsNaturalUptoRow, standIns := [], harness := (true, "c92cfaad91f369d87bb5c4c27265295a83ae2b310ff6d0ce2e45f86813fab3c9"), looks := true }, kinds := [], alts := [], laidByText := true, laidKinds := [.data, .data, .data, .data, .sentinel, .sentinel, .pinned], laidTests := true, laidLooks := .later }
def DigitsNaturalUptoCardSaid : Prop := Claim7.holds Tryd.pinned (.plain (OpenSpec.upto digitsNaturalSpec)) digitsNaturalUptoCard

/-- THE SECOND FORM's CARD OF 'sticklerlaw03.DigitsLists'. -/
def digitsListsUptoCard : Claim7 := { stood := { row := digitsListsUptoRow, standIns := [], harness := (true, "c92cfaad91f369d87bb5c4c27265295a83ae2b310ff6d0ce2e45f86813fab3c9"), looks := true }, kinds := [], alts := [], laidByText := true, laidKinds := [.data, .data, .data, .data, .sentinel, .sentinel, .pinned], laidTests := true, laidLooks := .later }
def DigitsListsUptoCardSaid : Prop := Claim7.holds Tryd.pinned (.plain (OpenSpec.upto digitsListsSpec)) digitsListsUptoCard

/-- THE SECOND FORM's CARD OF 'sticklerlaw41.RecordTexts'. -/
def recordTextsUptoCard : Claim7 := { stood := { row := recordTextsUptoRow, standIns := [], harness := (true, "c92cfaad91f369d87bb5c4c27265295a83ae2b310ff6d0ce2e45f86813fab3c9"), looks := true }, kinds := [], alts := [], laidByText := true, laidKinds := [.data, .data, .data, .data, .sentinel, .sentinel, .data, .pinned], laidTests := true, laidLooks := .later }
def RecordTextsUptoCardSaid : Prop := Claim7.holds Tryd.pinned (.plain (OpenSpec.upto recordTextsSpec)) recordTextsUptoCard

/-- THE SECOND FORM's CARD OF 'sticklerlaw41.RecordReads'. -/
def recordReadsUptoCard : Claim7 := { stood := { row := recordReadsUptoRow, standIns := [], harness := (true, "c92cfaad91f369d87bb5c4c27265295a83ae2b310ff6d0ce2e45f86813fab3c9"), looks := true }, kinds := [], alts := [], laidByText := true, laidKinds := [.data, .data, .data, .data, .sentinel, .sentinel, .data, .pinned], laidTests := true, laidLooks := .later }
def RecordReadsUptoCardSaid : Prop := Claim7.holds Tryd.pinned (.plain (OpenSpec.upto recordReadsSpec)) recordReadsUptoCard

/-- THE SECOND FORM's CARD OF 'sticklerlaw09.FaultsCodes'. -/
def faultsCodesUptoCard : Claim7 := { stood := { row := faultsCodesUptoRow, standIns := [], harness := (true, "c92cfaad91f369d87bb5c4c27265295a83ae2b310ff6d0ce2e45f86813fab3c9"), looks := true }, kinds := [], alts := [], laidByText := true, laidKinds := [.data, .data, .data, .sentinel, .sentinel, .data], laidTests := true, laidLooks := .later }
def FaultsCodesUptoCardSaid : Prop := Claim7.holds Tryd.pinned (.plain (OpenSpec.upto faultsCodesSpec)) faultsCodesUptoCard
end Rows
end Go.Proofs.YtjdgkkmhlbjdnaaDoor
