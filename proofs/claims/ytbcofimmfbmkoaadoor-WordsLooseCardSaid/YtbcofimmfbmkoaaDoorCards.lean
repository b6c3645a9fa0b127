/-
  DERIVED. GIVEN WITH THE SEED: THE CARDS: each row of YtbcofimmfbmkoaaDoorRows.lean that lists a variable, with what it lists TIED to the program's text (the seventh form; the later family's looks); each row that meets fmt, with fmt's text TOLD by the authors' own Lean function (tested against real Go, not proved from fmt's source: count such statements apart). THE CARD IS WHAT COUNTS. Prove the row's statement (the work); the ties are given (YtbcofimmfbmkoaaDoorTie.lean); close each card by the builder's one call (the guide's Derived/Test/ToyasCard.lean, 'card_holds'). Laid BY PROGRAM, IN A SANDBOX (cutbox-door.mjs). By AI agents, Wed Nov 11 2026. No macro, syntax, notation, axiom, sorry.
-/
import Derived.Test.YtbcofimmfbmkoaaDoorRows
import GoSem.ClaimSeven
namespace Go.Proofs.YtbcofimmfbmkoaaDoor
namespace Rows

/-- THE TIED CARD OF 'packhorselaw03.WordsRows'. -/
def wordsRowsCard : Claim7 := { stood := { row := wordsRowsRow, standIns := [], harness := (true, "99ccc8cd7e502a9c1507b53d52865429ad67451cacff578cddb8a61d32d49b21"), looks := false }, kinds := [], alts := [], laidByText := true, laidKinds := [.data, .pinned], laidTests := true, laidLooks := .later }
def WordsRowsCardSaid : Prop := Claim7.holds Tryd.pinned (.plain (OpenSpec.ofChange wordsRowsSpec)) wordsRowsCard

/-- THE TIED CARD OF 'packhorselaw03.WordsQuotes'. -/
def wordsQuotesCard : Claim7 := { stood := { row := wordsQuotesRow, standIns := [], harness := (true, "99ccc8cd7e502a9c1507b53d52865429ad67451cacff578cddb8a61d32d49b21"), looks := false }, kinds := [], alts := [], laidByText := true, laidKinds := [.data, .pinned], laidTests := true, laidLooks := .later }
def WordsQuotesCardSaid : Prop := Claim7.holds Tryd.pinned (.plain (OpenSpec.ofChange wordsQuotesSpec)) wordsQuotesCard

/-- THE TIED CARD OF 'packhorselaw03.WordsValues'. -/
def wordsValuesCard : Claim7 := { stood := { row := wordsValuesRow, standIns := [], harness := (true, "99ccc8cd7e502a9c1507b53d52865429ad67451cacff578cddb8a61d32d49b21"), looks := false }, kinds := [], alts := [], laidByText := true, laidKinds := [.data, .pinned], laidTests := true, laidLooks := .later }
def WordsValuesCardSaid : Prop := Claim7.holds Tryd.pinned (.plain (OpenSpec.ofChange wordsValuesSpec)) wordsValuesCard

/-- THE TIED CARD OF 'packhorselaw03.WordsKnown'. -/
def wordsKnownCard : Claim7 := { stood := { row := wordsKnownRow, standIns := [], harness := (true, "99ccc8cd7e502a9c1507b53d52865429ad67451cacff578cddb8a61d32d49b21"), looks := false }, kinds := [], alts := [], laidByText := true, laidKinds := [.data, .pinned], laidTests := true, laidLooks := .later }
def WordsKnownCardSaid : Prop := Claim7.holds Tryd.pinned (.plain (OpenSpec.ofChange wordsKnownSpec)) wordsKnownCard

/-- THE TIED CARD OF 'packhorselaw03.WordsBack'. -/
def wordsBackCard : Claim7 := { stood := { row := wordsBackRow, standIns := [], harness := (true, "99ccc8cd7e502a9c1507b53d52865429ad67451cacff578cddb8a61d32d49b21"), looks := false }, kinds := [], alts := [], laidByText := true, laidKinds := [.data, .pinned], laidTests := true, laidLooks := .later }
def WordsBackCardSaid : Prop := Claim7.holds Tryd.pinned (.plain (OpenSpec.ofChange wordsBackSpec)) wordsBackCard

/-- THE TIED CARD OF 'packhorselaw03.WordsTexts'. -/
def wordsTextsCard : Claim7 := { stood := { row := wordsTextsRow, standIns := [], harness := (true, "99ccc8cd7e502a9c1507b53d52865429ad67451cacff578cddb8a61d32d49b21"), looks := false }, kinds := [], alts := [], laidByText := true, laidKinds := [.data, .pinned], laidTests := true, laidLooks := .later }
def WordsTextsCardSaid : Prop := Claim7.holds Tryd.pinned (.plain (OpenSpec.ofChange wordsTextsSpec)) wordsTextsCard

/-- THE TIED CARD OF 'packhorselaw03.WordsRound'. -/
def wordsRoundCard : Claim7 := { stood := { row := wordsRoundRow, standIns := [], harness := (true, "99ccc8cd7e502a9c1507b53d52865429ad67451cacff578cddb8a61d32d49b21"), looks := false }, kinds := [], alts := [], laidByText := true, laidKinds := [.data, .pinned], laidTests := true, laidLooks := .later }
def WordsRoundCardSaid : Prop := Claim7.holds Tryd.pinned (.plain (OpenSpec.ofChange wordsRoundSpec)) wordsRoundCard

/-- THE TIED CARD OF 'packhorselaw03.WordsLoose'. -/
def wordsLooseCard : Claim7 := { stood := { row := wordsLooseRow, standIns := [], harness := (true, "99ccc8cd7e502a9c1507b53d52865429ad67451cacff578cddb8a61d32d49b21"), looks := false }, kinds := [], alts := [], laidByText := true, laidKinds := [.data, .pinned], laidTests := true, laidLooks := .later }
def WordsLooseCardSaid : Prop := Claim7.holds Tryd.pinned (.plain (OpenSpec.ofChange wordsLooseSpec)) wordsLooseCard

/-- THE SECOND FORM's CARD OF 'packhorselaw03.WordsRows'. -/
def wordsRowsUptoCard : Claim7 := { stood := { row := wordsRowsUptoRow, standIns := [], harness := (true, "99ccc8cd7e502a9c1507b53d52865429ad67451cacff578cddb8a61d32d49b21"), looks := false }, kinds := [], alts := [], laidByText := true, laidKinds := [.data, .pinned], laidTests := true, laidLooks := .later }
def WordsRowsUptoCardSaid : Prop := Claim7.holds Tryd.pinned (.plain (OpenSpec.upto wordsRowsSpec)) wordsRowsUptoCard

/-- THE SECOND FORM's CARD OF 'packhorselaw03.WordsQuotes'. -/
def wordsQuotesUptoCard : Claim7 := { stood := { row := wordsQuotesUptoRow, standIns := [], harness := (true, "99ccc8cd7e502a9c1507b53d52865429ad67451cacff578cddb8a61d32d49b21"), looks := false }, kinds := [], alts := [], laidByText := true, laidKinds := [.data, .pinned], laidTests := true, laidLooks := .later }
def WordsQuotesUptoCardSaid : Prop := Claim7.holds Tryd.pinned (.plain (OpenSpec.upto wordsQuotesSpec)) wordsQuotesUptoCard

/-- THE SECOND FORM's CARD OF 'packhorselaw03.WordsValues'. -/
def wordsValuesUptoCard : Claim7 := { stood := { row := wordsValuesUptoRow, standIns := [], harness := (true, "99ccc8cd7e502a9c1507b53d52865429ad67451cacff578cddb8a61d32d49b21"), looks := false }, kinds := [], alts := [], laidByText := true, laidKinds := [.data, .pinned], laidTests := true, laidLooks := .later }
def WordsValuesUptoCardSaid : Prop := Claim7.holds Tryd.pinned (.plain (OpenSpec.upto wordsValuesSpec)) wordsValuesUptoCard

/-- THE SECOND FORM's CARD OF 'packhorselaw03.WordsKnown'. -/
def wordsKnownUptoCard : Claim7 := { stood := { row := wordsKnownUptoRow, standIns := [], harness := (true, "99ccc8cd7e502a9c1507b53d52865429ad67451cacff578cddb8a61d32d49b21"), looks := false }, kinds := [], alts := [], laidByText := true, laidKinds := [.data, .pinned], laidTests := true, laidLooks := .later }
def WordsKnownUptoCardSaid : Prop := Claim7.holds Tryd.pinned (.plain (OpenSpec.upto wordsKnownSpec)) wordsKnownUptoCard

/-- THE SECOND FORM's CARD OF 'packhorselaw03.WordsBack'. -/
def wordsBackUptoCard : Claim7 := { stood := { row := wordsBackUptoRow, standIns := [], harness := (true, "99ccc8cd7e502a9c1507b53d52865429ad67451cacff578cddb8a61d32d49b21"), looks := false }, kinds := [], alts := [], laidByText := true, laidKinds := [.data, .pinned], laidTests := true, laidLooks := .later }
def WordsBackUptoCardSaid : Prop := Claim7.holds Tryd.pinned (.plain (OpenSpec.upto wordsBackSpec)) wordsBackUptoCard

/-- THE SECOND FORM's CARD OF 'packhorselaw03.WordsTexts'. -/
def wordsTextsUptoCard : Claim7 := { stood := { row := wordsTextsUptoRow, standIns := [], harness := (true, "99ccc8cd7e502a9c1507b53d52865429ad67451cacff578cddb8a61d32d49b21"), looks := false }, kinds := [], alts := [], laidByText := true, laidKinds := [.data, .pinned], laidTests := true, laidLooks := .later }
def WordsTextsUptoCardSaid : Prop := Claim7.holds Tryd.pinned (.plain (OpenSpec.upto wordsTextsSpec)) wordsTextsUptoCard

/-- THE SECOND FORM's CARD OF 'packhorselaw03.WordsRound'. -/
def wordsRoundUptoCard : Claim7 := { stood := { row := wordsRoundUptoRow, standIns := [], harness := (true, "99ccc8cd7e502a9c1507b53d52865429ad67451cacff578cddb8a61d32d49b21"), looks := false }, kinds := [], alts := [], laidByText := true, laidKinds := [.data, .pinned], laidTests := true, laidLooks := .later }
def WordsRoundUptoCardSaid : Prop := Claim7.holds Tryd.pinned (.plain (OpenSpec.upto wordsRoundSpec)) wordsRoundUptoCard

/-- THE SECOND FORM's CARD OF 'packhorselaw03.WordsLoose'. -/
def wordsLooseUptoCard : Claim7 := { stood := { row := wordsLooseUptoRow, standIns := [], harness := (true, "99ccc8cd7e502a9c1507b53d52865429ad67451cacff578cddb8a61d32d49b21"), looks := false }, kinds := [], alts := [], laidByText := true, laidKinds := [.data, .pinned], laidTests := true, laidLooks := .later }
def WordsLooseUptoCardSaid : Prop := Claim7.holds Tryd.pinned (.plain (OpenSpec.upto wordsLooseSpec)) wordsLooseUptoCard
end Rows
end Go.Proofs.YtbcofimmfbmkoaaDoor
