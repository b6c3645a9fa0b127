/-
  DERIVED. GIVEN WITH THE SEED: THE CARDS: each row of YtcpahelmaejjeaaDoorRows.lean that lists a variable, with what it lists TIED to the program's text (the seventh form; the later family's looks); each row that meets fmt, with fmt's text TOLD by the authors' own Lean function (tested against real Go, not proved from fmt's source: count such statements apart). THE CARD IS WHAT COUNTS. Prove the row's statement (the work); the ties are given (YtcpahelmaejjeaaDoorTie.lean); close each card by the builder's one call (the guide's Derived/Test/ToyasCard.lean, 'card_holds'). Laid BY PROGRAM, IN A SANDBOX (cutbox-door.mjs). By AI agents, Wed Nov 11 2026. No macro, syntax, notation, axiom, sorry.
-/
import Derived.Test.YtcpahelmaejjeaaDoorRows
import GoSem.ClaimSeven
namespace Go.Proofs.YtcpahelmaejjeaaDoor
namespace Rows

/-- THE TIED CARD OF 'packhorselaw10.StuffBack'. -/
def stuffBackCard : Claim7 := { stood := { row := stuffBackRow, standIns := [], harness := (true, "d305100c0c6b3e7fcf6c747fde20fcc54cc8157fd8d2d621ef16b73637ca8ef8"), looks := false }, kinds := [], alts := [], laidByText := true, laidKinds := [.sentinel], laidTests := true, laidLooks := .later }
def StuffBackCardSaid : Prop := Claim7.holds Tryd.pinned (.plain (OpenSpec.ofChange stuffBackSpec)) stuffBackCard

/-- THE TIED CARD OF 'packhorselaw10.StuffOnly'. -/
def stuffOnlyCard : Claim7 := { stood := { row := stuffOnlyRow, standIns := [], harness := (true, "d305100c0c6b3e7fcf6c747fde20fcc54cc8157fd8d2d621ef16b73637ca8ef8"), looks := false }, kinds := [], alts := [], laidByText := true, laidKinds := [.sentinel], laidTests := true, laidLooks := .later }
def StuffOnlyCardSaid : Prop := Claim7.holds Tryd.pinned (.plain (OpenSpec.ofChange stuffOnlySpec)) stuffOnlyCard

/-- THE TIED CARD OF 'packhorselaw10.StuffPuts'. -/
def stuffPutsCard : Claim7 := { stood := { row := stuffPutsRow, standIns := [], harness := (true, "d305100c0c6b3e7fcf6c747fde20fcc54cc8157fd8d2d621ef16b73637ca8ef8"), looks := false }, kinds := [], alts := [], laidByText := true, laidKinds := [.sentinel], laidTests := true, laidLooks := .later }
def StuffPutsCardSaid : Prop := Claim7.holds Tryd.pinned (.plain (OpenSpec.ofChange stuffPutsSpec)) stuffPutsCard

/-- THE TIED CARD OF 'packhorselaw10.StuffSplits'. -/
def stuffSplitsCard : Claim7 := { stood := { row := stuffSplitsRow, standIns := [], harness := (true, "d305100c0c6b3e7fcf6c747fde20fcc54cc8157fd8d2d621ef16b73637ca8ef8"), looks := false }, kinds := [], alts := [], laidByText := true, laidKinds := [.sentinel], laidTests := true, laidLooks := .later }
def StuffSplitsCardSaid : Prop := Claim7.holds Tryd.pinned (.plain (OpenSpec.ofChange stuffSplitsSpec)) stuffSplitsCard

/-- THE TIED CARD OF 'packhorselaw10.StuffFinds'. -/
def stuffFindsCard : Claim7 := { stood := { row := stuffFindsRow, standIns := [], harness := (true, "d305100c0c6b3e7fcf6c747fde20fcc54cc8157fd8d2d621ef16b73637ca8ef8"), looks := false }, kinds := [], alts := [], laidByText := true, laidKinds := [.sentinel], laidTests := true, laidLooks := .later }
def StuffFindsCardSaid : Prop := Claim7.holds Tryd.pinned (.plain (OpenSpec.ofChange stuffFindsSpec)) stuffFindsCard

/-- THE TIED CARD OF 'packhorselaw10.StuffFeeds'. -/
def stuffFeedsCard : Claim7 := { stood := { row := stuffFeedsRow, standIns := [], harness := (true, "d305100c0c6b3e7fcf6c747fde20fcc54cc8157fd8d2d621ef16b73637ca8ef8"), looks := false }, kinds := [], alts := [], laidByText := true, laidKinds := [.sentinel], laidTests := true, laidLooks := .later }
def StuffFeedsCardSaid : Prop := Claim7.holds Tryd.pinned (.plain (OpenSpec.ofChange stuffFeedsSpec)) stuffFeedsCard

/-- THE TIED CARD OF 'packhorselaw10.StuffPieces'. -/
def stuffPiecesCard : Claim7 := { stood := { row := stuffPiecesRow, standIns := [], harness := (true, "d305100c0c6b3e7fcf6c747fde20fcc54cc8157fd8d2d621ef16b73637ca8ef8"), looks := false }, kinds := [], alts := [], laidByText := true, laidKinds := [.sentinel], laidTests := true, laidLooks := .later }
def StuffPiecesCardSaid : Prop := Claim7.holds Tryd.pinned (.plain (OpenSpec.ofChange stuffPiecesSpec)) stuffPiecesCard

/-- THE TIED CARD OF 'packhorselaw10.StuffKnown'. -/
def stuffKnownCard : Claim7 := { stood := { row := stuffKnownRow, standIns := [], harness := (true, "d305100c0c6b3e7fcf6c747fde20fcc54cc8157fd8d2d621ef16b73637ca8ef8"), looks := false }, kinds := [], alts := [], laidByText := true, laidKinds := [.sentinel], laidTests := true, laidLooks := .later }
def StuffKnownCardSaid : Prop := Claim7.holds Tryd.pinned (.plain (OpenSpec.ofChange stuffKnownSpec)) stuffKnownCard

/-- THE SECOND FORM's CARD OF 'packhorselaw10.StuffBack'. -/
def stuffBackUptoCard : Claim7 := { stood := { row := stuffBackUptoRow, standIns := [], harness := (true, "d305100c0c6b3e7fcf6c747fde20fcc54cc8157fd8d2d621ef16b73637ca8ef8"), looks := false }, kinds := [], alts := [], laidByText := true, laidKinds := [.sentinel], laidTests := true, laidLooks := .later }
def StuffBackUptoCardSaid : Prop := Claim7.holds Tryd.pinned (.plain (OpenSpec.upto stuffBackSpec)) stuffBackUptoCard

/-- THE SECOND FORM's CARD OF 'packhorselaw10.StuffOnly'. -/
def stuffOnlyUptoCard : Claim7 := { stood := { row := stuffOnlyUptoRow, standIns := [], harness := (true, "d305100c0c6b3e7fcf6c747fde20fcc54cc8157fd8d2d621ef16b73637ca8ef8"), looks := false }, kinds := [], alts := [], laidByText := true, laidKinds := [.sentinel], laidTests := true, laidLooks := .later }
def StuffOnlyUptoCardSaid : Prop := Claim7.holds Tryd.pinned (.plain (OpenSpec.upto stuffOnlySpec)) stuffOnlyUptoCard

/-- THE SECOND FORM's CARD OF 'packhorselaw10.StuffPuts'. -/
def stuffPutsUptoCard : Claim7 := { stood := { row := stuffPutsUptoRow, standIns := [], harness := (true, "d305100c0c6b3e7fcf6c747fde20fcc54cc8157fd8d2d621ef16b73637ca8ef8"), looks := false }, kinds := [], alts := [], laidByText := true, laidKinds := [.sentinel], laidTests := true, laidLooks := .later }
def StuffPutsUptoCardSaid : Prop := Claim7.holds Tryd.pinned (.plain (OpenSpec.upto stuffPutsSpec)) stuffPutsUptoCard

/-- THE SECOND FORM's CARD OF 'packhorselaw10.StuffSplits'. -/
def stuffSplitsUptoCard : Claim7 := { stood := { row := stuffSplitsUptoRow, standIns := [], harness := (true, "d305100c0c6b3e7fcf6c747fde20fcc54cc8157fd8d2d621ef16b73637ca8ef8"), looks := false }, kinds := [], alts := [], laidByText := true, laidKinds := [.sentinel], laidTests := true, laidLooks := .later }
def StuffSplitsUptoCardSaid : Prop := Claim7.holds Tryd.pinned (.plain (OpenSpec.upto stuffSplitsSpec)) stuffSplitsUptoCard

/-- THE SECOND FORM's CARD OF 'packhorselaw10.StuffFinds'. -/
def stuffFindsUptoCard : Claim7 := { stood := { row := stuffFindsUptoRow, standIns := [], harness := (true, "d305100c0c6b3e7fcf6c747fde20fcc54cc8157fd8d2d621ef16b73637ca8ef8"), looks := false }, kinds := [], alts := [], laidByText := true, laidKinds := [.sentinel], laidTests := true, laidLooks := .later }
def StuffFindsUptoCardSaid : Prop := Claim7.holds Tryd.pinned (.plain (OpenSpec.upto stuffFindsSpec)) stuffFindsUptoCard

/-- THE SECOND FORM's CARD OF 'packhorselaw10.StuffFeeds'. -/
def stuffFeedsUptoCard : Claim7 := { stood := { row := stuffFeedsUptoRow, standIns := [], harness := (true, "d305100c0c6b3e7fcf6c747fde20fcc54cc8157fd8d2d621ef16b73637ca8ef8"), looks := false }, kinds := [], alts := [], laidByText := true, laidKinds := [.sentinel], laidTests := true, laidLooks := .later }
def StuffFeedsUptoCardSaid : Prop := Claim7.holds Tryd.pinned (.plain (OpenSpec.upto stuffFeedsSpec)) stuffFeedsUptoCard

/-- THE SECOND FORM's CARD OF 'packhorselaw10.StuffPieces'. -/
def stuffPiecesUptoCard : Claim7 := { stood := { row := stuffPiecesUptoRow, standIns := [], harness := (true, "d305100c0c6b3e7fcf6c747fde20fcc54cc8157fd8d2d621ef16b73637ca8ef8"), looks := false }, kinds := [], alts := [], laidByText := true, laidKinds := [.sentinel], laidTests := true, laidLooks := .later }
def StuffPiecesUptoCardSaid : Prop := Claim7.holds Tryd.pinned (.plain (OpenSpec.upto stuffPiecesSpec)) stuffPiecesUptoCard

/-- THE SECOND FORM's CARD OF 'packhorselaw10.StuffKnown'. -/
def stuffKnownUptoCard : Claim7 := { stood := { row := stuffKnownUptoRow, standIns := [], harness := (true, "d305100c0c6b3e7fcf6c747fde20fcc54cc8157fd8d2d621ef16b73637ca8ef8"), looks := false }, kinds := [], alts := [], laidByText := true, laidKinds := [.sentinel], laidTests := true, laidLooks := .later }
def StuffKnownUptoCardSaid : Prop := Claim7.holds Tryd.pinned (.plain (OpenSpec.upto stuffKnownSpec)) stuffKnownUptoCard
end Rows
end Go.Proofs.YtcpahelmaejjeaaDoor
