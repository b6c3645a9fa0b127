/-
  DERIVED. GIVEN WITH THE SEED: THE CARDS: each row of YtkgenpoenpkpeaaDoorRows.lean that lists a variable, with what it lists TIED to the program's text (the seventh form; the later family's looks); each row that meets fmt, with fmt's text TOLD by the authors' own Lean function (tested against real Go, not proved from fmt's source: count such statements apart). THE CARD IS WHAT COUNTS. Prove the row's statement (the work); the ties are given (YtkgenpoenpkpeaaDoorTie.lean); close each card by the builder's one call (the guide's Derived/Test/ToyasCard.lean, 'card_holds'). Laid BY PROGRAM, IN A SANDBOX (cutbox-door.mjs). By AI agents, Wed Nov 11 2026. No macro, syntax, notation, axiom, sorry.
-/
import Derived.Test.YtkgenpoenpkpeaaDoorRows
import GoSem.ClaimSeven
namespace Go.Proofs.YtkgenpoenpkpeaaDoor
namespace Rows

/-- THE TIED CARD OF 'packhorselaw02.SumXors'. -/
def sumXorsCard : Claim7 := { stood := { row := sumXorsRow, standIns := [], harness := (true, "35e1681bd9896dc76bfd45ef2cd07c5ece5f9d00c0c472dc96d284094afaaa0c"), looks := false }, kinds := [], alts := [], laidByText := true, laidKinds := [.data], laidTests := true, laidLooks := .later }
def SumXorsCardSaid : Prop := Claim7.holds Tryd.pinned (.plain (OpenSpec.ofChange sumXorsSpec)) sumXorsCard

/-- THE TIED CARD OF 'packhorselaw02.SumSums'. -/
def sumSumsCard : Claim7 := { stood := { row := sumSumsRow, standIns := [], harness := (true, "35e1681bd9896dc76bfd45ef2cd07c5ece5f9d00c0c472dc96d284094afaaa0c"), looks := false }, kinds := [], alts := [], laidByText := true, laidKinds := [.data], laidTests := true, laidLooks := .later }
def SumSumsCardSaid : Prop := Claim7.holds Tryd.pinned (.plain (OpenSpec.ofChange sumSumsSpec)) sumSumsCard

/-- THE TIED CARD OF 'packhorselaw02.SumBursts'. -/
def sumBurstsCard : Claim7 := { stood := { row := sumBurstsRow, standIns := [], harness := (true, "35e1681bd9896dc76bfd45ef2cd07c5ece5f9d00c0c472dc96d284094afaaa0c"), looks := false }, kinds := [], alts := [], laidByText := true, laidKinds := [.data], laidTests := true, laidLooks := .later }
def SumBurstsCardSaid : Prop := Claim7.holds Tryd.pinned (.plain (OpenSpec.ofChange sumBurstsSpec)) sumBurstsCard

/-- THE TIED CARD OF 'packhorselaw02.SumFixes'. -/
def sumFixesCard : Claim7 := { stood := { row := sumFixesRow, standIns := [], harness := (true, "35e1681bd9896dc76bfd45ef2cd07c5ece5f9d00c0c472dc96d284094afaaa0c"), looks := false }, kinds := [], alts := [], laidByText := true, laidKinds := [.data], laidTests := true, laidLooks := .later }
def SumFixesCardSaid : Prop := Claim7.holds Tryd.pinned (.plain (OpenSpec.ofChange sumFixesSpec)) sumFixesCard

/-- THE TIED CARD OF 'packhorselaw02.SumOnly'. -/
def sumOnlyCard : Claim7 := { stood := { row := sumOnlyRow, standIns := [], harness := (true, "35e1681bd9896dc76bfd45ef2cd07c5ece5f9d00c0c472dc96d284094afaaa0c"), looks := false }, kinds := [], alts := [], laidByText := true, laidKinds := [.data], laidTests := true, laidLooks := .later }
def SumOnlyCardSaid : Prop := Claim7.holds Tryd.pinned (.plain (OpenSpec.ofChange sumOnlySpec)) sumOnlyCard

/-- THE TIED CARD OF 'packhorselaw02.SumJoins'. -/
def sumJoinsCard : Claim7 := { stood := { row := sumJoinsRow, standIns := [], harness := (true, "35e1681bd9896dc76bfd45ef2cd07c5ece5f9d00c0c472dc96d284094afaaa0c"), looks := false }, kinds := [], alts := [], laidByText := true, laidKinds := [.data], laidTests := true, laidLooks := .later }
def SumJoinsCardSaid : Prop := Claim7.holds Tryd.pinned (.plain (OpenSpec.ofChange sumJoinsSpec)) sumJoinsCard

/-- THE TIED CARD OF 'packhorselaw02.SumParts'. -/
def sumPartsCard : Claim7 := { stood := { row := sumPartsRow, standIns := [], harness := (true, "35e1681bd9896dc76bfd45ef2cd07c5ece5f9d00c0c472dc96d284094afaaa0c"), looks := false }, kinds := [], alts := [], laidByText := true, laidKinds := [.data], laidTests := true, laidLooks := .later }
def SumPartsCardSaid : Prop := Claim7.holds Tryd.pinned (.plain (OpenSpec.ofChange sumPartsSpec)) sumPartsCard

/-- THE TIED CARD OF 'packhorselaw02.SumKnown'. -/
def sumKnownCard : Claim7 := { stood := { row := sumKnownRow, standIns := [], harness := (true, "35e1681bd9896dc76bfd45ef2cd07c5ece5f9d00c0c472dc96d284094afaaa0c"), looks := false }, kinds := [], alts := [], laidByText := true, laidKinds := [.data], laidTests := true, laidLooks := .later }
def SumKnownCardSaid : Prop := Claim7.holds Tryd.pinned (.plain (OpenSpec.ofChange sumKnownSpec)) sumKnownCard

/-- THE SECOND FORM's CARD OF 'packhorselaw02.SumXors'. -/
def sumXorsUptoCard : Claim7 := { stood := { row := sumXorsUptoRow, standIns := [], harness := (true, "35e1681bd9896dc76bfd45ef2cd07c5ece5f9d00c0c472dc96d284094afaaa0c"), looks := false }, kinds := [], alts := [], laidByText := true, laidKinds := [.data], laidTests := true, laidLooks := .later }
def SumXorsUptoCardSaid : Prop := Claim7.holds Tryd.pinned (.plain (OpenSpec.upto sumXorsSpec)) sumXorsUptoCard

/-- THE SECOND FORM's CARD OF 'packhorselaw02.SumSums'. -/
def sumSumsUptoCard : Claim7 := { stood := { row := sumSumsUptoRow, standIns := [], harness := (true, "35e1681bd9896dc76bfd45ef2cd07c5ece5f9d00c0c472dc96d284094afaaa0c"), looks := false }, kinds := [], alts := [], laidByText := true, laidKinds := [.data], laidTests := true, laidLooks := .later }
def SumSumsUptoCardSaid : Prop := Claim7.holds Tryd.pinned (.plain (OpenSpec.upto sumSumsSpec)) sumSumsUptoCard

/-- THE SECOND FORM's CARD OF 'packhorselaw02.SumBursts'. -/
def sumBurstsUptoCard : Claim7 := { stood := { row := sumBurstsUptoRow, standIns := [], harness := (true, "35e1681bd9896dc76bfd45ef2cd07c5ece5f9d00c0c472dc96d284094afaaa0c"), looks := false }, kinds := [], alts := [], laidByText := true, laidKinds := [.data], laidTests := true, laidLooks := .later }
def SumBurstsUptoCardSaid : Prop := Claim7.holds Tryd.pinned (.plain (OpenSpec.upto sumBurstsSpec)) sumBurstsUptoCard

/-- THE SECOND FORM's CARD OF 'packhorselaw02.SumFixes'. -/
def sumFixesUptoCard : Claim7 := { stood := { row := sumFixesUptoRow, standIns := [], harness := (true, "35e1681bd9896dc76bfd45ef2cd07c5ece5f9d00c0c472dc96d284094afaaa0c"), looks := false }, kinds := [], alts := [], laidByText := true, laidKinds := [.data], laidTests := true, laidLooks := .later }
def SumFixesUptoCardSaid : Prop := Claim7.holds Tryd.pinned (.plain (OpenSpec.upto sumFixesSpec)) sumFixesUptoCard

/-- THE SECOND FORM's CARD OF 'packhorselaw02.SumOnly'. -/
def sumOnlyUptoCard : Claim7 := { stood := { row := sumOnlyUptoRow, standIns := [], harness := (true, "35e1681bd9896dc76bfd45ef2cd07c5ece5f9d00c0c472dc96d284094afaaa0c"), looks := false }, kinds := [], alts := [], laidByText := true, laidKinds := [.data], laidTests := true, laidLooks := .later }
def SumOnlyUptoCardSaid : Prop := Claim7.holds Tryd.pinned (.plain (OpenSpec.upto sumOnlySpec)) sumOnlyUptoCard

/-- THE SECOND FORM's CARD OF 'packhorselaw02.SumJoins'. -/
def sumJoinsUptoCard : Claim7 := { stood := { row := sumJoinsUptoRow, standIns := [], harness := (true, "35e1681bd9896dc76bfd45ef2cd07c5ece5f9d00c0c472dc96d284094afaaa0c"), looks := false }, kinds := [], alts := [], laidByText := true, laidKinds := [.data], laidTests := true, laidLooks := .later }
def SumJoinsUptoCardSaid : Prop := Claim7.holds Tryd.pinned (.plain (OpenSpec.upto sumJoinsSpec)) sumJoinsUptoCard

/-- THE SECOND FORM's CARD OF 'packhorselaw02.SumParts'. -/
def sumPartsUptoCard : Claim7 := { stood := { row := sumPartsUptoRow, standIns := [], harness := (true, "35e1681bd9896dc76bfd45ef2cd07c5ece5f9d00c0c472dc96d284094afaaa0c"), looks := false }, kinds := [], alts := [], laidByText := true, laidKinds := [.data], laidTests := true, laidLooks := .later }
def SumPartsUptoCardSaid : Prop := Claim7.holds Tryd.pinned (.plain (OpenSpec.upto sumPartsSpec)) sumPartsUptoCard

/-- THE SECOND FORM's CARD OF 'packhorselaw02.SumKnown'. -/
def sumKnownUptoCard : Claim7 := { stood := { row := sumKnownUptoRow, standIns := [], harness := (true, "35e1681bd9896dc76bfd45ef2cd07c5ece5f9d00c0c472dc96d284094afaaa0c"), looks := false }, kinds := [], alts := [], laidByText := true, laidKinds := [.data], laidTests := true, laidLooks := .later }
def SumKnownUptoCardSaid : Prop := Claim7.holds Tryd.pinned (.plain (OpenSpec.upto sumKnownSpec)) sumKnownUptoCard
end Rows
end Go.Proofs.YtkgenpoenpkpeaaDoor
