/-
  DERIVED. GIVEN WITH THE SEED: THE CARDS: each row of YtmfbkelhegdmpaaGreatDoorRows.lean that lists a variable, with what it lists TIED to the program's text (the seventh form; the later family's looks); each row that meets fmt, with fmt's text TOLD by the authors' own Lean function (tested against real Go, not proved from fmt's source: count such statements apart). THE CARD IS WHAT COUNTS. Prove the row's statement (the work); the ties are given (YtmfbkelhegdmpaaGreatDoorTie.lean); close each card by the builder's one call (the guide's Derived/Test/ToyasCard.lean, 'card_holds'). Laid BY PROGRAM, IN A SANDBOX (cutbox-door.mjs). By AI agents, Wed Nov 11 2026. No macro, syntax, notation, axiom, sorry.
-/
import Derived.Test.YtmfbkelhegdmpaaGreatDoorRows
import GoSem.ClaimSeven
namespace Go.Proofs.YtmfbkelhegdmpaaGreatDoor
namespace Rows

/-- THE TIED CARD OF 'packhorselaw13.SnapMakes'. -/
def snapMakesCard : Claim7 := { stood := { row := snapMakesRow, standIns := [], harness := (true, "d0b2739ec4bb48b3c805889f632ce47875d7903fd3a242547c5c2918ce9e3dda"), looks := true }, kinds := [], alts := [], laidByText := true, laidKinds := [.data, .data, .pinned], laidTests := true, laidLooks := .later }
def SnapMakesCardSaid : Prop := Claim7.holds Tryz.pinned (.plain (OpenSpec.ofChange snapMakesSpec)) snapMakesCard

/-- THE TIED CARD OF 'packhorselaw13.SnapRecovers'. -/
def snapRecoversCard : Claim7 := { stood := { row := snapRecoversRow, standIns := [], harness := (true, "d0b2739ec4bb48b3c805889f632ce47875d7903fd3a242547c5c2918ce9e3dda"), looks := true }, kinds := [], alts := [], laidByText := true, laidKinds := [.data, .data, .pinned], laidTests := true, laidLooks := .later }
def SnapRecoversCardSaid : Prop := Claim7.holds Tryz.pinned (.plain (OpenSpec.ofChange snapRecoversSpec)) snapRecoversCard

/-- THE TIED CARD OF 'packhorselaw13.SnapChanges'. -/
def snapChangesCard : Claim7 := { stood := { row := snapChangesRow, standIns := [], harness := (true, "d0b2739ec4bb48b3c805889f632ce47875d7903fd3a242547c5c2918ce9e3dda"), looks := true }, kinds := [], alts := [], laidByText := true, laidKinds := [.data, .data, .pinned], laidTests := true, laidLooks := .later }
def SnapChangesCardSaid : Prop := Claim7.holds Tryz.pinned (.plain (OpenSpec.ofChange snapChangesSpec)) snapChangesCard

/-- THE TIED CARD OF 'packhorselaw13.SnapKnown'. -/
def snapKnownCard : Claim7 := { stood := { row := snapKnownRow, standIns := [], harness := (true, "d0b2739ec4bb48b3c805889f632ce47875d7903fd3a242547c5c2918ce9e3dda"), looks := true }, kinds := [], alts := [], laidByText := true, laidKinds := [.data, .data, .pinned], laidTests := true, laidLooks := .later }
def SnapKnownCardSaid : Prop := Claim7.holds Tryz.pinned (.plain (OpenSpec.ofChange snapKnownSpec)) snapKnownCard

/-- THE TIED CARD OF 'packhorselaw13.SnapRecords'. -/
def snapRecordsCard : Claim7 := { stood := { row := snapRecordsRow, standIns := [], harness := (true, "d0b2739ec4bb48b3c805889f632ce47875d7903fd3a242547c5c2918ce9e3dda"), looks := true }, kinds := [], alts := [], laidByText := true, laidKinds := [.data, .data, .pinned], laidTests := true, laidLooks := .later }
def SnapRecordsCardSaid : Prop := Claim7.holds Tryz.pinned (.plain (OpenSpec.ofChange snapRecordsSpec)) snapRecordsCard

/-- THE TIED CARD OF 'packhorselaw13.SnapTorn'. -/
def snapTornCard : Claim7 := { stood := { row := snapTornRow, standIns := [], harness := (true, "d0b2739ec4bb48b3c805889f632ce47875d7903fd3a242547c5c2918ce9e3dda"), looks := true }, kinds := [], alts := [], laidByText := true, laidKinds := [.data, .data, .pinned], laidTests := true, laidLooks := .later }
def SnapTornCardSaid : Prop := Claim7.holds Tryz.pinned (.plain (OpenSpec.ofChange snapTornSpec)) snapTornCard

/-- THE TIED CARD OF 'packhorselaw13.SnapCompacts'. -/
def snapCompactsCard : Claim7 := { stood := { row := snapCompactsRow, standIns := [], harness := (true, "d0b2739ec4bb48b3c805889f632ce47875d7903fd3a242547c5c2918ce9e3dda"), looks := true }, kinds := [], alts := [], laidByText := true, laidKinds := [.data, .data, .pinned], laidTests := true, laidLooks := .later }
def SnapCompactsCardSaid : Prop := Claim7.holds Tryz.pinned (.plain (OpenSpec.ofChange snapCompactsSpec)) snapCompactsCard

/-- THE SECOND FORM's CARD OF 'packhorselaw13.SnapMakes'. -/
def snapMakesUptoCard : Claim7 := { stood := { row := snapMakesUptoRow, standIns := [], harness := (true, "d0b2739ec4bb48b3c805889f632ce47875d7903fd3a242547c5c2918ce9e3dda"), looks := true }, kinds := [], alts := [], laidByText := true, laidKinds := [.data, .data, .pinned], laidTests := true, laidLooks := .later }
def SnapMakesUptoCardSaid : Prop := Claim7.holds Tryz.pinned (.plain (OpenSpec.upto snapMakesSpec)) snapMakesUptoCard

/-- THE SECOND FORM's CARD OF 'packhorselaw13.SnapRecovers'. -/
def snapRecoversUptoCard : Claim7 := { stood := { row := snapRecoversUptoRow, standIns := [], harness := (true, "d0b2739ec4bb48b3c805889f632ce47875d7903fd3a242547c5c2918ce9e3dda"), looks := true }, kinds := [], alts := [], laidByText := true, laidKinds := [.data, .data, .pinned], laidTests := true, laidLooks := .later }
def SnapRecoversUptoCardSaid : Prop := Claim7.holds Tryz.pinned (.plain (OpenSpec.upto snapRecoversSpec)) snapRecoversUptoCard

/-- THE SECOND FORM's CARD OF 'packhorselaw13.SnapChanges'. -/
def snapChangesUptoCard : Claim7 := { stood := { row := snapChangesUptoRow, standIns := [], harness := (true, "d0b2739ec4bb48b3c805889f632ce47875d7903fd3a242547c5c2918ce9e3dda"), looks := true }, kinds := [], alts := [], laidByText := true, laidKinds := [.data, .data, .pinned], laidTests := true, laidLooks := .later }
def SnapChangesUptoCardSaid : Prop := Claim7.holds Tryz.pinned (.plain (OpenSpec.upto snapChangesSpec)) snapChangesUptoCard

/-- THE SECOND FORM's CARD OF 'packhorselaw13.SnapKnown'. -/
def snapKnownUptoCard : Claim7 := { stood := { row := snapKnownUptoRow, standIns := [], harness := (true, "d0b2739ec4bb48b3c805889f632ce47875d7903fd3a242547c5c2918ce9e3dda"), looks := true }, kinds := [], alts := [], laidByText := true, laidKinds := [.data, .data, .pinned], laidTests := true, laidLooks := .later }
def SnapKnownUptoCardSaid : Prop := Claim7.holds Tryz.pinned (.plain (OpenSpec.upto snapKnownSpec)) snapKnownUptoCard

/-- THE SECOND FORM's CARD OF 'packhorselaw13.SnapRecords'. -/
def snapRecordsUptoCard : Claim7 := { stood := { row := snapRecordsUptoRow, standIns := [], harness := (true, "d0b2739ec4bb48b3c805889f632ce47875d7903fd3a242547c5c2918ce9e3dda"), looks := true }, kinds := [], alts := [], laidByText := true, laidKinds := [.data, .data, .pinned], laidTests := true, laidLooks := .later }
def SnapRecordsUptoCardSaid : Prop := Claim7.holds Tryz.pinned (.plain (OpenSpec.upto snapRecordsSpec)) snapRecordsUptoCard

/-- THE SECOND FORM's CARD OF 'packhorselaw13.SnapTorn'. -/
def snapTornUptoCard : Claim7 := { stood := { row := snapTornUptoRow, standIns := [], harness := (true, "d0b2739ec4bb48b3c805889f632ce47875d7903fd3a242547c5c2918ce9e3dda"), looks := true }, kinds := [], alts := [], laidByText := true, laidKinds := [.data, .data, .pinned], laidTests := true, laidLooks := .later }
def SnapTornUptoCardSaid : Prop := Claim7.holds Tryz.pinned (.plain (OpenSpec.upto snapTornSpec)) snapTornUptoCard

/-- THE SECOND FORM's CARD OF 'packhorselaw13.SnapCompacts'. -/
def snapCompactsUptoCard : Claim7 := { stood := { row := snapCompactsUptoRow, standIns := [], harness := (true, "d0b2739ec4bb48b3c805889f632ce47875d7903fd3a242547c5c2918ce9e3dda"), looks := true }, kinds := [], alts := [], laidByText := true, laidKinds := [.data, .data, .pinned], laidTests := true, laidLooks := .later }
def SnapCompactsUptoCardSaid : Prop := Claim7.holds Tryz.pinned (.plain (OpenSpec.upto snapCompactsSpec)) snapCompactsUptoCard
end Rows
end Go.Proofs.YtmfbkelhegdmpaaGreatDoor
