/-
  NARROWER THAN 'FOR EVERY INPUT', by the rows' own cells (each row's printed sentence says how): SnapMakes: laid · SnapRecovers: laid · SnapChanges: laid · SnapKnown: laid · SnapRecords: laid · SnapTorn: laid · SnapCompacts: laid.
  DERIVED. THE GIVEN ROWS OF THIS SEAT. 7 by the template 'for every input the law returns true; each argument reads behind the call as it read before'; 0 by the template 'total and deterministic' (their statements: YtmfbkelhegdmpaaGreatDoorTotals.lean).
  GIVEN WITH THE SEED: the statements are not yours to turn. If you find one false, say at which input.
  Laid BY PROGRAM, IN A SANDBOX (cutbox-rows.mjs): the forced cells as the released guide's own fill.sh prints them over the translation 497602a6f2ed12e0… (all of the seat's roots in one cut). By AI agents, Wed Nov 11 2026. No macro, syntax, notation, axiom, sorry.
-/
import Derived.Test.YtmfbkelhegdmpaaGreatDoorChecked
import GoSem.PinnedTables
import GoSem.Claim
import GoSem.ClaimJoined
import GoSem.ClaimMapViews
import Derived.JoinedTies
import Derived.KernelRfl
namespace Go.Proofs.YtmfbkelhegdmpaaGreatDoor
/- THE CELL 'sum', in the pinned program and in every row, IS THE sha256 OF THE DUMP (.gsa) THAT YtmfbkelhegdmpaaGreatDoorProg.lean LOADS. Nothing in Lean hashes anything: it is a label: what it is worth is what the hold of that sum in a sandbox is worth. -/
noncomputable def Tryz.pinned : Pinned := { name := "ytmfbkelhegdmpaagreatdoor", sum := "497602a6f2ed12e049cc6a515d009ecfaf2346b200996e5f8541f35ac90a0873", checked := Tryz.checked }
namespace Rows
def none {H : Type} : Left H := { results := [], args := [] }

/- WHAT THE LISTED PACKAGE-LEVEL VARIABLES READ AS WHEN THE CALL BEGINS. Each datum BY PROGRAM (the guide's laid-datum.mjs) off the statement by which the dump's own 'gosem.cut.vars' lays the variable. In a bare row this is a premise. The card (YtmfbkelhegdmpaaGreatDoorCards.lean) ties it to the program's text. -/
def laid_packhorse_sum_table {H : Type} : DataW H := .agg [.lit (.int .u32 0), .lit (.int .u32 274646895), .lit (.int .u32 549293790), .lit (.int .u32 820201905), .lit (.int .u32 1098587580), .lit (.int .u32 1361435347), .lit (.int .u32 1640403810), .lit (.int .u32 1905808397), .lit (.int .u32 2197175160), .lit (.int .u32 2460548119), .lit (.int .u32 2722870694), .lit (.int .u32 2987750089), .lit (.int .u32 3280807620), .lit (.int .u32 3553878443), .lit (.int .u32 3811616794), .lit (.int .u32 4084100981)]
def laid_unicode_utf8_acceptRanges {H : Type} : DataW H := .agg [.agg [.lit (.int .u8 128), .lit (.int .u8 191)], .agg [.lit (.int .u8 160), .lit (.int .u8 191)], .agg [.lit (.int .u8 128), .lit (.int .u8 159)], .agg [.lit (.int .u8 144), .lit (.int .u8 191)], .agg [.lit (.int .u8 128), .lit (.int .u8 143)], .agg [.lit (.int .u8 0), .lit (.int .u8 0)], .agg [.lit (.int .u8 0), .lit (.int .u8 0)], .agg [.lit (.int .u8 0), .lit (.int .u8 0)], .agg [.lit (.int .u8 0), .lit (.int .u8 0)], .agg [.lit (.int .u8 0), .lit (.int .u8 0)], .agg [.lit (.int .u8 0), .lit (.int .u8 0)], .agg [.lit (.int .u8 0), .lit (.int .u8 0)], .agg [.lit (.int .u8 0), .lit (.int .u8 0)], .agg [.lit (.int .u8 0), .lit (.int .u8 0)], .agg [.lit (.int .u8 0), .lit (.int .u8 0)], .agg [.lit (.int .u8 0), .lit (.int .u8 0)]]
/-- One of Go's own tables, pinned by name: the form's constant. -/
def laid_unicode_utf8_first : DataW Unit := Go.Pinned.utf8First

/-- 'packhorselaw13.SnapMakes': WHATEVER THE INPUT: true; the input reads as it did. -/
def snapMakesSpec : ChangeSpec := { name := "snapMakes", fn := fun _ => fun
  | [d1, d2] => { results := [.lit (.bool true)], args := [d1, d2] }
  | _ => none }
def snapMakesRow : OpenClaim := { program := "ytmfbkelhegdmpaagreatdoor", sum := "497602a6f2ed12e049cc6a515d009ecfaf2346b200996e5f8541f35ac90a0873", func := "packhorse/packhorselaw13.SnapMakes", spec := "snapMakes", inPlace := ["internal/bytealg.IndexByteString", "internal/bytealg.IndexString", "internal/abi.NoEscape", "internal/bytealg.MakeNoZero"], unfollowed := true, recurses := true, named := ["packhorse/sum.table", "unicode/utf8.first", "unicode/utf8.acceptRanges", "internal/bytealg.MaxLen"], apart := false, laid := [("packhorse/sum.table", laid_packhorse_sum_table), ("unicode/utf8.acceptRanges", laid_unicode_utf8_acceptRanges), ("unicode/utf8.first", laid_unicode_utf8_first)] }
def SnapMakesSaid : Prop := snapMakesRow.holds Tryz.pinned (OpenSpec.ofChange snapMakesSpec)

/-- ITS FALSE NEIGHBOUR: 'it returns false'. Refute it at one input. -/
def snapMakesWrong : ChangeSpec := { name := "snapMakes", fn := fun _ => fun
  | [d1, d2] => { results := [.lit (.bool false)], args := [d1, d2] }
  | _ => none }
def SnapMakesWrongFalsely : Prop := snapMakesRow.holds Tryz.pinned (OpenSpec.ofChange snapMakesWrong)

/-- 'packhorselaw13.SnapRecovers': WHATEVER THE INPUT: true; the input reads as it did. -/
def snapRecoversSpec : ChangeSpec := { name := "snapRecovers", fn := fun _ => fun
  | [d] => { results := [.lit (.bool true)], args := [d] }
  | _ => none }
def snapRecoversRow : OpenClaim := { program := "ytmfbkelhegdmpaagreatdoor", sum := "497602a6f2ed12e049cc6a515d009ecfaf2346b200996e5f8541f35ac90a0873", func := "packhorse/packhorselaw13.SnapRecovers", spec := "snapRecovers", inPlace := ["internal/bytealg.IndexByteString", "internal/bytealg.IndexString", "internal/abi.NoEscape", "internal/bytealg.MakeNoZero"], unfollowed := true, recurses := true, named := ["packhorse/sum.table", "unicode/utf8.first", "unicode/utf8.acceptRanges", "internal/bytealg.MaxLen"], apart := false, laid := [("packhorse/sum.table", laid_packhorse_sum_table), ("unicode/utf8.acceptRanges", laid_unicode_utf8_acceptRanges), ("unicode/utf8.first", laid_unicode_utf8_first)] }
def SnapRecoversSaid : Prop := snapRecoversRow.holds Tryz.pinned (OpenSpec.ofChange snapRecoversSpec)

/-- ITS FALSE NEIGHBOUR: 'it returns false'. Refute it at one input. -/
def snapRecoversWrong : ChangeSpec := { name := "snapRecovers", fn := fun _ => fun
  | [d] => { results := [.lit (.bool false)], args := [d] }
  | _ => none }
def SnapRecoversWrongFalsely : Prop := snapRecoversRow.holds Tryz.pinned (OpenSpec.ofChange snapRecoversWrong)

/-- 'packhorselaw13.SnapChanges': WHATEVER THE INPUT: true; the input reads as it did. -/
def snapChangesSpec : ChangeSpec := { name := "snapChanges", fn := fun _ => fun
  | [d1, d2, d3] => { results := [.lit (.bool true)], args := [d1, d2, d3] }
  | _ => none }
def snapChangesRow : OpenClaim := { program := "ytmfbkelhegdmpaagreatdoor", sum := "497602a6f2ed12e049cc6a515d009ecfaf2346b200996e5f8541f35ac90a0873", func := "packhorse/packhorselaw13.SnapChanges", spec := "snapChanges", inPlace := ["internal/bytealg.IndexByteString", "internal/bytealg.IndexString", "internal/abi.NoEscape", "internal/bytealg.MakeNoZero"], unfollowed := true, recurses := true, named := ["packhorse/sum.table", "unicode/utf8.first", "unicode/utf8.acceptRanges", "internal/bytealg.MaxLen"], apart := false, laid := [("packhorse/sum.table", laid_packhorse_sum_table), ("unicode/utf8.acceptRanges", laid_unicode_utf8_acceptRanges), ("unicode/utf8.first", laid_unicode_utf8_first)] }
def SnapChangesSaid : Prop := snapChangesRow.holds Tryz.pinned (OpenSpec.ofChange snapChangesSpec)

/-- ITS FALSE NEIGHBOUR: 'it returns false'. Refute it at one input. -/
def snapChangesWrong : ChangeSpec := { name := "snapChanges", fn := fun _ => fun
  | [d1, d2, d3] => { results := [.lit (.bool false)], args := [d1, d2, d3] }
  | _ => none }
def SnapChangesWrongFalsely : Prop := snapChangesRow.holds Tryz.pinned (OpenSpec.ofChange snapChangesWrong)

/-- 'packhorselaw13.SnapKnown': WHATEVER THE INPUT: true; the input reads as it did. -/
def snapKnownSpec : ChangeSpec := { name := "snapKnown", fn := fun _ => fun
  | [] => { results := [.lit (.bool true)], args := [] }
  | _ => none }
def snapKnownRow : OpenClaim := { program := "ytmfbkelhegdmpaagreatdoor", sum := "497602a6f2ed12e049cc6a515d009ecfaf2346b200996e5f8541f35ac90a0873", func := "packhorse/packhorselaw13.SnapKnown", spec := "snapKnown", inPlace := ["internal/bytealg.IndexByteString", "internal/bytealg.IndexString", "internal/abi.NoEscape", "internal/bytealg.MakeNoZero"], unfollowed := true, recurses := true, named := ["packhorse/sum.table", "unicode/utf8.first", "unicode/utf8.acceptRanges", "internal/bytealg.MaxLen"], apart := false, laid := [("packhorse/sum.table", laid_packhorse_sum_table), ("unicode/utf8.acceptRanges", laid_unicode_utf8_acceptRanges), ("unicode/utf8.first", laid_unicode_utf8_first)] }
def SnapKnownSaid : Prop := snapKnownRow.holds Tryz.pinned (OpenSpec.ofChange snapKnownSpec)

/-- ITS FALSE NEIGHBOUR: 'it returns false'. Refute it at one input. -/
def snapKnownWrong : ChangeSpec := { name := "snapKnown", fn := fun _ => fun
  | [] => { results := [.lit (.bool false)], args := [] }
  | _ => none }
def SnapKnownWrongFalsely : Prop := snapKnownRow.holds Tryz.pinned (OpenSpec.ofChange snapKnownWrong)

/-- 'packhorselaw13.SnapRecords': WHATEVER THE INPUT: true; the input reads as it did. -/
def snapRecordsSpec : ChangeSpec := { name := "snapRecords", fn := fun _ => fun
  | [d] => { results := [.lit (.bool true)], args := [d] }
  | _ => none }
def snapRecordsRow : OpenClaim := { program := "ytmfbkelhegdmpaagreatdoor", sum := "497602a6f2ed12e049cc6a515d009ecfaf2346b200996e5f8541f35ac90a0873", func := "packhorse/packhorselaw13.SnapRecords", spec := "snapRecords", inPlace := ["internal/bytealg.IndexByteString", "internal/bytealg.IndexString", "internal/abi.NoEscape", "internal/bytealg.MakeNoZero"], unfollowed := true, recurses := true, named := ["packhorse/sum.table", "unicode/utf8.first", "unicode/utf8.acceptRanges", "internal/bytealg.MaxLen"], apart := false, laid := [("packhorse/sum.table", laid_packhorse_sum_table), ("unicode/utf8.acceptRanges", laid_unicode_utf8_acceptRanges), ("unicode/utf8.first", laid_unicode_utf8_first)] }
def SnapRecordsSaid : Prop := snapRecordsRow.holds Tryz.pinned (OpenSpec.ofChange snapRecordsSpec)

/-- ITS FALSE NEIGHBOUR: 'it returns false'. Refute it at one input. -/
def snapRecordsWrong : ChangeSpec := { name := "snapRecords", fn := fun _ => fun
  | [d] => { results := [.lit (.bool false)], args := [d] }
  | _ => none }
def SnapRecordsWrongFalsely : Prop := snapRecordsRow.holds Tryz.pinned (OpenSpec.ofChange snapRecordsWrong)

/-- 'packhorselaw13.SnapTorn': WHATEVER THE INPUT: true; the input reads as it did. -/
def snapTornSpec : ChangeSpec := { name := "snapTorn", fn := fun _ => fun
  | [d1, d2, d3] => { results := [.lit (.bool true)], args := [d1, d2, d3] }
  | _ => none }
def snapTornRow : OpenClaim := { program := "ytmfbkelhegdmpaagreatdoor", sum := "497602a6f2ed12e049cc6a515d009ecfaf2346b200996e5f8541f35ac90a0873", func := "packhorse/packhorselaw13.SnapTorn", spec := "snapTorn", inPlace := ["internal/bytealg.IndexByteString", "internal/bytealg.IndexString", "internal/abi.NoEscape", "internal/bytealg.MakeNoZero"], unfollowed := true, recurses := true, named := ["packhorse/sum.table", "unicode/utf8.first", "unicode/utf8.acceptRanges", "internal/bytealg.MaxLen"], apart := false, laid := [("packhorse/sum.table", laid_packhorse_sum_table), ("unicode/utf8.acceptRanges", laid_unicode_utf8_acceptRanges), ("unicode/utf8.first", laid_unicode_utf8_first)] }
def SnapTornSaid : Prop := snapTornRow.holds Tryz.pinned (OpenSpec.ofChange snapTornSpec)

/-- ITS FALSE NEIGHBOUR: 'it returns false'. Refute it at one input. -/
def snapTornWrong : ChangeSpec := { name := "snapTorn", fn := fun _ => fun
  | [d1, d2, d3] => { results := [.lit (.bool false)], args := [d1, d2, d3] }
  | _ => none }
def SnapTornWrongFalsely : Prop := snapTornRow.holds Tryz.pinned (OpenSpec.ofChange snapTornWrong)

/-- 'packhorselaw13.SnapCompacts': WHATEVER THE INPUT: true; the input reads as it did. -/
def snapCompactsSpec : ChangeSpec := { name := "snapCompacts", fn := fun _ => fun
  | [d1, d2, d3] => { results := [.lit (.bool true)], args := [d1, d2, d3] }
  | _ => none }
def snapCompactsRow : OpenClaim := { program := "ytmfbkelhegdmpaagreatdoor", sum := "497602a6f2ed12e049cc6a515d009ecfaf2346b200996e5f8541f35ac90a0873", func := "packhorse/packhorselaw13.SnapCompacts", spec := "snapCompacts", inPlace := ["internal/bytealg.IndexByteString", "internal/bytealg.IndexString", "internal/abi.NoEscape", "internal/bytealg.MakeNoZero"], unfollowed := true, recurses := true, named := ["packhorse/sum.table", "unicode/utf8.first", "unicode/utf8.acceptRanges", "internal/bytealg.MaxLen"], apart := false, laid := [("packhorse/sum.table", laid_packhorse_sum_table), ("unicode/utf8.acceptRanges", laid_unicode_utf8_acceptRanges), ("unicode/utf8.first", laid_unicode_utf8_first)] }
def SnapCompactsSaid : Prop := snapCompactsRow.holds Tryz.pinned (OpenSpec.ofChange snapCompactsSpec)

/-- ITS FALSE NEIGHBOUR: 'it returns false'. Refute it at one input. -/
def snapCompactsWrong : ChangeSpec := { name := "snapCompacts", fn := fun _ => fun
  | [d1, d2, d3] => { results := [.lit (.bool false)], args := [d1, d2, d3] }
  | _ => none }
def SnapCompactsWrongFalsely : Prop := snapCompactsRow.holds Tryz.pinned (OpenSpec.ofChange snapCompactsWrong)

/- THE SECOND FORM. 'bulk': how many values and letters a reading holds, each counted each time it is reached (what is shared counts as often as it is met; a slice's spare places count too). A statement '..UptoSaid' is the law's where the arguments, and the package variables that the reading takes, are together of bulk at most 1048576: NARROWER than '..Said'. Prove '..Said' where nothing that the law and all that it calls make is longer than what came in: it says more and counts as full. Else prove '..UptoSaid'. A law counts once. -/
mutual
def uptoBulk {H : Type} : DataW H → Nat
  | .lit (.string bytes) => bytes.length + 1
  | .lit _ => 1
  | .nil => 1
  | .ptr d => uptoBulk d + 1
  | .slice elems spare => uptoBulkAll elems + uptoBulkAll spare + 1
  | .agg parts => uptoBulkAll parts + 1
  | .iface _ d => uptoBulk d + 1
  | .map entries => uptoBulkEntries entries + 1
  | .held _ => 1
def uptoBulkAll {H : Type} : List (DataW H) → Nat
  | [] => 0
  | d :: r => uptoBulk d + uptoBulkAll r
def uptoBulkEntries {H : Type} : List (Lit × DataW H) → Nat
  | [] => 0
  | x :: r => uptoBulkEntry x + uptoBulkEntries r
def uptoBulkEntry {H : Type} : Lit × DataW H → Nat
  | (.string bytes, d) => bytes.length + uptoBulk d + 1
  | (_, d) => uptoBulk d + 1
 end
def uptoSmall : (H : Type) → List (DataW H) → Bool := fun _ ds => decide (uptoBulkAll ds ≤ 1048576)
def OpenSpec.upto (s : _root_.Go.ChangeSpec) : _root_.Go.OpenSpec := { _root_.Go.OpenSpec.ofChange s with cond := some uptoSmall }

/-- 'packhorselaw13.SnapMakes', WHERE WHAT IT READS IS OF BULK AT MOST 1048576: true; the input reads as it did. -/
def snapMakesUptoRow : OpenClaim := { program := "ytmfbkelhegdmpaagreatdoor", sum := "497602a6f2ed12e049cc6a515d009ecfaf2346b200996e5f8541f35ac90a0873", func := "packhorse/packhorselaw13.SnapMakes", spec := "snapMakes", inPlace := ["internal/bytealg.IndexByteString", "internal/bytealg.IndexString", "internal/abi.NoEscape", "internal/bytealg.MakeNoZero"], unfollowed := true, recurses := true, named := ["packhorse/sum.table", "unicode/utf8.first", "unicode/utf8.acceptRanges", "internal/bytealg.MaxLen"], apart := false, laid := [("packhorse/sum.table", laid_packhorse_sum_table), ("unicode/utf8.acceptRanges", laid_unicode_utf8_acceptRanges), ("unicode/utf8.first", laid_unicode_utf8_first)], narrowed := true }
def SnapMakesUptoSaid : Prop := snapMakesUptoRow.holds Tryz.pinned (OpenSpec.upto snapMakesSpec)

/-- 'packhorselaw13.SnapRecovers', WHERE WHAT IT READS IS OF BULK AT MOST 1048576: true; the input reads as it did. -/
def snapRecoversUptoRow : OpenClaim := { program := "ytmfbkelhegdmpaagreatdoor", sum := "497602a6f2ed12e049cc6a515d009ecfaf2346b200996e5f8541f35ac90a0873", func := "packhorse/packhorselaw13.SnapRecovers", spec := "snapRecovers", inPlace := ["internal/bytealg.IndexByteString", "internal/bytealg.IndexString", "internal/abi.NoEscape", "internal/bytealg.MakeNoZero"], unfollowed := true, recurses := true, named := ["packhorse/sum.table", "unicode/utf8.first", "unicode/utf8.acceptRanges", "internal/bytealg.MaxLen"], apart := false, laid := [("packhorse/sum.table", laid_packhorse_sum_table), ("unicode/utf8.acceptRanges", laid_unicode_utf8_acceptRanges), ("unicode/utf8.first", laid_unicode_utf8_first)], narrowed := true }
def SnapRecoversUptoSaid : Prop := snapRecoversUptoRow.holds Tryz.pinned (OpenSpec.upto snapRecoversSpec)

/-- 'packhorselaw13.SnapChanges', WHERE WHAT IT READS IS OF BULK AT MOST 1048576: true; the input reads as it did. -/
def snapChangesUptoRow : OpenClaim := { program := "ytmfbkelhegdmpaagreatdoor", sum := "497602a6f2ed12e049cc6a515d009ecfaf2346b200996e5f8541f35ac90a0873", func := "packhorse/packhorselaw13.SnapChanges", spec := "snapChanges", inPlace := ["internal/bytealg.IndexByteString", "internal/bytealg.IndexString", "internal/abi.NoEscape", "internal/bytealg.MakeNoZero"], unfollowed := true, recurses := true, named := ["packhorse/sum.table", "unicode/utf8.first", "unicode/utf8.acceptRanges", "internal/bytealg.MaxLen"], apart := false, laid := [("packhorse/sum.table", laid_packhorse_sum_table), ("unicode/utf8.acceptRanges", laid_unicode_utf8_acceptRanges), ("unicode/utf8.first", laid_unicode_utf8_first)], narrowed := true }
def SnapChangesUptoSaid : Prop := snapChangesUptoRow.holds Tryz.pinned (OpenSpec.upto snapChangesSpec)

/-- 'packhorselaw13.SnapKnown', WHERE WHAT IT READS IS OF BULK AT MOST 1048576: true; the input reads as it did. -/
def snapKnownUptoRow : OpenClaim := { program := "ytmfbkelhegdmpaagreatdoor", sum := "497602a6f2ed12e049cc6a515d009ecfaf2346b200996e5f8541f35ac90a0873", func := "packhorse/packhorselaw13.SnapKnown", spec := "snapKnown", inPlace := ["internal/bytealg.IndexByteString", "internal/bytealg.IndexString", "internal/abi.NoEscape", "internal/bytealg.MakeNoZero"], unfollowed := true, recurses := true, named := ["packhorse/sum.table", "unicode/utf8.first", "unicode/utf8.acceptRanges", "internal/bytealg.MaxLen"], apart := false, laid := [("packhorse/sum.table", laid_packhorse_sum_table), ("unicode/utf8.acceptRanges", laid_unicode_utf8_acceptRanges), ("unicode/utf8.first", laid_unicode_utf8_first)], narrowed := true }
def SnapKnownUptoSaid : Prop := snapKnownUptoRow.holds Tryz.pinned (OpenSpec.upto snapKnownSpec)

/-- 'packhorselaw13.SnapRecords', WHERE WHAT IT READS IS OF BULK AT MOST 1048576: true; the input reads as it did. -/
def snapRecordsUptoRow : OpenClaim := { program := "ytmfbkelhegdmpaagreatdoor", sum := "497602a6f2ed12e049cc6a515d009ecfaf2346b200996e5f8541f35ac90a0873", func := "packhorse/packhorselaw13.SnapRecords", spec := "snapRecords", inPlace := ["internal/bytealg.IndexByteString", "internal/bytealg.IndexString", "internal/abi.NoEscape", "internal/bytealg.MakeNoZero"], unfollowed := true, recurses := true, named := ["packhorse/sum.table", "unicode/utf8.first", "unicode/utf8.acceptRanges", "internal/bytealg.MaxLen"], apart := false, laid := [("packhorse/sum.table", laid_packhorse_sum_table), ("unicode/utf8.acceptRanges", laid_unicode_utf8_acceptRanges), ("unicode/utf8.first", laid_unicode_utf8_first)], narrowed := true }
def SnapRecordsUptoSaid : Prop := snapRecordsUptoRow.holds Tryz.pinned (OpenSpec.upto snapRecordsSpec)

/-- 'packhorselaw13.SnapTorn', WHERE WHAT IT READS IS OF BULK AT MOST 1048576: true; the input reads as it did. -/
def snapTornUptoRow : OpenClaim := { program := "ytmfbkelhegdmpaagreatdoor", sum := "497602a6f2ed12e049cc6a515d009ecfaf2346b200996e5f8541f35ac90a0873", func := "packhorse/packhorselaw13.SnapTorn", spec := "snapTorn", inPlace := ["internal/bytealg.IndexByteString", "internal/bytealg.IndexString", "internal/abi.NoEscape", "internal/bytealg.MakeNoZero"], unfollowed := true, recurses := true, named := ["packhorse/sum.table", "unicode/utf8.first", "unicode/utf8.acceptRanges", "internal/bytealg.MaxLen"], apart := false, laid := [("packhorse/sum.table", laid_packhorse_sum_table), ("unicode/utf8.acceptRanges", laid_unicode_utf8_acceptRanges), ("unicode/utf8.first", laid_unicode_utf8_first)], narrowed := true }
def SnapTornUptoSaid : Prop := snapTornUptoRow.holds Tryz.pinned (OpenSpec.upto snapTornSpec)

/-- 'packhorselaw13.SnapCompacts', WHERE WHAT IT READS IS OF BULK AT MOST 1048576: true; the input reads as it did. -/
def snapCompactsUptoRow : OpenClaim := { program := "ytmfbkelhegdmpaagreatdoor", sum := "497602a6f2ed12e049cc6a515d009ecfaf2346b200996e5f8541f35ac90a0873", func := "packhorse/packhorselaw13.SnapCompacts", spec := "snapCompacts", inPlace := ["internal/bytealg.IndexByteString", "internal/bytealg.IndexString", "internal/abi.NoEscape", "internal/bytealg.MakeNoZero"], unfollowed := true, recurses := true, named := ["packhorse/sum.table", "unicode/utf8.first", "unicode/utf8.acceptRanges", "internal/bytealg.MaxLen"], apart := false, laid := [("packhorse/sum.table", laid_packhorse_sum_table), ("unicode/utf8.acceptRanges", laid_unicode_utf8_acceptRanges), ("unicode/utf8.first", laid_unicode_utf8_first)], narrowed := true }
def SnapCompactsUptoSaid : Prop := snapCompactsUptoRow.holds Tryz.pinned (OpenSpec.upto snapCompactsSpec)

end Rows
end Go.Proofs.YtmfbkelhegdmpaaGreatDoor
