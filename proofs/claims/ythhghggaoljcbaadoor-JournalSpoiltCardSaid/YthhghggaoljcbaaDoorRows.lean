/-
  NARROWER THAN 'FOR EVERY INPUT', by the rows' own cells (each row's printed sentence says how): JournalAppends: laid · JournalReads: laid · JournalKnown: laid · JournalBack: laid · JournalSpoilt: laid · JournalTorn: laid · JournalCuts: laid.
  DERIVED. THE GIVEN ROWS OF THIS SEAT. 7 by the template 'for every input the law returns true; each argument reads behind the call as it read before'; 0 by the template 'total and deterministic' (their statements: YthhghggaoljcbaaDoorTotals.lean).
  GIVEN WITH THE SEED: the statements are not yours to turn. If you find one false, say at which input.
  Laid BY PROGRAM, IN A SANDBOX (cutbox-rows.mjs): the forced cells as the released guide's own fill.sh prints them over the translation a36282a9c7c1371b… (all of the seat's roots in one cut). By AI agents, Wed Nov 11 2026. No macro, syntax, notation, axiom, sorry.
-/
import Derived.Test.YthhghggaoljcbaaDoorChecked
import GoSem.PinnedTables
import GoSem.Claim
import GoSem.ClaimJoined
import GoSem.ClaimMapViews
import Derived.JoinedTies
import Derived.KernelRfl
namespace Go.Proofs.YthhghggaoljcbaaDoor
/- THE CELL 'sum', in the pinned program and in every row, IS THE sha256 OF THE DUMP (.gsa) THAT YthhghggaoljcbaaDoorProg.lean LOADS. Nothing in Lean hashes anything: it is a label: what it is worth is what the hold of that sum in a sandbox is worth. -/
noncomputable def Tryd.pinned : Pinned := { name := "ythhghggaoljcbaadoor", sum := "a36282a9c7c1371b8fd4d5e9390b05fb0024a70eab2e5b20aa9d7b1120b40275", checked := Tryd.checked }
namespace Rows
def none {H : Type} : Left H := { results := [], args := [] }

/- WHAT THE LISTED PACKAGE-LEVEL VARIABLES READ AS WHEN THE CALL BEGINS. Each datum BY PROGRAM (the guide's laid-datum.mjs) off the statement by which the dump's own 'gosem.cut.vars' lays the variable. In a bare row this is a premise. The card (YthhghggaoljcbaaDoorCards.lean) ties it to the program's text. -/
def laid_packhorse_sum_table {H : Type} : DataW H := .agg [.lit (.int .u32 0), .lit (.int .u32 274646895), .lit (.int .u32 549293790), .lit (.int .u32 820201905), .lit (.int .u32 1098587580), .lit (.int .u32 1361435347), .lit (.int .u32 1640403810), .lit (.int .u32 1905808397), .lit (.int .u32 2197175160), .lit (.int .u32 2460548119), .lit (.int .u32 2722870694), .lit (.int .u32 2987750089), .lit (.int .u32 3280807620), .lit (.int .u32 3553878443), .lit (.int .u32 3811616794), .lit (.int .u32 4084100981)]
def laid_unicode_utf8_acceptRanges {H : Type} : DataW H := .agg [.agg [.lit (.int .u8 128), .lit (.int .u8 191)], .agg [.lit (.int .u8 160), .lit (.int .u8 191)], .agg [.lit (.int .u8 128), .lit (.int .u8 159)], .agg [.lit (.int .u8 144), .lit (.int .u8 191)], .agg [.lit (.int .u8 128), .lit (.int .u8 143)], .agg [.lit (.int .u8 0), .lit (.int .u8 0)], .agg [.lit (.int .u8 0), .lit (.int .u8 0)], .agg [.lit (.int .u8 0), .lit (.int .u8 0)], .agg [.lit (.int .u8 0), .lit (.int .u8 0)], .agg [.lit (.int .u8 0), .lit (.int .u8 0)], .agg [.lit (.int .u8 0), .lit (.int .u8 0)], .agg [.lit (.int .u8 0), .lit (.int .u8 0)], .agg [.lit (.int .u8 0), .lit (.int .u8 0)], .agg [.lit (.int .u8 0), .lit (.int .u8 0)], .agg [.lit (.int .u8 0), .lit (.int .u8 0)], .agg [.lit (.int .u8 0), .lit (.int .u8 0)]]
/-- One of Go's own tables, pinned by name: the form's constant. -/
def laid_unicode_utf8_first : DataW Unit := Go.Pinned.utf8First

/-- 'packhorselaw12.JournalAppends': WHATEVER THE INPUT: true; the input reads as it did. -/
def journalAppendsSpec : ChangeSpec := { name := "journalAppends", fn := fun _ => fun
  | [d1, d2, d3, d4] => { results := [.lit (.bool true)], args := [d1, d2, d3, d4] }
  | _ => none }
def journalAppendsRow : OpenClaim := { program := "ythhghggaoljcbaadoor", sum := "a36282a9c7c1371b8fd4d5e9390b05fb0024a70eab2e5b20aa9d7b1120b40275", func := "packhorse/packhorselaw12.JournalAppends", spec := "journalAppends", inPlace := ["internal/bytealg.IndexByteString", "internal/bytealg.IndexString"], unfollowed := true, recurses := true, named := ["unicode/utf8.first", "unicode/utf8.acceptRanges", "packhorse/sum.table", "internal/bytealg.MaxLen"], apart := false, laid := [("packhorse/sum.table", laid_packhorse_sum_table), ("unicode/utf8.acceptRanges", laid_unicode_utf8_acceptRanges), ("unicode/utf8.first", laid_unicode_utf8_first)] }
def JournalAppendsSaid : Prop := journalAppendsRow.holds Tryd.pinned (OpenSpec.ofChange journalAppendsSpec)

/-- ITS FALSE NEIGHBOUR: 'it returns false'. Refute it at one input. -/
def journalAppendsWrong : ChangeSpec := { name := "journalAppends", fn := fun _ => fun
  | [d1, d2, d3, d4] => { results := [.lit (.bool false)], args := [d1, d2, d3, d4] }
  | _ => none }
def JournalAppendsWrongFalsely : Prop := journalAppendsRow.holds Tryd.pinned (OpenSpec.ofChange journalAppendsWrong)

/-- 'packhorselaw12.JournalReads': WHATEVER THE INPUT: true; the input reads as it did. -/
def journalReadsSpec : ChangeSpec := { name := "journalReads", fn := fun _ => fun
  | [d1, d2, d3] => { results := [.lit (.bool true)], args := [d1, d2, d3] }
  | _ => none }
def journalReadsRow : OpenClaim := { program := "ythhghggaoljcbaadoor", sum := "a36282a9c7c1371b8fd4d5e9390b05fb0024a70eab2e5b20aa9d7b1120b40275", func := "packhorse/packhorselaw12.JournalReads", spec := "journalReads", inPlace := ["internal/bytealg.IndexByteString", "internal/bytealg.IndexString", "internal/abi.NoEscape", "internal/bytealg.MakeNoZero"], unfollowed := true, recurses := true, named := ["unicode/utf8.first", "unicode/utf8.acceptRanges", "packhorse/sum.table", "internal/bytealg.MaxLen"], apart := false, laid := [("packhorse/sum.table", laid_packhorse_sum_table), ("unicode/utf8.acceptRanges", laid_unicode_utf8_acceptRanges), ("unicode/utf8.first", laid_unicode_utf8_first)] }
def JournalReadsSaid : Prop := journalReadsRow.holds Tryd.pinned (OpenSpec.ofChange journalReadsSpec)

/-- ITS FALSE NEIGHBOUR: 'it returns false'. Refute it at one input. -/
def journalReadsWrong : ChangeSpec := { name := "journalReads", fn := fun _ => fun
  | [d1, d2, d3] => { results := [.lit (.bool false)], args := [d1, d2, d3] }
  | _ => none }
def JournalReadsWrongFalsely : Prop := journalReadsRow.holds Tryd.pinned (OpenSpec.ofChange journalReadsWrong)

/-- 'packhorselaw12.JournalKnown': WHATEVER THE INPUT: true; the input reads as it did. -/
def journalKnownSpec : ChangeSpec := { name := "journalKnown", fn := fun _ => fun
  | [] => { results := [.lit (.bool true)], args := [] }
  | _ => none }
def journalKnownRow : OpenClaim := { program := "ythhghggaoljcbaadoor", sum := "a36282a9c7c1371b8fd4d5e9390b05fb0024a70eab2e5b20aa9d7b1120b40275", func := "packhorse/packhorselaw12.JournalKnown", spec := "journalKnown", inPlace := ["internal/bytealg.IndexByteString", "internal/bytealg.IndexString", "internal/abi.NoEscape", "internal/bytealg.MakeNoZero"], unfollowed := true, recurses := true, named := ["unicode/utf8.first", "unicode/utf8.acceptRanges", "packhorse/sum.table", "internal/bytealg.MaxLen"], apart := false, laid := [("packhorse/sum.table", laid_packhorse_sum_table), ("unicode/utf8.acceptRanges", laid_unicode_utf8_acceptRanges), ("unicode/utf8.first", laid_unicode_utf8_first)] }
def JournalKnownSaid : Prop := journalKnownRow.holds Tryd.pinned (OpenSpec.ofChange journalKnownSpec)

/-- ITS FALSE NEIGHBOUR: 'it returns false'. Refute it at one input. -/
def journalKnownWrong : ChangeSpec := { name := "journalKnown", fn := fun _ => fun
  | [] => { results := [.lit (.bool false)], args := [] }
  | _ => none }
def JournalKnownWrongFalsely : Prop := journalKnownRow.holds Tryd.pinned (OpenSpec.ofChange journalKnownWrong)

/-- 'packhorselaw12.JournalBack': WHATEVER THE INPUT: true; the input reads as it did. -/
def journalBackSpec : ChangeSpec := { name := "journalBack", fn := fun _ => fun
  | [d] => { results := [.lit (.bool true)], args := [d] }
  | _ => none }
def journalBackRow : OpenClaim := { program := "ythhghggaoljcbaadoor", sum := "a36282a9c7c1371b8fd4d5e9390b05fb0024a70eab2e5b20aa9d7b1120b40275", func := "packhorse/packhorselaw12.JournalBack", spec := "journalBack", inPlace := ["internal/bytealg.IndexByteString", "internal/bytealg.IndexString", "internal/abi.NoEscape", "internal/bytealg.MakeNoZero"], unfollowed := true, recurses := true, named := ["unicode/utf8.first", "unicode/utf8.acceptRanges", "packhorse/sum.table", "internal/bytealg.MaxLen"], apart := false, laid := [("packhorse/sum.table", laid_packhorse_sum_table), ("unicode/utf8.acceptRanges", laid_unicode_utf8_acceptRanges), ("unicode/utf8.first", laid_unicode_utf8_first)] }
def JournalBackSaid : Prop := journalBackRow.holds Tryd.pinned (OpenSpec.ofChange journalBackSpec)

/-- ITS FALSE NEIGHBOUR: 'it returns false'. Refute it at one input. -/
def journalBackWrong : ChangeSpec := { name := "journalBack", fn := fun _ => fun
  | [d] => { results := [.lit (.bool false)], args := [d] }
  | _ => none }
def JournalBackWrongFalsely : Prop := journalBackRow.holds Tryd.pinned (OpenSpec.ofChange journalBackWrong)

/-- 'packhorselaw12.JournalSpoilt': WHATEVER THE INPUT: true; the input reads as it did. -/
def journalSpoiltSpec : ChangeSpec := { name := "journalSpoilt", fn := fun _ => fun
  | [d1, d2, d3] => { results := [.lit (.bool true)], args := [d1, d2, d3] }
  | _ => none }
def journalSpoiltRow : OpenClaim := { program := "ythhghggaoljcbaadoor", sum := "a36282a9c7c1371b8fd4d5e9390b05fb0024a70eab2e5b20aa9d7b1120b40275", func := "packhorse/packhorselaw12.JournalSpoilt", spec := "journalSpoilt", inPlace := ["internal/bytealg.IndexByteString", "internal/bytealg.IndexString", "internal/abi.NoEscape", "internal/bytealg.MakeNoZero"], unfollowed := true, recurses := true, named := ["unicode/utf8.first", "unicode/utf8.acceptRanges", "packhorse/sum.table", "internal/bytealg.MaxLen"], apart := false, laid := [("packhorse/sum.table", laid_packhorse_sum_table), ("unicode/utf8.acceptRanges", laid_unicode_utf8_acceptRanges), ("unicode/utf8.first", laid_unicode_utf8_first)] }
def JournalSpoiltSaid : Prop := journalSpoiltRow.holds Tryd.pinned (OpenSpec.ofChange journalSpoiltSpec)

/-- ITS FALSE NEIGHBOUR: 'it returns false'. Refute it at one input. -/
def journalSpoiltWrong : ChangeSpec := { name := "journalSpoilt", fn := fun _ => fun
  | [d1, d2, d3] => { results := [.lit (.bool false)], args := [d1, d2, d3] }
  | _ => none }
def JournalSpoiltWrongFalsely : Prop := journalSpoiltRow.holds Tryd.pinned (OpenSpec.ofChange journalSpoiltWrong)

/-- 'packhorselaw12.JournalTorn': WHATEVER THE INPUT: true; the input reads as it did. -/
def journalTornSpec : ChangeSpec := { name := "journalTorn", fn := fun _ => fun
  | [d1, d2, d3, d4] => { results := [.lit (.bool true)], args := [d1, d2, d3, d4] }
  | _ => none }
def journalTornRow : OpenClaim := { program := "ythhghggaoljcbaadoor", sum := "a36282a9c7c1371b8fd4d5e9390b05fb0024a70eab2e5b20aa9d7b1120b40275", func := "packhorse/packhorselaw12.JournalTorn", spec := "journalTorn", inPlace := ["internal/bytealg.IndexByteString", "internal/bytealg.IndexString", "internal/abi.NoEscape", "internal/bytealg.MakeNoZero"], unfollowed := true, recurses := true, named := ["unicode/utf8.first", "unicode/utf8.acceptRanges", "packhorse/sum.table", "internal/bytealg.MaxLen"], apart := false, laid := [("packhorse/sum.table", laid_packhorse_sum_table), ("unicode/utf8.acceptRanges", laid_unicode_utf8_acceptRanges), ("unicode/utf8.first", laid_unicode_utf8_first)] }
def JournalTornSaid : Prop := journalTornRow.holds Tryd.pinned (OpenSpec.ofChange journalTornSpec)

/-- ITS FALSE NEIGHBOUR: 'it returns false'. Refute it at one input. -/
def journalTornWrong : ChangeSpec := { name := "journalTorn", fn := fun _ => fun
  | [d1, d2, d3, d4] => { results := [.lit (.bool false)], args := [d1, d2, d3, d4] }
  | _ => none }
def JournalTornWrongFalsely : Prop := journalTornRow.holds Tryd.pinned (OpenSpec.ofChange journalTornWrong)

/-- 'packhorselaw12.JournalCuts': WHATEVER THE INPUT: true; the input reads as it did. -/
def journalCutsSpec : ChangeSpec := { name := "journalCuts", fn := fun _ => fun
  | [d1, d2, d3] => { results := [.lit (.bool true)], args := [d1, d2, d3] }
  | _ => none }
def journalCutsRow : OpenClaim := { program := "ythhghggaoljcbaadoor", sum := "a36282a9c7c1371b8fd4d5e9390b05fb0024a70eab2e5b20aa9d7b1120b40275", func := "packhorse/packhorselaw12.JournalCuts", spec := "journalCuts", inPlace := ["internal/bytealg.IndexByteString", "internal/bytealg.IndexString", "internal/abi.NoEscape", "internal/bytealg.MakeNoZero"], unfollowed := true, recurses := true, named := ["unicode/utf8.first", "unicode/utf8.acceptRanges", "packhorse/sum.table", "internal/bytealg.MaxLen"], apart := false, laid := [("packhorse/sum.table", laid_packhorse_sum_table), ("unicode/utf8.acceptRanges", laid_unicode_utf8_acceptRanges), ("unicode/utf8.first", laid_unicode_utf8_first)] }
def JournalCutsSaid : Prop := journalCutsRow.holds Tryd.pinned (OpenSpec.ofChange journalCutsSpec)

/-- ITS FALSE NEIGHBOUR: 'it returns false'. Refute it at one input. -/
def journalCutsWrong : ChangeSpec := { name := "journalCuts", fn := fun _ => fun
  | [d1, d2, d3] => { results := [.lit (.bool false)], args := [d1, d2, d3] }
  | _ => none }
def JournalCutsWrongFalsely : Prop := journalCutsRow.holds Tryd.pinned (OpenSpec.ofChange journalCutsWrong)

/- THE SECOND FORM. 'bulk': how many values and letters a reading holds, each counted each time it is reached (what is shared counts as often as it is met; a slice's spare places count too). A statement '..UptoSaid' is the law's where the arguments, and the package variables that the reading takes, are together of bulk at most 1048576: NARROWER than '..Said'. Prove '..Said' where nothing that the law and all that it calls make is longer than what came in: it says more and counts as full. Else prove '..UptoSaid'. A law counts once. -/
mutual
def uptoBulk {H : Type} : DataW H → Nat
  | .lit (.string bytes) => bytes.length + 1
  | .lit _ => 1
  | .nil => 1
  | .ptr d => uptoBulk d + 1
  | .slice elems spare => uptoBulkAll elems + uptoBulkAll spare + 1
  | .agg parts => uptoBulkAll parts + 1
  | .iface _ d => uptoBulk d + 1
  | .map entries => uptoBulkEntries entries + 1
  | .held _ => 1
def uptoBulkAll {H : Type} : List (DataW H) → Nat
  | [] => 0
  | d :: r => uptoBulk d + uptoBulkAll r
def uptoBulkEntries {H : Type} : List (Lit × DataW H) → Nat
  | [] => 0
  | x :: r => uptoBulkEntry x + uptoBulkEntries r
def uptoBulkEntry {H : Type} : Lit × DataW H → Nat
  | (.string bytes, d) => bytes.length + uptoBulk d + 1
  | (_, d) => uptoBulk d + 1
 end
def uptoSmall : (H : Type) → List (DataW H) → Bool := fun _ ds => decide (uptoBulkAll ds ≤ 1048576)
def OpenSpec.upto (s : _root_.Go.ChangeSpec) : _root_.Go.OpenSpec := { _root_.Go.OpenSpec.ofChange s with cond := some uptoSmall }

/-- 'packhorselaw12.JournalAppends', WHERE WHAT IT READS IS OF BULK AT MOST 1048576: true; the input reads as it did. -/
def journalAppendsUptoRow : OpenClaim := { program := "ythhghggaoljcbaadoor", sum := "a36282a9c7c1371b8fd4d5e9390b05fb0024a70eab2e5b20aa9d7b1120b40275", func := "packhorse/packhorselaw12.JournalAppends", spec := "journalAppends", inPlace := ["internal/bytealg.IndexByteString", "internal/bytealg.IndexString"], unfollowed := true, recurses := true, named := ["unicode/utf8.first", "unicode/utf8.acceptRanges", "packhorse/sum.table", "internal/bytealg.MaxLen"], apart := false, laid := [("packhorse/sum.table", laid_packhorse_sum_table), ("unicode/utf8.acceptRanges", laid_unicode_utf8_acceptRanges), ("unicode/utf8.first", laid_unicode_utf8_first)], narrowed := true }
def JournalAppendsUptoSaid : Prop := journalAppendsUptoRow.holds Tryd.pinned (OpenSpec.upto journalAppendsSpec)

/-- 'packhorselaw12.JournalReads', WHERE WHAT IT READS IS OF BULK AT MOST 1048576: true; the input reads as it did. -/
def journalReadsUptoRow : OpenClaim := { program := "ythhghggaoljcbaadoor", sum := "a36282a9c7c1371b8fd4d5e9390b05fb0024a70eab2e5b20aa9d7b1120b40275", func := "packhorse/packhorselaw12.JournalReads", spec := "journalReads", inPlace := ["internal/bytealg.IndexByteString", "internal/bytealg.IndexString", "internal/abi.NoEscape", "internal/bytealg.MakeNoZero"], unfollowed := true, recurses := true, named := ["unicode/utf8.first", "unicode/utf8.acceptRanges", "packhorse/sum.table", "internal/bytealg.MaxLen"], apart := false, laid := [("packhorse/sum.table", laid_packhorse_sum_table), ("unicode/utf8.acceptRanges", laid_unicode_utf8_acceptRanges), ("unicode/utf8.first", laid_unicode_utf8_first)], narrowed := true }
def JournalReadsUptoSaid : Prop := journalReadsUptoRow.holds Tryd.pinned (OpenSpec.upto journalReadsSpec)

/-- 'packhorselaw12.JournalKnown', WHERE WHAT IT READS IS OF BULK AT MOST 1048576: true; the input reads as it did. -/
def journalKnownUptoRow : OpenClaim := { program := "ythhghggaoljcbaadoor", sum := "a36282a9c7c1371b8fd4d5e9390b05fb0024a70eab2e5b20aa9d7b1120b40275", func := "packhorse/packhorselaw12.JournalKnown", spec := "journalKnown", inPlace := ["internal/bytealg.IndexByteString", "internal/bytealg.IndexString", "internal/abi.NoEscape", "internal/bytealg.MakeNoZero"], unfollowed := true, recurses := true, named := ["unicode/utf8.first", "unicode/utf8.acceptRanges", "packhorse/sum.table", "internal/bytealg.MaxLen"], apart := false, laid := [("packhorse/sum.table", laid_packhorse_sum_table), ("unicode/utf8.acceptRanges", laid_unicode_utf8_acceptRanges), ("unicode/utf8.first", laid_unicode_utf8_first)], narrowed := true }
def JournalKnownUptoSaid : Prop := journalKnownUptoRow.holds Tryd.pinned (OpenSpec.upto journalKnownSpec)

/-- 'packhorselaw12.JournalBack', WHERE WHAT IT READS IS OF BULK AT MOST 1048576: true; the input reads as it did. -/
def journalBackUptoRow : OpenClaim := { program := "ythhghggaoljcbaadoor", sum := "a36282a9c7c1371b8fd4d5e9390b05fb0024a70eab2e5b20aa9d7b1120b40275", func := "packhorse/packhorselaw12.JournalBack", spec := "journalBack", inPlace := ["internal/bytealg.IndexByteString", "internal/bytealg.IndexString", "internal/abi.NoEscape", "internal/bytealg.MakeNoZero"], unfollowed := true, recurses := true, named := ["unicode/utf8.first", "unicode/utf8.acceptRanges", "packhorse/sum.table", "internal/bytealg.MaxLen"], apart := false, laid := [("packhorse/sum.table", laid_packhorse_sum_table), ("unicode/utf8.acceptRanges", laid_unicode_utf8_acceptRanges), ("unicode/utf8.first", laid_unicode_utf8_first)], narrowed := true }
def JournalBackUptoSaid : Prop := journalBackUptoRow.holds Tryd.pinned (OpenSpec.upto journalBackSpec)

/-- 'packhorselaw12.JournalSpoilt', WHERE WHAT IT READS IS OF BULK AT MOST 1048576: true; the input reads as it did. -/
def journalSpoiltUptoRow : OpenClaim := { program := "ythhghggaoljcbaadoor", sum := "a36282a9c7c1371b8fd4d5e9390b05fb0024a70eab2e5b20aa9d7b1120b40275", func := "packhorse/packhorselaw12.JournalSpoilt", spec := "journalSpoilt", inPlace := ["internal/bytealg.IndexByteString", "internal/bytealg.IndexString", "internal/abi.NoEscape", "internal/bytealg.MakeNoZero"], unfollowed := true, recurses := true, named := ["unicode/utf8.first", "unicode/utf8.acceptRanges", "packhorse/sum.table", "internal/bytealg.MaxLen"], apart := false, laid := [("packhorse/sum.table", laid_packhorse_sum_table), ("unicode/utf8.acceptRanges", laid_unicode_utf8_acceptRanges), ("unicode/utf8.first", laid_unicode_utf8_first)], narrowed := true }
def JournalSpoiltUptoSaid : Prop := journalSpoiltUptoRow.holds Tryd.pinned (OpenSpec.upto journalSpoiltSpec)

/-- 'packhorselaw12.JournalTorn', WHERE WHAT IT READS IS OF BULK AT MOST 1048576: true; the input reads as it did. -/
def journalTornUptoRow : OpenClaim := { program := "ythhghggaoljcbaadoor", sum := "a36282a9c7c1371b8fd4d5e9390b05fb0024a70eab2e5b20aa9d7b1120b40275", func := "packhorse/packhorselaw12.JournalTorn", spec := "journalTorn", inPlace := ["internal/bytealg.IndexByteString", "internal/bytealg.IndexString", "internal/abi.NoEscape", "internal/bytealg.MakeNoZero"], unfollowed := true, recurses := true, named := ["unicode/utf8.first", "unicode/utf8.acceptRanges", "packhorse/sum.table", "internal/bytealg.MaxLen"], apart := false, laid := [("packhorse/sum.table", laid_packhorse_sum_table), ("unicode/utf8.acceptRanges", laid_unicode_utf8_acceptRanges), ("unicode/utf8.first", laid_unicode_utf8_first)], narrowed := true }
def JournalTornUptoSaid : Prop := journalTornUptoRow.holds Tryd.pinned (OpenSpec.upto journalTornSpec)

/-- 'packhorselaw12.JournalCuts', WHERE WHAT IT READS IS OF BULK AT MOST 1048576: true; the input reads as it did. -/
def journalCutsUptoRow : OpenClaim := { program := "ythhghggaoljcbaadoor", sum := "a36282a9c7c1371b8fd4d5e9390b05fb0024a70eab2e5b20aa9d7b1120b40275", func := "packhorse/packhorselaw12.JournalCuts", spec := "journalCuts", inPlace := ["internal/bytealg.IndexByteString", "internal/bytealg.IndexString", "internal/abi.NoEscape", "internal/bytealg.MakeNoZero"], unfollowed := true, recurses := true, named := ["unicode/utf8.first", "unicode/utf8.acceptRanges", "packhorse/sum.table", "internal/bytealg.MaxLen"], apart := false, laid := [("packhorse/sum.table", laid_packhorse_sum_table), ("unicode/utf8.acceptRanges", laid_unicode_utf8_acceptRanges), ("unicode/utf8.first", laid_unicode_utf8_first)], narrowed := true }
def JournalCutsUptoSaid : Prop := journalCutsUptoRow.holds Tryd.pinned (OpenSpec.upto journalCutsSpec)

end Rows
end Go.Proofs.YthhghggaoljcbaaDoor
