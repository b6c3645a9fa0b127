/-
  NARROWER THAN 'FOR EVERY INPUT', by the rows' own cells (each row's printed sentence says how): StuffBack: laid · StuffOnly: laid · StuffPuts: laid · StuffSplits: laid · StuffFinds: laid · StuffFeeds: laid · StuffPieces: laid · StuffKnown: laid.
  DERIVED. THE GIVEN ROWS OF THIS SEAT. 8 by the template 'for every input the law returns true; each argument reads behind the call as it read before'; 0 by the template 'total and deterministic' (their statements: YtcpahelmaejjeaaDoorTotals.lean).
  GIVEN WITH THE SEED: the statements are not yours to turn. If you find one false, say at which input.
  Laid BY PROGRAM, IN A SANDBOX (cutbox-rows.mjs): the forced cells as the released guide's own fill.sh prints them over the translation eea253ff7c03c61e… (all of the seat's roots in one cut). By AI agents, Wed Nov 11 2026. No macro, syntax, notation, axiom, sorry.
-/
import Derived.Test.YtcpahelmaejjeaaDoorChecked
import GoSem.Claim
import GoSem.ClaimJoined
import GoSem.ClaimMapViews
import Derived.JoinedTies
import Derived.KernelRfl
namespace Go.Proofs.YtcpahelmaejjeaaDoor
/- THE CELL 'sum', in the pinned program and in every row, IS THE sha256 OF THE DUMP (.gsa) THAT YtcpahelmaejjeaaDoorProg.lean LOADS. Nothing in Lean hashes anything: it is a label: what it is worth is what the hold of that sum in a sandbox is worth. -/
noncomputable def Tryd.pinned : Pinned := { name := "ytcpahelmaejjeaadoor", sum := "eea253ff7c03c61eab56bc707a25c080795aeffd992956b7a9adce5c0d069e73", checked := Tryd.checked }
namespace Rows
def none {H : Type} : Left H := { results := [], args := [] }

/- WHAT THE LISTED PACKAGE-LEVEL VARIABLES READ AS WHEN THE CALL BEGINS. Each datum BY PROGRAM (the guide's laid-datum.mjs) off the statement by which the dump's own 'gosem.cut.vars' lays the variable. In a bare row this is a premise. The card (YtcpahelmaejjeaaDoorCards.lean) ties it to the program's text. -/
def laid_bytes_ErrTooLarge {H : Type} : DataW H := .iface "*errors.errorString" (.ptr (.agg [.lit (.string [98, 121, 116, 101, 115, 46, 66, 117, 102, 102, 101, 114, 58, 32, 116, 111, 111, 32, 108, 97, 114, 103, 101])]))

/-- 'packhorselaw10.StuffBack': WHATEVER THE INPUT: true; the input reads as it did. -/
def stuffBackSpec : ChangeSpec := { name := "stuffBack", fn := fun _ => fun
  | [d] => { results := [.lit (.bool true)], args := [d] }
  | _ => none }
def stuffBackRow : OpenClaim := { program := "ytcpahelmaejjeaadoor", sum := "eea253ff7c03c61eab56bc707a25c080795aeffd992956b7a9adce5c0d069e73", func := "packhorse/packhorselaw10.StuffBack", spec := "stuffBack", inPlace := ["internal/bytealg.IndexByteString"], unfollowed := true, recurses := true, named := ["bytes.ErrTooLarge"], apart := false, laid := [("bytes.ErrTooLarge", laid_bytes_ErrTooLarge)] }
def StuffBackSaid : Prop := stuffBackRow.holds Tryd.pinned (OpenSpec.ofChange stuffBackSpec)

/-- ITS FALSE NEIGHBOUR: 'it returns false'. Refute it at one input. -/
def stuffBackWrong : ChangeSpec := { name := "stuffBack", fn := fun _ => fun
  | [d] => { results := [.lit (.bool false)], args := [d] }
  | _ => none }
def StuffBackWrongFalsely : Prop := stuffBackRow.holds Tryd.pinned (OpenSpec.ofChange stuffBackWrong)

/-- 'packhorselaw10.StuffOnly': WHATEVER THE INPUT: true; the input reads as it did. -/
def stuffOnlySpec : ChangeSpec := { name := "stuffOnly", fn := fun _ => fun
  | [d] => { results := [.lit (.bool true)], args := [d] }
  | _ => none }
def stuffOnlyRow : OpenClaim := { program := "ytcpahelmaejjeaadoor", sum := "eea253ff7c03c61eab56bc707a25c080795aeffd992956b7a9adce5c0d069e73", func := "packhorse/packhorselaw10.StuffOnly", spec := "stuffOnly", inPlace := ["internal/bytealg.IndexByteString"], unfollowed := true, recurses := true, named := ["bytes.ErrTooLarge"], apart := false, laid := [("bytes.ErrTooLarge", laid_bytes_ErrTooLarge)] }
def StuffOnlySaid : Prop := stuffOnlyRow.holds Tryd.pinned (OpenSpec.ofChange stuffOnlySpec)

/-- ITS FALSE NEIGHBOUR: 'it returns false'. Refute it at one input. -/
def stuffOnlyWrong : ChangeSpec := { name := "stuffOnly", fn := fun _ => fun
  | [d] => { results := [.lit (.bool false)], args := [d] }
  | _ => none }
def StuffOnlyWrongFalsely : Prop := stuffOnlyRow.holds Tryd.pinned (OpenSpec.ofChange stuffOnlyWrong)

/-- 'packhorselaw10.StuffPuts': WHATEVER THE INPUT: true; the input reads as it did. -/
def stuffPutsSpec : ChangeSpec := { name := "stuffPuts", fn := fun _ => fun
  | [d] => { results := [.lit (.bool true)], args := [d] }
  | _ => none }
def stuffPutsRow : OpenClaim := { program := "ytcpahelmaejjeaadoor", sum := "eea253ff7c03c61eab56bc707a25c080795aeffd992956b7a9adce5c0d069e73", func := "packhorse/packhorselaw10.StuffPuts", spec := "stuffPuts", inPlace := ["internal/bytealg.IndexByteString"], unfollowed := true, recurses := true, named := ["bytes.ErrTooLarge"], apart := false, laid := [("bytes.ErrTooLarge", laid_bytes_ErrTooLarge)] }
def StuffPutsSaid : Prop := stuffPutsRow.holds Tryd.pinned (OpenSpec.ofChange stuffPutsSpec)

/-- ITS FALSE NEIGHBOUR: 'it returns false'. Refute it at one input. -/
def stuffPutsWrong : ChangeSpec := { name := "stuffPuts", fn := fun _ => fun
  | [d] => { results := [.lit (.bool false)], args := [d] }
  | _ => none }
def StuffPutsWrongFalsely : Prop := stuffPutsRow.holds Tryd.pinned (OpenSpec.ofChange stuffPutsWrong)

/-- 'packhorselaw10.StuffSplits': WHATEVER THE INPUT: true; the input reads as it did. -/
def stuffSplitsSpec : ChangeSpec := { name := "stuffSplits", fn := fun _ => fun
  | [d] => { results := [.lit (.bool true)], args := [d] }
  | _ => none }
def stuffSplitsRow : OpenClaim := { program := "ytcpahelmaejjeaadoor", sum := "eea253ff7c03c61eab56bc707a25c080795aeffd992956b7a9adce5c0d069e73", func := "packhorse/packhorselaw10.StuffSplits", spec := "stuffSplits", inPlace := ["internal/bytealg.IndexByteString", "internal/bytealg.IndexString"], unfollowed := true, recurses := true, named := ["bytes.ErrTooLarge", "internal/bytealg.MaxLen"], apart := false, laid := [("bytes.ErrTooLarge", laid_bytes_ErrTooLarge)] }
def StuffSplitsSaid : Prop := stuffSplitsRow.holds Tryd.pinned (OpenSpec.ofChange stuffSplitsSpec)

/-- ITS FALSE NEIGHBOUR: 'it returns false'. Refute it at one input. -/
def stuffSplitsWrong : ChangeSpec := { name := "stuffSplits", fn := fun _ => fun
  | [d] => { results := [.lit (.bool false)], args := [d] }
  | _ => none }
def StuffSplitsWrongFalsely : Prop := stuffSplitsRow.holds Tryd.pinned (OpenSpec.ofChange stuffSplitsWrong)

/-- 'packhorselaw10.StuffFinds': WHATEVER THE INPUT: true; the input reads as it did. -/
def stuffFindsSpec : ChangeSpec := { name := "stuffFinds", fn := fun _ => fun
  | [d1, d2, d3] => { results := [.lit (.bool true)], args := [d1, d2, d3] }
  | _ => none }
def stuffFindsRow : OpenClaim := { program := "ytcpahelmaejjeaadoor", sum := "eea253ff7c03c61eab56bc707a25c080795aeffd992956b7a9adce5c0d069e73", func := "packhorse/packhorselaw10.StuffFinds", spec := "stuffFinds", inPlace := ["internal/bytealg.IndexByteString", "internal/bytealg.IndexString"], unfollowed := true, recurses := true, named := ["bytes.ErrTooLarge", "internal/bytealg.MaxLen"], apart := false, laid := [("bytes.ErrTooLarge", laid_bytes_ErrTooLarge)] }
def StuffFindsSaid : Prop := stuffFindsRow.holds Tryd.pinned (OpenSpec.ofChange stuffFindsSpec)

/-- ITS FALSE NEIGHBOUR: 'it returns false'. Refute it at one input. -/
def stuffFindsWrong : ChangeSpec := { name := "stuffFinds", fn := fun _ => fun
  | [d1, d2, d3] => { results := [.lit (.bool false)], args := [d1, d2, d3] }
  | _ => none }
def StuffFindsWrongFalsely : Prop := stuffFindsRow.holds Tryd.pinned (OpenSpec.ofChange stuffFindsWrong)

/-- 'packhorselaw10.StuffFeeds': WHATEVER THE INPUT: true; the input reads as it did. -/
def stuffFeedsSpec : ChangeSpec := { name := "stuffFeeds", fn := fun _ => fun
  | [d1, d2] => { results := [.lit (.bool true)], args := [d1, d2] }
  | _ => none }
def stuffFeedsRow : OpenClaim := { program := "ytcpahelmaejjeaadoor", sum := "eea253ff7c03c61eab56bc707a25c080795aeffd992956b7a9adce5c0d069e73", func := "packhorse/packhorselaw10.StuffFeeds", spec := "stuffFeeds", inPlace := ["internal/bytealg.IndexByteString", "internal/abi.NoEscape", "internal/bytealg.MakeNoZero", "internal/bytealg.IndexString"], unfollowed := true, recurses := true, named := ["bytes.ErrTooLarge", "internal/bytealg.MaxLen"], apart := false, laid := [("bytes.ErrTooLarge", laid_bytes_ErrTooLarge)] }
def StuffFeedsSaid : Prop := stuffFeedsRow.holds Tryd.pinned (OpenSpec.ofChange stuffFeedsSpec)

/-- ITS FALSE NEIGHBOUR: 'it returns false'. Refute it at one input. -/
def stuffFeedsWrong : ChangeSpec := { name := "stuffFeeds", fn := fun _ => fun
  | [d1, d2] => { results := [.lit (.bool false)], args := [d1, d2] }
  | _ => none }
def StuffFeedsWrongFalsely : Prop := stuffFeedsRow.holds Tryd.pinned (OpenSpec.ofChange stuffFeedsWrong)

/-- 'packhorselaw10.StuffPieces': WHATEVER THE INPUT: true; the input reads as it did. -/
def stuffPiecesSpec : ChangeSpec := { name := "stuffPieces", fn := fun _ => fun
  | [d1, d2] => { results := [.lit (.bool true)], args := [d1, d2] }
  | _ => none }
def stuffPiecesRow : OpenClaim := { program := "ytcpahelmaejjeaadoor", sum := "eea253ff7c03c61eab56bc707a25c080795aeffd992956b7a9adce5c0d069e73", func := "packhorse/packhorselaw10.StuffPieces", spec := "stuffPieces", inPlace := ["internal/bytealg.IndexByteString", "internal/abi.NoEscape", "internal/bytealg.MakeNoZero", "internal/bytealg.IndexString"], unfollowed := true, recurses := true, named := ["bytes.ErrTooLarge", "internal/bytealg.MaxLen"], apart := false, laid := [("bytes.ErrTooLarge", laid_bytes_ErrTooLarge)] }
def StuffPiecesSaid : Prop := stuffPiecesRow.holds Tryd.pinned (OpenSpec.ofChange stuffPiecesSpec)

/-- ITS FALSE NEIGHBOUR: 'it returns false'. Refute it at one input. -/
def stuffPiecesWrong : ChangeSpec := { name := "stuffPieces", fn := fun _ => fun
  | [d1, d2] => { results := [.lit (.bool false)], args := [d1, d2] }
  | _ => none }
def StuffPiecesWrongFalsely : Prop := stuffPiecesRow.holds Tryd.pinned (OpenSpec.ofChange stuffPiecesWrong)

/-- 'packhorselaw10.StuffKnown': WHATEVER THE INPUT: true; the input reads as it did. -/
def stuffKnownSpec : ChangeSpec := { name := "stuffKnown", fn := fun _ => fun
  | [] => { results := [.lit (.bool true)], args := [] }
  | _ => none }
def stuffKnownRow : OpenClaim := { program := "ytcpahelmaejjeaadoor", sum := "eea253ff7c03c61eab56bc707a25c080795aeffd992956b7a9adce5c0d069e73", func := "packhorse/packhorselaw10.StuffKnown", spec := "stuffKnown", inPlace := ["internal/bytealg.IndexByteString", "internal/abi.NoEscape", "internal/bytealg.MakeNoZero", "internal/bytealg.IndexString"], unfollowed := true, recurses := true, named := ["bytes.ErrTooLarge", "internal/bytealg.MaxLen"], apart := false, laid := [("bytes.ErrTooLarge", laid_bytes_ErrTooLarge)] }
def StuffKnownSaid : Prop := stuffKnownRow.holds Tryd.pinned (OpenSpec.ofChange stuffKnownSpec)

/-- ITS FALSE NEIGHBOUR: 'it returns false'. Refute it at one input. -/
def stuffKnownWrong : ChangeSpec := { name := "stuffKnown", fn := fun _ => fun
  | [] => { results := [.lit (.bool false)], args := [] }
  | _ => none }
def StuffKnownWrongFalsely : Prop := stuffKnownRow.holds Tryd.pinned (OpenSpec.ofChange stuffKnownWrong)

/- THE SECOND FORM. 'bulk': how many values and letters a reading holds, each counted each time it is reached (what is shared counts as often as it is met; a slice's spare places count too). A statement '..UptoSaid' is the law's where the arguments, and the package variables that the reading takes, are together of bulk at most 1048576: NARROWER than '..Said'. Prove '..Said' where nothing that the law and all that it calls make is longer than what came in: it says more and counts as full. Else prove '..UptoSaid'. A law counts once. -/
mutual
def uptoBulk {H : Type} : DataW H → Nat
  | .lit (.string bytes) => bytes.length + 1
  | .lit _ => 1
  | .nil => 1
  | .ptr d => uptoBulk d + 1
  | .slice elems spare => uptoBulkAll elems + uptoBulkAll spare + 1
  | .agg parts => uptoBulkAll parts + 1
  | .iface _ d => uptoBulk d + 1
  | .map entries => uptoBulkEntries entries + 1
  | .held _ => 1
def uptoBulkAll {H : Type} : List (DataW H) → Nat
  | [] => 0
  | d :: r => uptoBulk d + uptoBulkAll r
def uptoBulkEntries {H : Type} : List (Lit × DataW H) → Nat
  | [] => 0
  | x :: r => uptoBulkEntry x + uptoBulkEntries r
def uptoBulkEntry {H : Type} : Lit × DataW H → Nat
  | (.string bytes, d) => bytes.length + uptoBulk d + 1
  | (_, d) => uptoBulk d + 1
 end
def uptoSmall : (H : Type) → List (DataW H) → Bool := fun _ ds => decide (uptoBulkAll ds ≤ 1048576)
def OpenSpec.upto (s : _root_.Go.ChangeSpec) : _root_.Go.OpenSpec := { _root_.Go.OpenSpec.ofChange s with cond := some uptoSmall }

/-- 'packhorselaw10.StuffBack', WHERE WHAT IT READS IS OF BULK AT MOST 1048576: true; the input reads as it did. -/
def stuffBackUptoRow : OpenClaim := { program := "ytcpahelmaejjeaadoor", sum := "eea253ff7c03c61eab56bc707a25c080795aeffd992956b7a9adce5c0d069e73", func := "packhorse/packhorselaw10.StuffBack", spec := "stuffBack", inPlace := ["internal/bytealg.IndexByteString"], unfollowed := true, recurses := true, named := ["bytes.ErrTooLarge"], apart := false, laid := [("bytes.ErrTooLarge", laid_bytes_ErrTooLarge)], narrowed := true }
def StuffBackUptoSaid : Prop := stuffBackUptoRow.holds Tryd.pinned (OpenSpec.upto stuffBackSpec)

/-- 'packhorselaw10.StuffOnly', WHERE WHAT IT READS IS OF BULK AT MOST 1048576: true; the input reads as it did. -/
def stuffOnlyUptoRow : OpenClaim := { program := "ytcpahelmaejjeaadoor", sum := "eea253ff7c03c61eab56bc707a25c080795aeffd992956b7a9adce5c0d069e73", func := "packhorse/packhorselaw10.StuffOnly", spec := "stuffOnly", inPlace := ["internal/bytealg.IndexByteString"], unfollowed := true, recurses := true, named := ["bytes.ErrTooLarge"], apart := false, laid := [("bytes.ErrTooLarge", laid_bytes_ErrTooLarge)], narrowed := true }
def StuffOnlyUptoSaid : Prop := stuffOnlyUptoRow.holds Tryd.pinned (OpenSpec.upto stuffOnlySpec)

/-- 'packhorselaw10.StuffPuts', WHERE WHAT IT READS IS OF BULK AT MOST 1048576: true; the input reads as it did. -/
def stuffPutsUptoRow : OpenClaim := { program := "ytcpahelmaejjeaadoor", sum := "eea253ff7c03c61eab56bc707a25c080795aeffd992956b7a9adce5c0d069e73", func := "packhorse/packhorselaw10.StuffPuts", spec := "stuffPuts", inPlace := ["internal/bytealg.IndexByteString"], unfollowed := true, recurses := true, named := ["bytes.ErrTooLarge"], apart := false, laid := [("bytes.ErrTooLarge", laid_bytes_ErrTooLarge)], narrowed := true }
def StuffPutsUptoSaid : Prop := stuffPutsUptoRow.holds Tryd.pinned (OpenSpec.upto stuffPutsSpec)

/-- 'packhorselaw10.StuffSplits', WHERE WHAT IT READS IS OF BULK AT MOST 1048576: true; the input reads as it did. -/
def stuffSplitsUptoRow : OpenClaim := { program := "ytcpahelmaejjeaadoor", sum := "eea253ff7c03c61eab56bc707a25c080795aeffd992956b7a9adce5c0d069e73", func := "packhorse/packhorselaw10.StuffSplits", spec := "stuffSplits", inPlace := ["internal/bytealg.IndexByteString", "internal/bytealg.IndexString"], unfollowed := true, recurses := true, named := ["bytes.ErrTooLarge", "internal/bytealg.MaxLen"], apart := false, laid := [("bytes.ErrTooLarge", laid_bytes_ErrTooLarge)], narrowed := true }
def StuffSplitsUptoSaid : Prop := stuffSplitsUptoRow.holds Tryd.pinned (OpenSpec.upto stuffSplitsSpec)

/-- 'packhorselaw10.StuffFinds', WHERE WHAT IT READS IS OF BULK AT MOST 1048576: true; the input reads as it did. -/
def stuffFindsUptoRow : OpenClaim := { program := "ytcpahelmaejjeaadoor", sum := "eea253ff7c03c61eab56bc707a25c080795aeffd992956b7a9adce5c0d069e73", func := "packhorse/packhorselaw10.StuffFinds", spec := "stuffFinds", inPlace := ["internal/bytealg.IndexByteString", "internal/bytealg.IndexString"], unfollowed := true, recurses := true, named := ["bytes.ErrTooLarge", "internal/bytealg.MaxLen"], apart := false, laid := [("bytes.ErrTooLarge", laid_bytes_ErrTooLarge)], narrowed := true }
def StuffFindsUptoSaid : Prop := stuffFindsUptoRow.holds Tryd.pinned (OpenSpec.upto stuffFindsSpec)

/-- 'packhorselaw10.StuffFeeds', WHERE WHAT IT READS IS OF BULK AT MOST 1048576: true; the input reads as it did. -/
def stuffFeedsUptoRow : OpenClaim := { program := "ytcpahelmaejjeaadoor", sum := "eea253ff7c03c61eab56bc707a25c080795aeffd992956b7a9adce5c0d069e73", func := "packhorse/packhorselaw10.StuffFeeds", spec := "stuffFeeds", inPlace := ["internal/bytealg.IndexByteString", "internal/abi.NoEscape", "internal/bytealg.MakeNoZero", "internal/bytealg.IndexString"], unfollowed := true, recurses := true, named := ["bytes.ErrTooLarge", "internal/bytealg.MaxLen"], apart := false, laid := [("bytes.ErrTooLarge", laid_bytes_ErrTooLarge)], narrowed := true }
def StuffFeedsUptoSaid : Prop := stuffFeedsUptoRow.holds Tryd.pinned (OpenSpec.upto stuffFeedsSpec)

/-- 'packhorselaw10.StuffPieces', WHERE WHAT IT READS IS OF BULK AT MOST 1048576: true; the input reads as it did. -/
def stuffPiecesUptoRow : OpenClaim := { program := "ytcpahelmaejjeaadoor", sum := "eea253ff7c03c61eab56bc707a25c080795aeffd992956b7a9adce5c0d069e73", func := "packhorse/packhorselaw10.StuffPieces", spec := "stuffPieces", inPlace := ["internal/bytealg.IndexByteString", "internal/abi.NoEscape", "internal/bytealg.MakeNoZero", "internal/bytealg.IndexString"], unfollowed := true, recurses := true, named := ["bytes.ErrTooLarge", "internal/bytealg.MaxLen"], apart := false, laid := [("bytes.ErrTooLarge", laid_bytes_ErrTooLarge)], narrowed := true }
def StuffPiecesUptoSaid : Prop := stuffPiecesUptoRow.holds Tryd.pinned (OpenSpec.upto stuffPiecesSpec)

/-- 'packhorselaw10.StuffKnown', WHERE WHAT IT READS IS OF BULK AT MOST 1048576: true; the input reads as it did. -/
def stuffKnownUptoRow : OpenClaim := { program := "ytcpahelmaejjeaadoor", sum := "eea253ff7c03c61eab56bc707a25c080795aeffd992956b7a9adce5c0d069e73", func := "packhorse/packhorselaw10.StuffKnown", spec := "stuffKnown", inPlace := ["internal/bytealg.IndexByteString", "internal/abi.NoEscape", "internal/bytealg.MakeNoZero", "internal/bytealg.IndexString"], unfollowed := true, recurses := true, named := ["bytes.ErrTooLarge", "internal/bytealg.MaxLen"], apart := false, laid := [("bytes.ErrTooLarge", laid_bytes_ErrTooLarge)], narrowed := true }
def StuffKnownUptoSaid : Prop := stuffKnownUptoRow.holds Tryd.pinned (OpenSpec.upto stuffKnownSpec)

end Rows
end Go.Proofs.YtcpahelmaejjeaaDoor
