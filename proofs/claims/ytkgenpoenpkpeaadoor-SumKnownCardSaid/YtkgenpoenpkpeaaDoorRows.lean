/-
  NARROWER THAN 'FOR EVERY INPUT', by the rows' own cells (each row's printed sentence says how): SumXors: laid · SumSums: laid · SumBursts: laid · SumFixes: laid · SumOnly: laid · SumJoins: laid · SumParts: laid · SumKnown: laid.
  DERIVED. THE GIVEN ROWS OF THIS SEAT. 8 by the template 'for every input the law returns true; each argument reads behind the call as it read before'; 0 by the template 'total and deterministic' (their statements: YtkgenpoenpkpeaaDoorTotals.lean).
  GIVEN WITH THE SEED: the statements are not yours to turn. If you find one false, say at which input.
  Laid BY PROGRAM, IN A SANDBOX (cutbox-rows.mjs): the forced cells as the released guide's own fill.sh prints them over the translation b963d9df6e9319ac… (all of the seat's roots in one cut). By AI agents, Wed Nov 11 2026. No macro, syntax, notation, axiom, sorry.
-/
import Derived.Test.YtkgenpoenpkpeaaDoorChecked
import GoSem.Claim
import GoSem.ClaimJoined
import GoSem.ClaimMapViews
import Derived.JoinedTies
import Derived.KernelRfl
namespace Go.Proofs.YtkgenpoenpkpeaaDoor
/- THE CELL 'sum', in the pinned program and in every row, IS THE sha256 OF THE DUMP (.gsa) THAT YtkgenpoenpkpeaaDoorProg.lean LOADS. Nothing in Lean hashes anything: it is a label: what it is worth is what the hold of that sum in a sandbox is worth. -/
noncomputable def Tryd.pinned : Pinned := { name := "ytkgenpoenpkpeaadoor", sum := "b963d9df6e9319acd38aacf7f304956e006fd850e0556f571e96525644451908", checked := Tryd.checked }
namespace Rows
def none {H : Type} : Left H := { results := [], args := [] }

/- WHAT THE LISTED PACKAGE-LEVEL VARIABLES READ AS WHEN THE CALL BEGINS. Each datum BY PROGRAM (the guide's laid-datum.mjs) off the statement by which the dump's own 'gosem.cut.vars' lays the variable. In a bare row this is a premise. The card (YtkgenpoenpkpeaaDoorCards.lean) ties it to the program's text. -/
def laid_packhorse_sum_table {H : Type} : DataW H := .agg [.lit (.int .u32 0), .lit (.int .u32 274646895), .lit (.int .u32 549293790), .lit (.int .u32 820201905), .lit (.int .u32 1098587580), .lit (.int .u32 1361435347), .lit (.int .u32 1640403810), .lit (.int .u32 1905808397), .lit (.int .u32 2197175160), .lit (.int .u32 2460548119), .lit (.int .u32 2722870694), .lit (.int .u32 2987750089), .lit (.int .u32 3280807620), .lit (.int .u32 3553878443), .lit (.int .u32 3811616794), .lit (.int .u32 4084100981)]

/-- 'packhorselaw02.SumXors': WHATEVER THE INPUT: true; the input reads as it did. -/
def sumXorsSpec : ChangeSpec := { name := "sumXors", fn := fun _ => fun
  | [d1, d2, d3] => { results := [.lit (.bool true)], args := [d1, d2, d3] }
  | _ => none }
def sumXorsRow : OpenClaim := { program := "ytkgenpoenpkpeaadoor", sum := "b963d9df6e9319acd38aacf7f304956e006fd850e0556f571e96525644451908", func := "packhorse/packhorselaw02.SumXors", spec := "sumXors", unfollowed := true, recurses := true, named := ["packhorse/sum.table"], apart := false, laid := [("packhorse/sum.table", laid_packhorse_sum_table)] }
def SumXorsSaid : Prop := sumXorsRow.holds Tryd.pinned (OpenSpec.ofChange sumXorsSpec)

/-- ITS FALSE NEIGHBOUR: 'it returns false'. Refute it at one input. -/
def sumXorsWrong : ChangeSpec := { name := "sumXors", fn := fun _ => fun
  | [d1, d2, d3] => { results := [.lit (.bool false)], args := [d1, d2, d3] }
  | _ => none }
def SumXorsWrongFalsely : Prop := sumXorsRow.holds Tryd.pinned (OpenSpec.ofChange sumXorsWrong)

/-- 'packhorselaw02.SumSums': WHATEVER THE INPUT: true; the input reads as it did. -/
def sumSumsSpec : ChangeSpec := { name := "sumSums", fn := fun _ => fun
  | [d] => { results := [.lit (.bool true)], args := [d] }
  | _ => none }
def sumSumsRow : OpenClaim := { program := "ytkgenpoenpkpeaadoor", sum := "b963d9df6e9319acd38aacf7f304956e006fd850e0556f571e96525644451908", func := "packhorse/packhorselaw02.SumSums", spec := "sumSums", unfollowed := true, recurses := true, named := ["packhorse/sum.table"], apart := false, laid := [("packhorse/sum.table", laid_packhorse_sum_table)] }
def SumSumsSaid : Prop := sumSumsRow.holds Tryd.pinned (OpenSpec.ofChange sumSumsSpec)

/-- ITS FALSE NEIGHBOUR: 'it returns false'. Refute it at one input. -/
def sumSumsWrong : ChangeSpec := { name := "sumSums", fn := fun _ => fun
  | [d] => { results := [.lit (.bool false)], args := [d] }
  | _ => none }
def SumSumsWrongFalsely : Prop := sumSumsRow.holds Tryd.pinned (OpenSpec.ofChange sumSumsWrong)

/-- 'packhorselaw02.SumBursts': WHATEVER THE INPUT: true; the input reads as it did. -/
def sumBurstsSpec : ChangeSpec := { name := "sumBursts", fn := fun _ => fun
  | [d1, d2, d3] => { results := [.lit (.bool true)], args := [d1, d2, d3] }
  | _ => none }
def sumBurstsRow : OpenClaim := { program := "ytkgenpoenpkpeaadoor", sum := "b963d9df6e9319acd38aacf7f304956e006fd850e0556f571e96525644451908", func := "packhorse/packhorselaw02.SumBursts", spec := "sumBursts", unfollowed := true, recurses := true, named := ["packhorse/sum.table"], apart := false, laid := [("packhorse/sum.table", laid_packhorse_sum_table)] }
def SumBurstsSaid : Prop := sumBurstsRow.holds Tryd.pinned (OpenSpec.ofChange sumBurstsSpec)

/-- ITS FALSE NEIGHBOUR: 'it returns false'. Refute it at one input. -/
def sumBurstsWrong : ChangeSpec := { name := "sumBursts", fn := fun _ => fun
  | [d1, d2, d3] => { results := [.lit (.bool false)], args := [d1, d2, d3] }
  | _ => none }
def SumBurstsWrongFalsely : Prop := sumBurstsRow.holds Tryd.pinned (OpenSpec.ofChange sumBurstsWrong)

/-- 'packhorselaw02.SumFixes': WHATEVER THE INPUT: true; the input reads as it did. -/
def sumFixesSpec : ChangeSpec := { name := "sumFixes", fn := fun _ => fun
  | [d1, d2] => { results := [.lit (.bool true)], args := [d1, d2] }
  | _ => none }
def sumFixesRow : OpenClaim := { program := "ytkgenpoenpkpeaadoor", sum := "b963d9df6e9319acd38aacf7f304956e006fd850e0556f571e96525644451908", func := "packhorse/packhorselaw02.SumFixes", spec := "sumFixes", unfollowed := true, recurses := true, named := ["packhorse/sum.table"], apart := false, laid := [("packhorse/sum.table", laid_packhorse_sum_table)] }
def SumFixesSaid : Prop := sumFixesRow.holds Tryd.pinned (OpenSpec.ofChange sumFixesSpec)

/-- ITS FALSE NEIGHBOUR: 'it returns false'. Refute it at one input. -/
def sumFixesWrong : ChangeSpec := { name := "sumFixes", fn := fun _ => fun
  | [d1, d2] => { results := [.lit (.bool false)], args := [d1, d2] }
  | _ => none }
def SumFixesWrongFalsely : Prop := sumFixesRow.holds Tryd.pinned (OpenSpec.ofChange sumFixesWrong)

/-- 'packhorselaw02.SumOnly': WHATEVER THE INPUT: true; the input reads as it did. -/
def sumOnlySpec : ChangeSpec := { name := "sumOnly", fn := fun _ => fun
  | [d1, d2, d3] => { results := [.lit (.bool true)], args := [d1, d2, d3] }
  | _ => none }
def sumOnlyRow : OpenClaim := { program := "ytkgenpoenpkpeaadoor", sum := "b963d9df6e9319acd38aacf7f304956e006fd850e0556f571e96525644451908", func := "packhorse/packhorselaw02.SumOnly", spec := "sumOnly", unfollowed := true, recurses := true, named := ["packhorse/sum.table"], apart := false, laid := [("packhorse/sum.table", laid_packhorse_sum_table)] }
def SumOnlySaid : Prop := sumOnlyRow.holds Tryd.pinned (OpenSpec.ofChange sumOnlySpec)

/-- ITS FALSE NEIGHBOUR: 'it returns false'. Refute it at one input. -/
def sumOnlyWrong : ChangeSpec := { name := "sumOnly", fn := fun _ => fun
  | [d1, d2, d3] => { results := [.lit (.bool false)], args := [d1, d2, d3] }
  | _ => none }
def SumOnlyWrongFalsely : Prop := sumOnlyRow.holds Tryd.pinned (OpenSpec.ofChange sumOnlyWrong)

/-- 'packhorselaw02.SumJoins': WHATEVER THE INPUT: true; the input reads as it did. -/
def sumJoinsSpec : ChangeSpec := { name := "sumJoins", fn := fun _ => fun
  | [d1, d2, d3] => { results := [.lit (.bool true)], args := [d1, d2, d3] }
  | _ => none }
def sumJoinsRow : OpenClaim := { program := "ytkgenpoenpkpeaadoor", sum := "b963d9df6e9319acd38aacf7f304956e006fd850e0556f571e96525644451908", func := "packhorse/packhorselaw02.SumJoins", spec := "sumJoins", unfollowed := true, recurses := true, named := ["packhorse/sum.table"], apart := false, laid := [("packhorse/sum.table", laid_packhorse_sum_table)] }
def SumJoinsSaid : Prop := sumJoinsRow.holds Tryd.pinned (OpenSpec.ofChange sumJoinsSpec)

/-- ITS FALSE NEIGHBOUR: 'it returns false'. Refute it at one input. -/
def sumJoinsWrong : ChangeSpec := { name := "sumJoins", fn := fun _ => fun
  | [d1, d2, d3] => { results := [.lit (.bool false)], args := [d1, d2, d3] }
  | _ => none }
def SumJoinsWrongFalsely : Prop := sumJoinsRow.holds Tryd.pinned (OpenSpec.ofChange sumJoinsWrong)

/-- 'packhorselaw02.SumParts': WHATEVER THE INPUT: true; the input reads as it did. -/
def sumPartsSpec : ChangeSpec := { name := "sumParts", fn := fun _ => fun
  | [d1, d2, d3] => { results := [.lit (.bool true)], args := [d1, d2, d3] }
  | _ => none }
def sumPartsRow : OpenClaim := { program := "ytkgenpoenpkpeaadoor", sum := "b963d9df6e9319acd38aacf7f304956e006fd850e0556f571e96525644451908", func := "packhorse/packhorselaw02.SumParts", spec := "sumParts", unfollowed := true, recurses := true, named := ["packhorse/sum.table"], apart := false, laid := [("packhorse/sum.table", laid_packhorse_sum_table)] }
def SumPartsSaid : Prop := sumPartsRow.holds Tryd.pinned (OpenSpec.ofChange sumPartsSpec)

/-- ITS FALSE NEIGHBOUR: 'it returns false'. Refute it at one input. -/
def sumPartsWrong : ChangeSpec := { name := "sumParts", fn := fun _ => fun
  | [d1, d2, d3] => { results := [.lit (.bool false)], args := [d1, d2, d3] }
  | _ => none }
def SumPartsWrongFalsely : Prop := sumPartsRow.holds Tryd.pinned (OpenSpec.ofChange sumPartsWrong)

/-- 'packhorselaw02.SumKnown': WHATEVER THE INPUT: true; the input reads as it did. -/
def sumKnownSpec : ChangeSpec := { name := "sumKnown", fn := fun _ => fun
  | [] => { results := [.lit (.bool true)], args := [] }
  | _ => none }
def sumKnownRow : OpenClaim := { program := "ytkgenpoenpkpeaadoor", sum := "b963d9df6e9319acd38aacf7f304956e006fd850e0556f571e96525644451908", func := "packhorse/packhorselaw02.SumKnown", spec := "sumKnown", unfollowed := true, recurses := true, named := ["packhorse/sum.table"], apart := false, laid := [("packhorse/sum.table", laid_packhorse_sum_table)] }
def SumKnownSaid : Prop := sumKnownRow.holds Tryd.pinned (OpenSpec.ofChange sumKnownSpec)

/-- ITS FALSE NEIGHBOUR: 'it returns false'. Refute it at one input. -/
def sumKnownWrong : ChangeSpec := { name := "sumKnown", fn := fun _ => fun
  | [] => { results := [.lit (.bool false)], args := [] }
  | _ => none }
def SumKnownWrongFalsely : Prop := sumKnownRow.holds Tryd.pinned (OpenSpec.ofChange sumKnownWrong)

/- THE SECOND FORM. 'bulk': how many values and letters a reading holds, each counted each time it is reached (what is shared counts as often as it is met; a slice's spare places count too). A statement '..UptoSaid' is the law's where the arguments, and the package variables that the reading takes, are together of bulk at most 1048576: NARROWER than '..Said'. Prove '..Said' where nothing that the law and all that it calls make is longer than what came in: it says more and counts as full. Else prove '..UptoSaid'. A law counts once. -/
mutual
def uptoBulk {H : Type} : DataW H → Nat
  | .lit (.string bytes) => bytes.length + 1
  | .lit _ => 1
  | .nil => 1
  | .ptr d => uptoBulk d + 1
  | .slice elems spare => uptoBulkAll elems + uptoBulkAll spare + 1
  | .agg parts => uptoBulkAll parts + 1
  | .iface _ d => uptoBulk d + 1
  | .map entries => uptoBulkEntries entries + 1
  | .held _ => 1
def uptoBulkAll {H : Type} : List (DataW H) → Nat
  | [] => 0
  | d :: r => uptoBulk d + uptoBulkAll r
def uptoBulkEntries {H : Type} : List (Lit × DataW H) → Nat
  | [] => 0
  | x :: r => uptoBulkEntry x + uptoBulkEntries r
def uptoBulkEntry {H : Type} : Lit × DataW H → Nat
  | (.string bytes, d) => bytes.length + uptoBulk d + 1
  | (_, d) => uptoBulk d + 1
 end
def uptoSmall : (H : Type) → List (DataW H) → Bool := fun _ ds => decide (uptoBulkAll ds ≤ 1048576)
def OpenSpec.upto (s : _root_.Go.ChangeSpec) : _root_.Go.OpenSpec := { _root_.Go.OpenSpec.ofChange s with cond := some uptoSmall }

/-- 'packhorselaw02.SumXors', WHERE WHAT IT READS IS OF BULK AT MOST 1048576: true; the input reads as it did. -/
def sumXorsUptoRow : OpenClaim := { program := "ytkgenpoenpkpeaadoor", sum := "b963d9df6e9319acd38aacf7f304956e006fd850e0556f571e96525644451908", func := "packhorse/packhorselaw02.SumXors", spec := "sumXors", unfollowed := true, recurses := true, named := ["packhorse/sum.table"], apart := false, laid := [("packhorse/sum.table", laid_packhorse_sum_table)], narrowed := true }
def SumXorsUptoSaid : Prop := sumXorsUptoRow.holds Tryd.pinned (OpenSpec.upto sumXorsSpec)

/-- 'packhorselaw02.SumSums', WHERE WHAT IT READS IS OF BULK AT MOST 1048576: true; the input reads as it did. -/
def sumSumsUptoRow : OpenClaim := { program := "ytkgenpoenpkpeaadoor", sum := "b963d9df6e9319acd38aacf7f304956e006fd850e0556f571e96525644451908", func := "packhorse/packhorselaw02.SumSums", spec := "sumSums", unfollowed := true, recurses := true, named := ["packhorse/sum.table"], apart := false, laid := [("packhorse/sum.table", laid_packhorse_sum_table)], narrowed := true }
def SumSumsUptoSaid : Prop := sumSumsUptoRow.holds Tryd.pinned (OpenSpec.upto sumSumsSpec)

/-- 'packhorselaw02.SumBursts', WHERE WHAT IT READS IS OF BULK AT MOST 1048576: true; the input reads as it did. -/
def sumBurstsUptoRow : OpenClaim := { program := "ytkgenpoenpkpeaadoor", sum := "b963d9df6e9319acd38aacf7f304956e006fd850e0556f571e96525644451908", func := "packhorse/packhorselaw02.SumBursts", spec := "sumBursts", unfollowed := true, recurses := true, named := ["packhorse/sum.table"], apart := false, laid := [("packhorse/sum.table", laid_packhorse_sum_table)], narrowed := true }
def SumBurstsUptoSaid : Prop := sumBurstsUptoRow.holds Tryd.pinned (OpenSpec.upto sumBurstsSpec)

/-- 'packhorselaw02.SumFixes', WHERE WHAT IT READS IS OF BULK AT MOST 1048576: true; the input reads as it did. -/
def sumFixesUptoRow : OpenClaim := { program := "ytkgenpoenpkpeaadoor", sum := "b963d9df6e9319acd38aacf7f304956e006fd850e0556f571e96525644451908", func := "packhorse/packhorselaw02.SumFixes", spec := "sumFixes", unfollowed := true, recurses := true, named := ["packhorse/sum.table"], apart := false, laid := [("packhorse/sum.table", laid_packhorse_sum_table)], narrowed := true }
def SumFixesUptoSaid : Prop := sumFixesUptoRow.holds Tryd.pinned (OpenSpec.upto sumFixesSpec)

/-- 'packhorselaw02.SumOnly', WHERE WHAT IT READS IS OF BULK AT MOST 1048576: true; the input reads as it did. -/
def sumOnlyUptoRow : OpenClaim := { program := "ytkgenpoenpkpeaadoor", sum := "b963d9df6e9319acd38aacf7f304956e006fd850e0556f571e96525644451908", func := "packhorse/packhorselaw02.SumOnly", spec := "sumOnly", unfollowed := true, recurses := true, named := ["packhorse/sum.table"], apart := false, laid := [("packhorse/sum.table", laid_packhorse_sum_table)], narrowed := true }
def SumOnlyUptoSaid : Prop := sumOnlyUptoRow.holds Tryd.pinned (OpenSpec.upto sumOnlySpec)

/-- 'packhorselaw02.SumJoins', WHERE WHAT IT READS IS OF BULK AT MOST 1048576: true; the input reads as it did. -/
def sumJoinsUptoRow : OpenClaim := { program := "ytkgenpoenpkpeaadoor", sum := "b963d9df6e9319acd38aacf7f304956e006fd850e0556f571e96525644451908", func := "packhorse/packhorselaw02.SumJoins", spec := "sumJoins", unfollowed := true, recurses := true, named := ["packhorse/sum.table"], apart := false, laid := [("packhorse/sum.table", laid_packhorse_sum_table)], narrowed := true }
def SumJoinsUptoSaid : Prop := sumJoinsUptoRow.holds Tryd.pinned (OpenSpec.upto sumJoinsSpec)

/-- 'packhorselaw02.SumParts', WHERE WHAT IT READS IS OF BULK AT MOST 1048576: true; the input reads as it did. -/
def sumPartsUptoRow : OpenClaim := { program := "ytkgenpoenpkpeaadoor", sum := "b963d9df6e9319acd38aacf7f304956e006fd850e0556f571e96525644451908", func := "packhorse/packhorselaw02.SumParts", spec := "sumParts", unfollowed := true, recurses := true, named := ["packhorse/sum.table"], apart := false, laid := [("packhorse/sum.table", laid_packhorse_sum_table)], narrowed := true }
def SumPartsUptoSaid : Prop := sumPartsUptoRow.holds Tryd.pinned (OpenSpec.upto sumPartsSpec)

/-- 'packhorselaw02.SumKnown', WHERE WHAT IT READS IS OF BULK AT MOST 1048576: true; the input reads as it did. -/
def sumKnownUptoRow : OpenClaim := { program := "ytkgenpoenpkpeaadoor", sum := "b963d9df6e9319acd38aacf7f304956e006fd850e0556f571e96525644451908", func := "packhorse/packhorselaw02.SumKnown", spec := "sumKnown", unfollowed := true, recurses := true, named := ["packhorse/sum.table"], apart := false, laid := [("packhorse/sum.table", laid_packhorse_sum_table)], narrowed := true }
def SumKnownUptoSaid : Prop := sumKnownUptoRow.holds Tryd.pinned (OpenSpec.upto sumKnownSpec)

end Rows
end Go.Proofs.YtkgenpoenpkpeaaDoor
