/-
  No cell of these rows narrows 'for every input' (looked for: loops, veiled, ifaces, maps, wideKeys, modest, calm, conditions, laid).
  DERIVED. THE GIVEN ROWS OF THIS SEAT. 12 by the template 'for every input the law returns true; each argument reads behind the call as it read before'; 0 by the template 'total and deterministic' (their statements: YtebcapplclgaeaaTotals.lean).
  GIVEN WITH THE SEED: the statements are not yours to turn. If you find one false, say at which input.
  Laid BY PROGRAM, IN A SANDBOX (cutbox-rows.mjs): the forced cells as the released guide's own fill.sh prints them over the translation 2d49af695debafc4… (all of the seat's roots in one cut). By AI agents, Wed Nov 11 2026. No macro, syntax, notation, axiom, sorry.
-/
import Derived.Test.YtebcapplclgaeaaChecked
import GoSem.Claim
import GoSem.ClaimJoined
import GoSem.ClaimMapViews
import Derived.JoinedTies
import Derived.KernelRfl
namespace Go.Proofs.Ytebcapplclgaeaa
/- THE CELL 'sum', in the pinned program and in every row, IS THE sha256 OF THE DUMP (.gsa) THAT YtebcapplclgaeaaProg.lean LOADS. Nothing in Lean hashes anything: it is a label: what it is worth is what the hold of that sum in a sandbox is worth. -/
noncomputable def Try.pinned : Pinned := { name := "ytebcapplclgaeaa", sum := "2d49af695debafc4bad608d33734fdca6d726e20e8f9a7d25febf4e85947e59c", checked := Try.checked }
namespace Rows
def none {H : Type} : Left H := { results := [], args := [] }

/-- 'laws.FnExactQuadraticSquare': WHATEVER THE INPUT: true; the input reads as it did. -/
def fnExactQuadraticSquareSpec : ChangeSpec := { name := "fnExactQuadraticSquare", fn := fun _ => fun
  | [d1, d2, d3] => { results := [.lit (.bool true)], args := [d1, d2, d3] }
  | _ => none }
def fnExactQuadraticSquareRow : OpenClaim := { program := "ytebcapplclgaeaa", sum := "2d49af695debafc4bad608d33734fdca6d726e20e8f9a7d25febf4e85947e59c", func := "loop.example/g01195/laws.FnExactQuadraticSquare", spec := "fnExactQuadraticSquare", unfollowed := true, recurses := true, apart := false }
def FnExactQuadraticSquareSaid : Prop := fnExactQuadraticSquareRow.holds Try.pinned (OpenSpec.ofChange fnExactQuadraticSquareSpec)

/-- ITS FALSE NEIGHBOUR: 'it returns false'. Refute it at one input. -/
def fnExactQuadraticSquareWrong : ChangeSpec := { name := "fnExactQuadraticSquare", fn := fun _ => fun
  | [d1, d2, d3] => { results := [.lit (.bool false)], args := [d1, d2, d3] }
  | _ => none }
def FnExactQuadraticSquareWrongFalsely : Prop := fnExactQuadraticSquareRow.holds Try.pinned (OpenSpec.ofChange fnExactQuadraticSquareWrong)

/-- 'laws.FnExactTermText': WHATEVER THE INPUT: true; the input reads as it did. -/
def fnExactTermTextSpec : ChangeSpec := { name := "fnExactTermText", fn := fun _ => fun
  | [d] => { results := [.lit (.bool true)], args := [d] }
  | _ => none }
def fnExactTermTextRow : OpenClaim := { program := "ytebcapplclgaeaa", sum := "2d49af695debafc4bad608d33734fdca6d726e20e8f9a7d25febf4e85947e59c", func := "loop.example/g01195/laws.FnExactTermText", spec := "fnExactTermText", unfollowed := true, recurses := true, apart := false }
def FnExactTermTextSaid : Prop := fnExactTermTextRow.holds Try.pinned (OpenSpec.ofChange fnExactTermTextSpec)

/-- ITS FALSE NEIGHBOUR: 'it returns false'. Refute it at one input. -/
def fnExactTermTextWrong : ChangeSpec := { name := "fnExactTermText", fn := fun _ => fun
  | [d] => { results := [.lit (.bool false)], args := [d] }
  | _ => none }
def FnExactTermTextWrongFalsely : Prop := fnExactTermTextRow.holds Try.pinned (OpenSpec.ofChange fnExactTermTextWrong)

/-- 'laws.FnExactIsLoop': WHATEVER THE INPUT: true; the input reads as it did. -/
def fnExactIsLoopSpec : ChangeSpec := { name := "fnExactIsLoop", fn := fun _ => fun
  | [d] => { results := [.lit (.bool true)], args := [d] }
  | _ => none }
def fnExactIsLoopRow : OpenClaim := { program := "ytebcapplclgaeaa", sum := "2d49af695debafc4bad608d33734fdca6d726e20e8f9a7d25febf4e85947e59c", func := "loop.example/g01195/laws.FnExactIsLoop", spec := "fnExactIsLoop", apart := false }
def FnExactIsLoopSaid : Prop := fnExactIsLoopRow.holds Try.pinned (OpenSpec.ofChange fnExactIsLoopSpec)

/-- ITS FALSE NEIGHBOUR: 'it returns false'. Refute it at one input. -/
def fnExactIsLoopWrong : ChangeSpec := { name := "fnExactIsLoop", fn := fun _ => fun
  | [d] => { results := [.lit (.bool false)], args := [d] }
  | _ => none }
def FnExactIsLoopWrongFalsely : Prop := fnExactIsLoopRow.holds Try.pinned (OpenSpec.ofChange fnExactIsLoopWrong)

/-- 'laws.FnExactLeastBlock': WHATEVER THE INPUT: true; the input reads as it did. -/
def fnExactLeastBlockSpec : ChangeSpec := { name := "fnExactLeastBlock", fn := fun _ => fun
  | [d1, d2, d3, d4] => { results := [.lit (.bool true)], args := [d1, d2, d3, d4] }
  | _ => none }
def fnExactLeastBlockRow : OpenClaim := { program := "ytebcapplclgaeaa", sum := "2d49af695debafc4bad608d33734fdca6d726e20e8f9a7d25febf4e85947e59c", func := "loop.example/g01195/laws.FnExactLeastBlock", spec := "fnExactLeastBlock", apart := false }
def FnExactLeastBlockSaid : Prop := fnExactLeastBlockRow.holds Try.pinned (OpenSpec.ofChange fnExactLeastBlockSpec)

/-- ITS FALSE NEIGHBOUR: 'it returns false'. Refute it at one input. -/
def fnExactLeastBlockWrong : ChangeSpec := { name := "fnExactLeastBlock", fn := fun _ => fun
  | [d1, d2, d3, d4] => { results := [.lit (.bool false)], args := [d1, d2, d3, d4] }
  | _ => none }
def FnExactLeastBlockWrongFalsely : Prop := fnExactLeastBlockRow.holds Try.pinned (OpenSpec.ofChange fnExactLeastBlockWrong)

/-- 'laws.FnExactIsPartial': WHATEVER THE INPUT: true; the input reads as it did. -/
def fnExactIsPartialSpec : ChangeSpec := { name := "fnExactIsPartial", fn := fun _ => fun
  | [d] => { results := [.lit (.bool true)], args := [d] }
  | _ => none }
def fnExactIsPartialRow : OpenClaim := { program := "ytebcapplclgaeaa", sum := "2d49af695debafc4bad608d33734fdca6d726e20e8f9a7d25febf4e85947e59c", func := "loop.example/g01195/laws.FnExactIsPartial", spec := "fnExactIsPartial", apart := false }
def FnExactIsPartialSaid : Prop := fnExactIsPartialRow.holds Try.pinned (OpenSpec.ofChange fnExactIsPartialSpec)

/-- ITS FALSE NEIGHBOUR: 'it returns false'. Refute it at one input. -/
def fnExactIsPartialWrong : ChangeSpec := { name := "fnExactIsPartial", fn := fun _ => fun
  | [d] => { results := [.lit (.bool false)], args := [d] }
  | _ => none }
def FnExactIsPartialWrongFalsely : Prop := fnExactIsPartialRow.holds Try.pinned (OpenSpec.ofChange fnExactIsPartialWrong)

/-- 'laws.FnExactIsIdempotent': WHATEVER THE INPUT: true; the input reads as it did. -/
def fnExactIsIdempotentSpec : ChangeSpec := { name := "fnExactIsIdempotent", fn := fun _ => fun
  | [d] => { results := [.lit (.bool true)], args := [d] }
  | _ => none }
def fnExactIsIdempotentRow : OpenClaim := { program := "ytebcapplclgaeaa", sum := "2d49af695debafc4bad608d33734fdca6d726e20e8f9a7d25febf4e85947e59c", func := "loop.example/g01195/laws.FnExactIsIdempotent", spec := "fnExactIsIdempotent", unfollowed := true, recurses := true, apart := false }
def FnExactIsIdempotentSaid : Prop := fnExactIsIdempotentRow.holds Try.pinned (OpenSpec.ofChange fnExactIsIdempotentSpec)

/-- ITS FALSE NEIGHBOUR: 'it returns false'. Refute it at one input. -/
def fnExactIsIdempotentWrong : ChangeSpec := { name := "fnExactIsIdempotent", fn := fun _ => fun
  | [d] => { results := [.lit (.bool false)], args := [d] }
  | _ => none }
def FnExactIsIdempotentWrongFalsely : Prop := fnExactIsIdempotentRow.holds Try.pinned (OpenSpec.ofChange fnExactIsIdempotentWrong)

/-- 'laws.FnExactIsUnipotent': WHATEVER THE INPUT: true; the input reads as it did. -/
def fnExactIsUnipotentSpec : ChangeSpec := { name := "fnExactIsUnipotent", fn := fun _ => fun
  | [d] => { results := [.lit (.bool true)], args := [d] }
  | _ => none }
def fnExactIsUnipotentRow : OpenClaim := { program := "ytebcapplclgaeaa", sum := "2d49af695debafc4bad608d33734fdca6d726e20e8f9a7d25febf4e85947e59c", func := "loop.example/g01195/laws.FnExactIsUnipotent", spec := "fnExactIsUnipotent", unfollowed := true, recurses := true, apart := false }
def FnExactIsUnipotentSaid : Prop := fnExactIsUnipotentRow.holds Try.pinned (OpenSpec.ofChange fnExactIsUnipotentSpec)

/-- ITS FALSE NEIGHBOUR: 'it returns false'. Refute it at one input. -/
def fnExactIsUnipotentWrong : ChangeSpec := { name := "fnExactIsUnipotent", fn := fun _ => fun
  | [d] => { results := [.lit (.bool false)], args := [d] }
  | _ => none }
def FnExactIsUnipotentWrongFalsely : Prop := fnExactIsUnipotentRow.holds Try.pinned (OpenSpec.ofChange fnExactIsUnipotentWrong)

/-- 'laws.FnExactBackTriple': WHATEVER THE INPUT: true; the input reads as it did. -/
def fnExactBackTripleSpec : ChangeSpec := { name := "fnExactBackTriple", fn := fun _ => fun
  | [d1, d2] => { results := [.lit (.bool true)], args := [d1, d2] }
  | _ => none }
def fnExactBackTripleRow : OpenClaim := { program := "ytebcapplclgaeaa", sum := "2d49af695debafc4bad608d33734fdca6d726e20e8f9a7d25febf4e85947e59c", func := "loop.example/g01195/laws.FnExactBackTriple", spec := "fnExactBackTriple", apart := false }
def FnExactBackTripleSaid : Prop := fnExactBackTripleRow.holds Try.pinned (OpenSpec.ofChange fnExactBackTripleSpec)

/-- ITS FALSE NEIGHBOUR: 'it returns false'. Refute it at one input. -/
def fnExactBackTripleWrong : ChangeSpec := { name := "fnExactBackTriple", fn := fun _ => fun
  | [d1, d2] => { results := [.lit (.bool false)], args := [d1, d2] }
  | _ => none }
def FnExactBackTripleWrongFalsely : Prop := fnExactBackTripleRow.holds Try.pinned (OpenSpec.ofChange fnExactBackTripleWrong)

/-- 'laws.FnExactThenTriples': WHATEVER THE INPUT: true; the input reads as it did. -/
def fnExactThenTriplesSpec : ChangeSpec := { name := "fnExactThenTriples", fn := fun _ => fun
  | [d1, d2, d3] => { results := [.lit (.bool true)], args := [d1, d2, d3] }
  | _ => none }
def fnExactThenTriplesRow : OpenClaim := { program := "ytebcapplclgaeaa", sum := "2d49af695debafc4bad608d33734fdca6d726e20e8f9a7d25febf4e85947e59c", func := "loop.example/g01195/laws.FnExactThenTriples", spec := "fnExactThenTriples", apart := false }
def FnExactThenTriplesSaid : Prop := fnExactThenTriplesRow.holds Try.pinned (OpenSpec.ofChange fnExactThenTriplesSpec)

/-- ITS FALSE NEIGHBOUR: 'it returns false'. Refute it at one input. -/
def fnExactThenTriplesWrong : ChangeSpec := { name := "fnExactThenTriples", fn := fun _ => fun
  | [d1, d2, d3] => { results := [.lit (.bool false)], args := [d1, d2, d3] }
  | _ => none }
def FnExactThenTriplesWrongFalsely : Prop := fnExactThenTriplesRow.holds Try.pinned (OpenSpec.ofChange fnExactThenTriplesWrong)

/-- 'laws.FnExactProductIn': WHATEVER THE INPUT: true; the input reads as it did. -/
def fnExactProductInSpec : ChangeSpec := { name := "fnExactProductIn", fn := fun _ => fun
  | [d1, d2, d3] => { results := [.lit (.bool true)], args := [d1, d2, d3] }
  | _ => none }
def fnExactProductInRow : OpenClaim := { program := "ytebcapplclgaeaa", sum := "2d49af695debafc4bad608d33734fdca6d726e20e8f9a7d25febf4e85947e59c", func := "loop.example/g01195/laws.FnExactProductIn", spec := "fnExactProductIn", apart := false }
def FnExactProductInSaid : Prop := fnExactProductInRow.holds Try.pinned (OpenSpec.ofChange fnExactProductInSpec)

/-- ITS FALSE NEIGHBOUR: 'it returns false'. Refute it at one input. -/
def fnExactProductInWrong : ChangeSpec := { name := "fnExactProductIn", fn := fun _ => fun
  | [d1, d2, d3] => { results := [.lit (.bool false)], args := [d1, d2, d3] }
  | _ => none }
def FnExactProductInWrongFalsely : Prop := fnExactProductInRow.holds Try.pinned (OpenSpec.ofChange fnExactProductInWrong)

/-- 'laws.FnGroups': WHATEVER THE INPUT: true; the input reads as it did. -/
def fnGroupsSpec : ChangeSpec := { name := "fnGroups", fn := fun _ => fun
  | [d] => { results := [.lit (.bool true)], args := [d] }
  | _ => none }
def fnGroupsRow : OpenClaim := { program := "ytebcapplclgaeaa", sum := "2d49af695debafc4bad608d33734fdca6d726e20e8f9a7d25febf4e85947e59c", func := "loop.example/g01195/laws.FnGroups", spec := "fnGroups", recurses := true, apart := false }
def FnGroupsSaid : Prop := fnGroupsRow.holds Try.pinned (OpenSpec.ofChange fnGroupsSpec)

/-- ITS FALSE NEIGHBOUR: 'it returns false'. Refute it at one input. -/
def fnGroupsWrong : ChangeSpec := { name := "fnGroups", fn := fun _ => fun
  | [d] => { results := [.lit (.bool false)], args := [d] }
  | _ => none }
def FnGroupsWrongFalsely : Prop := fnGroupsRow.holds Try.pinned (OpenSpec.ofChange fnGroupsWrong)

/-- 'laws.FnExactSquareText': WHATEVER THE INPUT: true; the input reads as it did. -/
def fnExactSquareTextSpec : ChangeSpec := { name := "fnExactSquareText", fn := fun _ => fun
  | [d] => { results := [.lit (.bool true)], args := [d] }
  | _ => none }
def fnExactSquareTextRow : OpenClaim := { program := "ytebcapplclgaeaa", sum := "2d49af695debafc4bad608d33734fdca6d726e20e8f9a7d25febf4e85947e59c", func := "loop.example/g01195/laws.FnExactSquareText", spec := "fnExactSquareText", apart := false }
def FnExactSquareTextSaid : Prop := fnExactSquareTextRow.holds Try.pinned (OpenSpec.ofChange fnExactSquareTextSpec)

/-- ITS FALSE NEIGHBOUR: 'it returns false'. Refute it at one input. -/
def fnExactSquareTextWrong : ChangeSpec := { name := "fnExactSquareText", fn := fun _ => fun
  | [d] => { results := [.lit (.bool false)], args := [d] }
  | _ => none }
def FnExactSquareTextWrongFalsely : Prop := fnExactSquareTextRow.holds Try.pinned (OpenSpec.ofChange fnExactSquareTextWrong)

/- THE SECOND FORM. 'bulk': how many values and letters a reading holds, each counted each time it is reached (what is shared counts as often as it is met; a slice's spare places count too). A statement '..UptoSaid' is the law's where the arguments, and the package variables that the reading takes, are together of bulk at most 1048576: NARROWER than '..Said'. Prove '..Said' where nothing that the law and all that it calls make is longer than what came in: it says more and counts as full. Else prove '..UptoSaid'. A law counts once. -/
mutual
def uptoBulk {H : Type} : DataW H → Nat
  | .lit (.string bytes) => bytes.length + 1
  | .lit _ => 1
  | .nil => 1
  | .ptr d => uptoBulk d + 1
  | .slice elems spare => uptoBulkAll elems + uptoBulkAll spare + 1
  | .agg parts => uptoBulkAll parts + 1
  | .iface _ d => uptoBulk d + 1
  | .map entries => uptoBulkEntries entries + 1
  | .held _ => 1
def uptoBulkAll {H : Type} : List (DataW H) → Nat
  | [] => 0
  | d :: r => uptoBulk d + uptoBulkAll r
def uptoBulkEntries {H : Type} : List (Lit × DataW H) → Nat
  | [] => 0
  | x :: r => uptoBulkEntry x + uptoBulkEntries r
def uptoBulkEntry {H : Type} : Lit × DataW H → Nat
  | (.string bytes, d) => bytes.length + uptoBulk d + 1
  | (_, d) => uptoBulk d + 1
 end
def uptoSmall : (H : Type) → List (DataW H) → Bool := fun _ ds => decide (uptoBulkAll ds ≤ 1048576)
def OpenSpec.upto (s : _root_.Go.ChangeSpec) : _root_.Go.OpenSpec := { _root_.Go.OpenSpec.ofChange s with cond := some uptoSmall }

/-- 'laws.FnExactQuadraticSquare', WHERE WHAT IT READS IS OF BULK AT MOST 1048576: true; the input reads as it did. -/
def fnExactQuadraticSquareUptoRow : OpenClaim := { program := "ytebcapplclgaeaa", sum := "2d49af695debafc4bad608d33734fdca6d726e20e8f9a7d25febf4e85947e59c", func := "loop.example/g01195/laws.FnExactQuadraticSquare", spec := "fnExactQuadraticSquare", unfollowed := true, recurses := true, apart := false, narrowed := true }
def FnExactQuadraticSquareUptoSaid : Prop := fnExactQuadraticSquareUptoRow.holds Try.pinned (OpenSpec.upto fnExactQuadraticSquareSpec)

/-- 'laws.FnExactTermText', WHERE WHAT IT READS IS OF BULK AT MOST 1048576: true; the input reads as it did. -/
def fnExactTermTextUptoRow : OpenClaim := { program := "ytebcapplclgaeaa", sum := "2d49af695debafc4bad608d33734fdca6d726e20e8f9a7d25febf4e85947e59c", func := "loop.example/g01195/laws.FnExactTermText", spec := "fnExactTermText", unfollowed := true, recurses := true, apart := false, narrowed := true }
def FnExactTermTextUptoSaid : Prop := fnExactTermTextUptoRow.holds Try.pinned (OpenSpec.upto fnExactTermTextSpec)

/-- 'laws.FnExactIsLoop', WHERE WHAT IT READS IS OF BULK AT MOST 1048576: true; the input reads as it did. -/
def fnExactIsLoopUptoRow : OpenClaim := { program := "ytebcapplclgaeaa", sum := "2d49af695debafc4bad608d33734fdca6d726e20e8f9a7d25febf4e85947e59c", func := "loop.example/g01195/laws.FnExactIsLoop", spec := "fnExactIsLoop", apart := false, narrowed := true }
def FnExactIsLoopUptoSaid : Prop := fnExactIsLoopUptoRow.holds Try.pinned (OpenSpec.upto fnExactIsLoopSpec)

/-- 'laws.FnExactLeastBlock', WHERE WHAT IT READS IS OF BULK AT MOST 1048576: true; the input reads as it did. -/
def fnExactLeastBlockUptoRow : OpenClaim := { program := "ytebcapplclgaeaa", sum := "2d49af695debafc4bad608d33734fdca6d726e20e8f9a7d25febf4e85947e59c", func := "loop.example/g01195/laws.FnExactLeastBlock", spec := "fnExactLeastBlock", apart := false, narrowed := true }
def FnExactLeastBlockUptoSaid : Prop := fnExactLeastBlockUptoRow.holds Try.pinned (OpenSpec.upto fnExactLeastBlockSpec)

/-- 'laws.FnExactIsPartial', WHERE WHAT IT READS IS OF BULK AT MOST 1048576: true; the input reads as it did. -/
def fnExactIsPartialUptoRow : OpenClaim := { program := "ytebcapplclgaeaa", sum := "2d49af695debafc4bad608d33734fdca6d726e20e8f9a7d25febf4e85947e59c", func := "loop.example/g01195/laws.FnExactIsPartial", spec := "fnExactIsPartial", apart := false, narrowed := true }
def FnExactIsPartialUptoSaid : Prop := fnExactIsPartialUptoRow.holds Try.pinned (OpenSpec.upto fnExactIsPartialSpec)

/-- 'laws.FnExactIsIdempotent', WHERE WHAT IT READS IS OF BULK AT MOST 1048576: true; the input reads as it did. -/
def fnExactIsIdempotentUptoRow : OpenClaim := { program := "ytebcapplclgaeaa", sum := "2d49af695debafc4bad608d33734fdca6d726e20e8f9a7d25febf4e85947e59c", func := "loop.example/g01195/laws.FnExactIsIdempotent", spec := "fnExactIsIdempotent", unfollowed := true, recurses := true, apart := false, narrowed := true }
def FnExactIsIdempotentUptoSaid : Prop := fnExactIsIdempotentUptoRow.holds Try.pinned (OpenSpec.upto fnExactIsIdempotentSpec)

/-- 'laws.FnExactIsUnipotent', WHERE WHAT IT READS IS OF BULK AT MOST 1048576: true; the input reads as it did. -/
def fnExactIsUnipotentUptoRow : OpenClaim := { program := "ytebcapplclgaeaa", sum := "2d49af695debafc4bad608d33734fdca6d726e20e8f9a7d25febf4e85947e59c", func := "loop.example/g01195/laws.FnExactIsUnipotent", spec := "fnExactIsUnipotent", unfollowed := true, recurses := true, apart := false, narrowed := true }
def FnExactIsUnipotentUptoSaid : Prop := fnExactIsUnipotentUptoRow.holds Try.pinned (OpenSpec.upto fnExactIsUnipotentSpec)

/-- 'laws.FnExactBackTriple', WHERE WHAT IT READS IS OF BULK AT MOST 1048576: true; the input reads as it did. -/
def fnExactBackTripleUptoRow : OpenClaim := { program := "ytebcapplclgaeaa", sum := "2d49af695debafc4bad608d33734fdca6d726e20e8f9a7d25febf4e85947e59c", func := "loop.example/g01195/laws.FnExactBackTriple", spec := "fnExactBackTriple", apart := false, narrowed := true }
def FnExactBackTripleUptoSaid : Prop := fnExactBackTripleUptoRow.holds Try.pinned (OpenSpec.upto fnExactBackTripleSpec)

/-- 'laws.FnExactThenTriples', WHERE WHAT IT READS IS OF BULK AT MOST 1048576: true; the input reads as it did. -/
def fnExactThenTriplesUptoRow : OpenClaim := { program := "ytebcapplclgaeaa", sum := "2d49af695debafc4bad608d33734fdca6d726e20e8f9a7d25febf4e85947e59c", func := "loop.example/g01195/laws.FnExactThenTriples", spec := "fnExactThenTriples", apart := false, narrowed := true }
def FnExactThenTriplesUptoSaid : Prop := fnExactThenTriplesUptoRow.holds Try.pinned (OpenSpec.upto fnExactThenTriplesSpec)

/-- 'laws.FnExactProductIn', WHERE WHAT IT READS IS OF BULK AT MOST 1048576: true; the input reads as it did. -/
def fnExactProductInUptoRow : OpenClaim := { program := "ytebcapplclgaeaa", sum := "2d49af695debafc4bad608d33734fdca6d726e20e8f9a7d25febf4e85947e59c", func := "loop.example/g01195/laws.FnExactProductIn", spec := "fnExactProductIn", apart := false, narrowed := true }
def FnExactProductInUptoSaid : Prop := fnExactProductInUptoRow.holds Try.pinned (OpenSpec.upto fnExactProductInSpec)

/-- 'laws.FnGroups', WHERE WHAT IT READS IS OF BULK AT MOST 1048576: true; the input reads as it did. -/
def fnGroupsUptoRow : OpenClaim := { program := "ytebcapplclgaeaa", sum := "2d49af695debafc4bad608d33734fdca6d726e20e8f9a7d25febf4e85947e59c", func := "loop.example/g01195/laws.FnGroups", spec := "fnGroups", recurses := true, apart := false, narrowed := true }
def FnGroupsUptoSaid : Prop := fnGroupsUptoRow.holds Try.pinned (OpenSpec.upto fnGroupsSpec)

/-- 'laws.FnExactSquareText', WHERE WHAT IT READS IS OF BULK AT MOST 1048576: true; the input reads as it did. -/
def fnExactSquareTextUptoRow : OpenClaim := { program := "ytebcapplclgaeaa", sum := "2d49af695debafc4bad608d33734fdca6d726e20e8f9a7d25febf4e85947e59c", func := "loop.example/g01195/laws.FnExactSquareText", spec := "fnExactSquareText", apart := false, narrowed := true }
def FnExactSquareTextUptoSaid : Prop := fnExactSquareTextUptoRow.holds Try.pinned (OpenSpec.upto fnExactSquareTextSpec)

end Rows
end Go.Proofs.Ytebcapplclgaeaa
