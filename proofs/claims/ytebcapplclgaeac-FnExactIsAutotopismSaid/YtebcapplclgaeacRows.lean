/-
  No cell of these rows narrows 'for every input' (looked for: loops, veiled, ifaces, maps, wideKeys, modest, calm, conditions, laid).
  DERIVED. THE GIVEN ROWS OF THIS SEAT. 12 by the template 'for every input the law returns true; each argument reads behind the call as it read before'; 0 by the template 'total and deterministic' (their statements: YtebcapplclgaeacTotals.lean).
  GIVEN WITH THE SEED: the statements are not yours to turn. If you find one false, say at which input.
  Laid BY PROGRAM, IN A SANDBOX (cutbox-rows.mjs): the forced cells as the released guide's own fill.sh prints them over the translation 52959fa2d8ae2320… (all of the seat's roots in one cut). By AI agents, Wed Nov 11 2026. No macro, syntax, notation, axiom, sorry.
-/
import Derived.Test.YtebcapplclgaeacChecked
import GoSem.Claim
import GoSem.ClaimJoined
import GoSem.ClaimMapViews
import Derived.JoinedTies
import Derived.KernelRfl
namespace Go.Proofs.Ytebcapplclgaeac
/- THE CELL 'sum', in the pinned program and in every row, IS THE sha256 OF THE DUMP (.gsa) THAT YtebcapplclgaeacProg.lean LOADS. Nothing in Lean hashes anything: it is a label: what it is worth is what the hold of that sum in a sandbox is worth. -/
noncomputable def Try.pinned : Pinned := { name := "ytebcapplclgaeac", sum := "52959fa2d8ae2320ee957b24bc8641d97182319aa5ed35d43b590918ec9f65d6", checked := Try.checked }
namespace Rows
def none {H : Type} : Left H := { results := [], args := [] }

/-- 'laws.FnExactExponentOf': WHATEVER THE INPUT: true; the input reads as it did. -/
def fnExactExponentOfSpec : ChangeSpec := { name := "fnExactExponentOf", fn := fun _ => fun
  | [d] => { results := [.lit (.bool true)], args := [d] }
  | _ => none }
def fnExactExponentOfRow : OpenClaim := { program := "ytebcapplclgaeac", sum := "52959fa2d8ae2320ee957b24bc8641d97182319aa5ed35d43b590918ec9f65d6", func := "loop.example/g01195/laws.FnExactExponentOf", spec := "fnExactExponentOf", apart := false }
def FnExactExponentOfSaid : Prop := fnExactExponentOfRow.holds Try.pinned (OpenSpec.ofChange fnExactExponentOfSpec)

/-- ITS FALSE NEIGHBOUR: 'it returns false'. Refute it at one input. -/
def fnExactExponentOfWrong : ChangeSpec := { name := "fnExactExponentOf", fn := fun _ => fun
  | [d] => { results := [.lit (.bool false)], args := [d] }
  | _ => none }
def FnExactExponentOfWrongFalsely : Prop := fnExactExponentOfRow.holds Try.pinned (OpenSpec.ofChange fnExactExponentOfWrong)

/-- 'laws.FnExactLeftInverse': WHATEVER THE INPUT: true; the input reads as it did. -/
def fnExactLeftInverseSpec : ChangeSpec := { name := "fnExactLeftInverse", fn := fun _ => fun
  | [d1, d2] => { results := [.lit (.bool true)], args := [d1, d2] }
  | _ => none }
def fnExactLeftInverseRow : OpenClaim := { program := "ytebcapplclgaeac", sum := "52959fa2d8ae2320ee957b24bc8641d97182319aa5ed35d43b590918ec9f65d6", func := "loop.example/g01195/laws.FnExactLeftInverse", spec := "fnExactLeftInverse", apart := false }
def FnExactLeftInverseSaid : Prop := fnExactLeftInverseRow.holds Try.pinned (OpenSpec.ofChange fnExactLeftInverseSpec)

/-- ITS FALSE NEIGHBOUR: 'it returns false'. Refute it at one input. -/
def fnExactLeftInverseWrong : ChangeSpec := { name := "fnExactLeftInverse", fn := fun _ => fun
  | [d1, d2] => { results := [.lit (.bool false)], args := [d1, d2] }
  | _ => none }
def FnExactLeftInverseWrongFalsely : Prop := fnExactLeftInverseRow.holds Try.pinned (OpenSpec.ofChange fnExactLeftInverseWrong)

/-- 'laws.FnExactRightInverse': WHATEVER THE INPUT: true; the input reads as it did. -/
def fnExactRightInverseSpec : ChangeSpec := { name := "fnExactRightInverse", fn := fun _ => fun
  | [d1, d2] => { results := [.lit (.bool true)], args := [d1, d2] }
  | _ => none }
def fnExactRightInverseRow : OpenClaim := { program := "ytebcapplclgaeac", sum := "52959fa2d8ae2320ee957b24bc8641d97182319aa5ed35d43b590918ec9f65d6", func := "loop.example/g01195/laws.FnExactRightInverse", spec := "fnExactRightInverse", apart := false }
def FnExactRightInverseSaid : Prop := fnExactRightInverseRow.holds Try.pinned (OpenSpec.ofChange fnExactRightInverseSpec)

/-- ITS FALSE NEIGHBOUR: 'it returns false'. Refute it at one input. -/
def fnExactRightInverseWrong : ChangeSpec := { name := "fnExactRightInverse", fn := fun _ => fun
  | [d1, d2] => { results := [.lit (.bool false)], args := [d1, d2] }
  | _ => none }
def FnExactRightInverseWrongFalsely : Prop := fnExactRightInverseRow.holds Try.pinned (OpenSpec.ofChange fnExactRightInverseWrong)

/-- 'laws.FnExactOrderOf': WHATEVER THE INPUT: true; the input reads as it did. -/
def fnExactOrderOfSpec : ChangeSpec := { name := "fnExactOrderOf", fn := fun _ => fun
  | [d1, d2] => { results := [.lit (.bool true)], args := [d1, d2] }
  | _ => none }
def fnExactOrderOfRow : OpenClaim := { program := "ytebcapplclgaeac", sum := "52959fa2d8ae2320ee957b24bc8641d97182319aa5ed35d43b590918ec9f65d6", func := "loop.example/g01195/laws.FnExactOrderOf", spec := "fnExactOrderOf", apart := false }
def FnExactOrderOfSaid : Prop := fnExactOrderOfRow.holds Try.pinned (OpenSpec.ofChange fnExactOrderOfSpec)

/-- ITS FALSE NEIGHBOUR: 'it returns false'. Refute it at one input. -/
def fnExactOrderOfWrong : ChangeSpec := { name := "fnExactOrderOf", fn := fun _ => fun
  | [d1, d2] => { results := [.lit (.bool false)], args := [d1, d2] }
  | _ => none }
def FnExactOrderOfWrongFalsely : Prop := fnExactOrderOfRow.holds Try.pinned (OpenSpec.ofChange fnExactOrderOfWrong)

/-- 'laws.FnExactAssociatingCount': WHATEVER THE INPUT: true; the input reads as it did. -/
def fnExactAssociatingCountSpec : ChangeSpec := { name := "fnExactAssociatingCount", fn := fun _ => fun
  | [d] => { results := [.lit (.bool true)], args := [d] }
  | _ => none }
def fnExactAssociatingCountRow : OpenClaim := { program := "ytebcapplclgaeac", sum := "52959fa2d8ae2320ee957b24bc8641d97182319aa5ed35d43b590918ec9f65d6", func := "loop.example/g01195/laws.FnExactAssociatingCount", spec := "fnExactAssociatingCount", unfollowed := true, recurses := true, apart := false }
def FnExactAssociatingCountSaid : Prop := fnExactAssociatingCountRow.holds Try.pinned (OpenSpec.ofChange fnExactAssociatingCountSpec)

/-- ITS FALSE NEIGHBOUR: 'it returns false'. Refute it at one input. -/
def fnExactAssociatingCountWrong : ChangeSpec := { name := "fnExactAssociatingCount", fn := fun _ => fun
  | [d] => { results := [.lit (.bool false)], args := [d] }
  | _ => none }
def FnExactAssociatingCountWrongFalsely : Prop := fnExactAssociatingCountRow.holds Try.pinned (OpenSpec.ofChange fnExactAssociatingCountWrong)

/-- 'laws.FnExactParseSquare': WHATEVER THE INPUT: true; the input reads as it did. -/
def fnExactParseSquareSpec : ChangeSpec := { name := "fnExactParseSquare", fn := fun _ => fun
  | [d] => { results := [.lit (.bool true)], args := [d] }
  | _ => none }
def fnExactParseSquareRow : OpenClaim := { program := "ytebcapplclgaeac", sum := "52959fa2d8ae2320ee957b24bc8641d97182319aa5ed35d43b590918ec9f65d6", func := "loop.example/g01195/laws.FnExactParseSquare", spec := "fnExactParseSquare", unfollowed := true, recurses := true, apart := false }
def FnExactParseSquareSaid : Prop := fnExactParseSquareRow.holds Try.pinned (OpenSpec.ofChange fnExactParseSquareSpec)

/-- ITS FALSE NEIGHBOUR: 'it returns false'. Refute it at one input. -/
def fnExactParseSquareWrong : ChangeSpec := { name := "fnExactParseSquare", fn := fun _ => fun
  | [d] => { results := [.lit (.bool false)], args := [d] }
  | _ => none }
def FnExactParseSquareWrongFalsely : Prop := fnExactParseSquareRow.holds Try.pinned (OpenSpec.ofChange fnExactParseSquareWrong)

/-- 'laws.FnExactCommutatorOf': WHATEVER THE INPUT: true; the input reads as it did. -/
def fnExactCommutatorOfSpec : ChangeSpec := { name := "fnExactCommutatorOf", fn := fun _ => fun
  | [d1, d2, d3] => { results := [.lit (.bool true)], args := [d1, d2, d3] }
  | _ => none }
def fnExactCommutatorOfRow : OpenClaim := { program := "ytebcapplclgaeac", sum := "52959fa2d8ae2320ee957b24bc8641d97182319aa5ed35d43b590918ec9f65d6", func := "loop.example/g01195/laws.FnExactCommutatorOf", spec := "fnExactCommutatorOf", apart := false }
def FnExactCommutatorOfSaid : Prop := fnExactCommutatorOfRow.holds Try.pinned (OpenSpec.ofChange fnExactCommutatorOfSpec)

/-- ITS FALSE NEIGHBOUR: 'it returns false'. Refute it at one input. -/
def fnExactCommutatorOfWrong : ChangeSpec := { name := "fnExactCommutatorOf", fn := fun _ => fun
  | [d1, d2, d3] => { results := [.lit (.bool false)], args := [d1, d2, d3] }
  | _ => none }
def FnExactCommutatorOfWrongFalsely : Prop := fnExactCommutatorOfRow.holds Try.pinned (OpenSpec.ofChange fnExactCommutatorOfWrong)

/-- 'laws.FnExactIsHomomorphism': WHATEVER THE INPUT: true; the input reads as it did. -/
def fnExactIsHomomorphismSpec : ChangeSpec := { name := "fnExactIsHomomorphism", fn := fun _ => fun
  | [d1, d2, d3] => { results := [.lit (.bool true)], args := [d1, d2, d3] }
  | _ => none }
def fnExactIsHomomorphismRow : OpenClaim := { program := "ytebcapplclgaeac", sum := "52959fa2d8ae2320ee957b24bc8641d97182319aa5ed35d43b590918ec9f65d6", func := "loop.example/g01195/laws.FnExactIsHomomorphism", spec := "fnExactIsHomomorphism", unfollowed := true, recurses := true, apart := false }
def FnExactIsHomomorphismSaid : Prop := fnExactIsHomomorphismRow.holds Try.pinned (OpenSpec.ofChange fnExactIsHomomorphismSpec)

/-- ITS FALSE NEIGHBOUR: 'it returns false'. Refute it at one input. -/
def fnExactIsHomomorphismWrong : ChangeSpec := { name := "fnExactIsHomomorphism", fn := fun _ => fun
  | [d1, d2, d3] => { results := [.lit (.bool false)], args := [d1, d2, d3] }
  | _ => none }
def FnExactIsHomomorphismWrongFalsely : Prop := fnExactIsHomomorphismRow.holds Try.pinned (OpenSpec.ofChange fnExactIsHomomorphismWrong)

/-- 'laws.FnExactAssociatorOf': WHATEVER THE INPUT: true; the input reads as it did. -/
def fnExactAssociatorOfSpec : ChangeSpec := { name := "fnExactAssociatorOf", fn := fun _ => fun
  | [d1, d2, d3, d4] => { results := [.lit (.bool true)], args := [d1, d2, d3, d4] }
  | _ => none }
def fnExactAssociatorOfRow : OpenClaim := { program := "ytebcapplclgaeac", sum := "52959fa2d8ae2320ee957b24bc8641d97182319aa5ed35d43b590918ec9f65d6", func := "loop.example/g01195/laws.FnExactAssociatorOf", spec := "fnExactAssociatorOf", apart := false }
def FnExactAssociatorOfSaid : Prop := fnExactAssociatorOfRow.holds Try.pinned (OpenSpec.ofChange fnExactAssociatorOfSpec)

/-- ITS FALSE NEIGHBOUR: 'it returns false'. Refute it at one input. -/
def fnExactAssociatorOfWrong : ChangeSpec := { name := "fnExactAssociatorOf", fn := fun _ => fun
  | [d1, d2, d3, d4] => { results := [.lit (.bool false)], args := [d1, d2, d3, d4] }
  | _ => none }
def FnExactAssociatorOfWrongFalsely : Prop := fnExactAssociatorOfRow.holds Try.pinned (OpenSpec.ofChange fnExactAssociatorOfWrong)

/-- 'laws.FnExactColumnMaps': WHATEVER THE INPUT: true; the input reads as it did. -/
def fnExactColumnMapsSpec : ChangeSpec := { name := "fnExactColumnMaps", fn := fun _ => fun
  | [d] => { results := [.lit (.bool true)], args := [d] }
  | _ => none }
def fnExactColumnMapsRow : OpenClaim := { program := "ytebcapplclgaeac", sum := "52959fa2d8ae2320ee957b24bc8641d97182319aa5ed35d43b590918ec9f65d6", func := "loop.example/g01195/laws.FnExactColumnMaps", spec := "fnExactColumnMaps", apart := false }
def FnExactColumnMapsSaid : Prop := fnExactColumnMapsRow.holds Try.pinned (OpenSpec.ofChange fnExactColumnMapsSpec)

/-- ITS FALSE NEIGHBOUR: 'it returns false'. Refute it at one input. -/
def fnExactColumnMapsWrong : ChangeSpec := { name := "fnExactColumnMaps", fn := fun _ => fun
  | [d] => { results := [.lit (.bool false)], args := [d] }
  | _ => none }
def FnExactColumnMapsWrongFalsely : Prop := fnExactColumnMapsRow.holds Try.pinned (OpenSpec.ofChange fnExactColumnMapsWrong)

/-- 'laws.FnExactListsOfSquare': WHATEVER THE INPUT: true; the input reads as it did. -/
def fnExactListsOfSquareSpec : ChangeSpec := { name := "fnExactListsOfSquare", fn := fun _ => fun
  | [d] => { results := [.lit (.bool true)], args := [d] }
  | _ => none }
def fnExactListsOfSquareRow : OpenClaim := { program := "ytebcapplclgaeac", sum := "52959fa2d8ae2320ee957b24bc8641d97182319aa5ed35d43b590918ec9f65d6", func := "loop.example/g01195/laws.FnExactListsOfSquare", spec := "fnExactListsOfSquare", apart := false }
def FnExactListsOfSquareSaid : Prop := fnExactListsOfSquareRow.holds Try.pinned (OpenSpec.ofChange fnExactListsOfSquareSpec)

/-- ITS FALSE NEIGHBOUR: 'it returns false'. Refute it at one input. -/
def fnExactListsOfSquareWrong : ChangeSpec := { name := "fnExactListsOfSquare", fn := fun _ => fun
  | [d] => { results := [.lit (.bool false)], args := [d] }
  | _ => none }
def FnExactListsOfSquareWrongFalsely : Prop := fnExactListsOfSquareRow.holds Try.pinned (OpenSpec.ofChange fnExactListsOfSquareWrong)

/-- 'laws.FnExactIsAutotopism': WHATEVER THE INPUT: true; the input reads as it did. -/
def fnExactIsAutotopismSpec : ChangeSpec := { name := "fnExactIsAutotopism", fn := fun _ => fun
  | [d1, d2] => { results := [.lit (.bool true)], args := [d1, d2] }
  | _ => none }
def fnExactIsAutotopismRow : OpenClaim := { program := "ytebcapplclgaeac", sum := "52959fa2d8ae2320ee957b24bc8641d97182319aa5ed35d43b590918ec9f65d6", func := "loop.example/g01195/laws.FnExactIsAutotopism", spec := "fnExactIsAutotopism", apart := false }
def FnExactIsAutotopismSaid : Prop := fnExactIsAutotopismRow.holds Try.pinned (OpenSpec.ofChange fnExactIsAutotopismSpec)

/-- ITS FALSE NEIGHBOUR: 'it returns false'. Refute it at one input. -/
def fnExactIsAutotopismWrong : ChangeSpec := { name := "fnExactIsAutotopism", fn := fun _ => fun
  | [d1, d2] => { results := [.lit (.bool false)], args := [d1, d2] }
  | _ => none }
def FnExactIsAutotopismWrongFalsely : Prop := fnExactIsAutotopismRow.holds Try.pinned (OpenSpec.ofChange fnExactIsAutotopismWrong)

/- THE SECOND FORM. 'bulk': how many values and letters a reading holds, each counted each time it is reached (what is shared counts as often as it is met; a slice's spare places count too). A statement '..UptoSaid' is the law's where the arguments, and the package variables that the reading takes, are together of bulk at most 1048576: NARROWER than '..Said'. Prove '..Said' where nothing that the law and all that it calls make is longer than what came in: it says more and counts as full. Else prove '..UptoSaid'. A law counts once. -/
mutual
def uptoBulk {H : Type} : DataW H → Nat
  | .lit (.string bytes) => bytes.length + 1
  | .lit _ => 1
  | .nil => 1
  | .ptr d => uptoBulk d + 1
  | .slice elems spare => uptoBulkAll elems + uptoBulkAll spare + 1
  | .agg parts => uptoBulkAll parts + 1
  | .iface _ d => uptoBulk d + 1
  | .map entries => uptoBulkEntries entries + 1
  | .held _ => 1
def uptoBulkAll {H : Type} : List (DataW H) → Nat
  | [] => 0
  | d :: r => uptoBulk d + uptoBulkAll r
def uptoBulkEntries {H : Type} : List (Lit × DataW H) → Nat
  | [] => 0
  | x :: r => uptoBulkEntry x + uptoBulkEntries r
def uptoBulkEntry {H : Type} : Lit × DataW H → Nat
  | (.string bytes, d) => bytes.length + uptoBulk d + 1
  | (_, d) => uptoBulk d + 1
 end
def uptoSmall : (H : Type) → List (DataW H) → Bool := fun _ ds => decide (uptoBulkAll ds ≤ 1048576)
def OpenSpec.upto (s : _root_.Go.ChangeSpec) : _root_.Go.OpenSpec := { _root_.Go.OpenSpec.ofChange s with cond := some uptoSmall }

/-- 'laws.FnExactExponentOf', WHERE WHAT IT READS IS OF BULK AT MOST 1048576: true; the input reads as it did. -/
def fnExactExponentOfUptoRow : OpenClaim := { program := "ytebcapplclgaeac", sum := "52959fa2d8ae2320ee957b24bc8641d97182319aa5ed35d43b590918ec9f65d6", func := "loop.example/g01195/laws.FnExactExponentOf", spec := "fnExactExponentOf", apart := false, narrowed := true }
def FnExactExponentOfUptoSaid : Prop := fnExactExponentOfUptoRow.holds Try.pinned (OpenSpec.upto fnExactExponentOfSpec)

/-- 'laws.FnExactLeftInverse', WHERE WHAT IT READS IS OF BULK AT MOST 1048576: true; the input reads as it did. -/
def fnExactLeftInverseUptoRow : OpenClaim := { program := "ytebcapplclgaeac", sum := "52959fa2d8ae2320ee957b24bc8641d97182319aa5ed35d43b590918ec9f65d6", func := "loop.example/g01195/laws.FnExactLeftInverse", spec := "fnExactLeftInverse", apart := false, narrowed := true }
def FnExactLeftInverseUptoSaid : Prop := fnExactLeftInverseUptoRow.holds Try.pinned (OpenSpec.upto fnExactLeftInverseSpec)

/-- 'laws.FnExactRightInverse', WHERE WHAT IT READS IS OF BULK AT MOST 1048576: true; the input reads as it did. -/
def fnExactRightInverseUptoRow : OpenClaim := { program := "ytebcapplclgaeac", sum := "52959fa2d8ae2320ee957b24bc8641d97182319aa5ed35d43b590918ec9f65d6", func := "loop.example/g01195/laws.FnExactRightInverse", spec := "fnExactRightInverse", apart := false, narrowed := true }
def FnExactRightInverseUptoSaid : Prop := fnExactRightInverseUptoRow.holds Try.pinned (OpenSpec.upto fnExactRightInverseSpec)

/-- 'laws.FnExactOrderOf', WHERE WHAT IT READS IS OF BULK AT MOST 1048576: true; the input reads as it did. -/
def fnExactOrderOfUptoRow : OpenClaim := { program := "ytebcapplclgaeac", sum := "52959fa2d8ae2320ee957b24bc8641d97182319aa5ed35d43b590918ec9f65d6", func := "loop.example/g01195/laws.FnExactOrderOf", spec := "fnExactOrderOf", apart := false, narrowed := true }
def FnExactOrderOfUptoSaid : Prop := fnExactOrderOfUptoRow.holds Try.pinned (OpenSpec.upto fnExactOrderOfSpec)

/-- 'laws.FnExactAssociatingCount', WHERE WHAT IT READS IS OF BULK AT MOST 1048576: true; the input reads as it did. -/
def fnExactAssociatingCountUptoRow : OpenClaim := { program := "ytebcapplclgaeac", sum := "52959fa2d8ae2320ee957b24bc8641d97182319aa5ed35d43b590918ec9f65d6", func := "loop.example/g01195/laws.FnExactAssociatingCount", spec := "fnExactAssociatingCount", unfollowed := true, recurses := true, apart := false, narrowed := true }
def FnExactAssociatingCountUptoSaid : Prop := fnExactAssociatingCountUptoRow.holds Try.pinned (OpenSpec.upto fnExactAssociatingCountSpec)

/-- 'laws.FnExactParseSquare', WHERE WHAT IT READS IS OF BULK AT MOST 1048576: true; the input reads as it did. -/
def fnExactParseSquareUptoRow : OpenClaim := { program := "ytebcapplclgaeac", sum := "52959fa2d8ae2320ee957b24bc8641d97182319aa5ed35d43b590918ec9f65d6", func := "loop.example/g01195/laws.FnExactParseSquare", spec := "fnExactParseSquare", unfollowed := true, recurses := true, apart := false, narrowed := true }
def FnExactParseSquareUptoSaid : Prop := fnExactParseSquareUptoRow.holds Try.pinned (OpenSpec.upto fnExactParseSquareSpec)

/-- 'laws.FnExactCommutatorOf', WHERE WHAT IT READS IS OF BULK AT MOST 1048576: true; the input reads as it did. -/
def fnExactCommutatorOfUptoRow : OpenClaim := { program := "ytebcapplclgaeac", sum := "52959fa2d8ae2320ee957b24bc8641d97182319aa5ed35d43b590918ec9f65d6", func := "loop.example/g01195/laws.FnExactCommutatorOf", spec := "fnExactCommutatorOf", apart := false, narrowed := true }
def FnExactCommutatorOfUptoSaid : Prop := fnExactCommutatorOfUptoRow.holds Try.pinned (OpenSpec.upto fnExactCommutatorOfSpec)

/-- 'laws.FnExactIsHomomorphism', WHERE WHAT IT READS IS OF BULK AT MOST 1048576: true; the input reads as it did. -/
def fnExactIsHomomorphismUptoRow : OpenClaim := { program := "ytebcapplclgaeac", sum := "52959fa2d8ae2320ee957b24bc8641d97182319aa5ed35d43b590918ec9f65d6", func := "loop.example/g01195/laws.FnExactIsHomomorphism", spec := "fnExactIsHomomorphism", unfollowed := true, recurses := true, apart := false, narrowed := true }
def FnExactIsHomomorphismUptoSaid : Prop := fnExactIsHomomorphismUptoRow.holds Try.pinned (OpenSpec.upto fnExactIsHomomorphismSpec)

/-- 'laws.FnExactAssociatorOf', WHERE WHAT IT READS IS OF BULK AT MOST 1048576: true; the input reads as it did. -/
def fnExactAssociatorOfUptoRow : OpenClaim := { program := "ytebcapplclgaeac", sum := "52959fa2d8ae2320ee957b24bc8641d97182319aa5ed35d43b590918ec9f65d6", func := "loop.example/g01195/laws.FnExactAssociatorOf", spec := "fnExactAssociatorOf", apart := false, narrowed := true }
def FnExactAssociatorOfUptoSaid : Prop := fnExactAssociatorOfUptoRow.holds Try.pinned (OpenSpec.upto fnExactAssociatorOfSpec)

/-- 'laws.FnExactColumnMaps', WHERE WHAT IT READS IS OF BULK AT MOST 1048576: true; the input reads as it did. -/
def fnExactColumnMapsUptoRow : OpenClaim := { program := "ytebcapplclgaeac", sum := "52959fa2d8ae2320ee957b24bc8641d97182319aa5ed35d43b590918ec9f65d6", func := "loop.example/g01195/laws.FnExactColumnMaps", spec := "fnExactColumnMaps", apart := false, narrowed := true }
def FnExactColumnMapsUptoSaid : Prop := fnExactColumnMapsUptoRow.holds Try.pinned (OpenSpec.upto fnExactColumnMapsSpec)

/-- 'laws.FnExactListsOfSquare', WHERE WHAT IT READS IS OF BULK AT MOST 1048576: true; the input reads as it did. -/
def fnExactListsOfSquareUptoRow : OpenClaim := { program := "ytebcapplclgaeac", sum := "52959fa2d8ae2320ee957b24bc8641d97182319aa5ed35d43b590918ec9f65d6", func := "loop.example/g01195/laws.FnExactListsOfSquare", spec := "fnExactListsOfSquare", apart := false, narrowed := true }
def FnExactListsOfSquareUptoSaid : Prop := fnExactListsOfSquareUptoRow.holds Try.pinned (OpenSpec.upto fnExactListsOfSquareSpec)

/-- 'laws.FnExactIsAutotopism', WHERE WHAT IT READS IS OF BULK AT MOST 1048576: true; the input reads as it did. -/
def fnExactIsAutotopismUptoRow : OpenClaim := { program := "ytebcapplclgaeac", sum := "52959fa2d8ae2320ee957b24bc8641d97182319aa5ed35d43b590918ec9f65d6", func := "loop.example/g01195/laws.FnExactIsAutotopism", spec := "fnExactIsAutotopism", apart := false, narrowed := true }
def FnExactIsAutotopismUptoSaid : Prop := fnExactIsAutotopismUptoRow.holds Try.pinned (OpenSpec.upto fnExactIsAutotopismSpec)

end Rows
end Go.Proofs.Ytebcapplclgaeac
