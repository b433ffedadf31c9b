/-
  No cell of these rows narrows 'for every input' (looked for: loops, veiled, ifaces, maps, wideKeys, modest, calm, conditions, laid).
  DERIVED. THE GIVEN ROWS OF THIS SEAT. 12 by the template 'for every input the law returns true; each argument reads behind the call as it read before'; 0 by the template 'total and deterministic' (their statements: YtebcapplclgaeabTotals.lean).
  GIVEN WITH THE SEED: the statements are not yours to turn. If you find one false, say at which input.
  Laid BY PROGRAM, IN A SANDBOX (cutbox-rows.mjs): the forced cells as the released guide's own fill.sh prints them over the translation 31c6810672d47756… (all of the seat's roots in one cut). By AI agents, Wed Nov 11 2026. No macro, syntax, notation, axiom, sorry.
-/
import Derived.Test.YtebcapplclgaeabChecked
import GoSem.Claim
import GoSem.ClaimJoined
import GoSem.ClaimMapViews
import Derived.JoinedTies
import Derived.KernelRfl
namespace Go.Proofs.Ytebcapplclgaeab
/- THE CELL 'sum', in the pinned program and in every row, IS THE sha256 OF THE DUMP (.gsa) THAT YtebcapplclgaeabProg.lean LOADS. Nothing in Lean hashes anything: it is a label: what it is worth is what the hold of that sum in a sandbox is worth. -/
noncomputable def Try.pinned : Pinned := { name := "ytebcapplclgaeab", sum := "31c6810672d47756e556b558276319b23ae73ad134e9fe559408e25340ce42a8", checked := Try.checked }
namespace Rows
def none {H : Type} : Left H := { results := [], args := [] }

/-- 'laws.FnExactRowMap': WHATEVER THE INPUT: true; the input reads as it did. -/
def fnExactRowMapSpec : ChangeSpec := { name := "fnExactRowMap", fn := fun _ => fun
  | [d1, d2] => { results := [.lit (.bool true)], args := [d1, d2] }
  | _ => none }
def fnExactRowMapRow : OpenClaim := { program := "ytebcapplclgaeab", sum := "31c6810672d47756e556b558276319b23ae73ad134e9fe559408e25340ce42a8", func := "loop.example/g01195/laws.FnExactRowMap", spec := "fnExactRowMap", apart := false }
def FnExactRowMapSaid : Prop := fnExactRowMapRow.holds Try.pinned (OpenSpec.ofChange fnExactRowMapSpec)

/-- ITS FALSE NEIGHBOUR: 'it returns false'. Refute it at one input. -/
def fnExactRowMapWrong : ChangeSpec := { name := "fnExactRowMap", fn := fun _ => fun
  | [d1, d2] => { results := [.lit (.bool false)], args := [d1, d2] }
  | _ => none }
def FnExactRowMapWrongFalsely : Prop := fnExactRowMapRow.holds Try.pinned (OpenSpec.ofChange fnExactRowMapWrong)

/-- 'laws.FnExactLeftQuotient': WHATEVER THE INPUT: true; the input reads as it did. -/
def fnExactLeftQuotientSpec : ChangeSpec := { name := "fnExactLeftQuotient", fn := fun _ => fun
  | [d1, d2, d3] => { results := [.lit (.bool true)], args := [d1, d2, d3] }
  | _ => none }
def fnExactLeftQuotientRow : OpenClaim := { program := "ytebcapplclgaeab", sum := "31c6810672d47756e556b558276319b23ae73ad134e9fe559408e25340ce42a8", func := "loop.example/g01195/laws.FnExactLeftQuotient", spec := "fnExactLeftQuotient", apart := false }
def FnExactLeftQuotientSaid : Prop := fnExactLeftQuotientRow.holds Try.pinned (OpenSpec.ofChange fnExactLeftQuotientSpec)

/-- ITS FALSE NEIGHBOUR: 'it returns false'. Refute it at one input. -/
def fnExactLeftQuotientWrong : ChangeSpec := { name := "fnExactLeftQuotient", fn := fun _ => fun
  | [d1, d2, d3] => { results := [.lit (.bool false)], args := [d1, d2, d3] }
  | _ => none }
def FnExactLeftQuotientWrongFalsely : Prop := fnExactLeftQuotientRow.holds Try.pinned (OpenSpec.ofChange fnExactLeftQuotientWrong)

/-- 'laws.FnExactRightQuotient': WHATEVER THE INPUT: true; the input reads as it did. -/
def fnExactRightQuotientSpec : ChangeSpec := { name := "fnExactRightQuotient", fn := fun _ => fun
  | [d1, d2, d3] => { results := [.lit (.bool true)], args := [d1, d2, d3] }
  | _ => none }
def fnExactRightQuotientRow : OpenClaim := { program := "ytebcapplclgaeab", sum := "31c6810672d47756e556b558276319b23ae73ad134e9fe559408e25340ce42a8", func := "loop.example/g01195/laws.FnExactRightQuotient", spec := "fnExactRightQuotient", apart := false }
def FnExactRightQuotientSaid : Prop := fnExactRightQuotientRow.holds Try.pinned (OpenSpec.ofChange fnExactRightQuotientSpec)

/-- ITS FALSE NEIGHBOUR: 'it returns false'. Refute it at one input. -/
def fnExactRightQuotientWrong : ChangeSpec := { name := "fnExactRightQuotient", fn := fun _ => fun
  | [d1, d2, d3] => { results := [.lit (.bool false)], args := [d1, d2, d3] }
  | _ => none }
def FnExactRightQuotientWrongFalsely : Prop := fnExactRightQuotientRow.holds Try.pinned (OpenSpec.ofChange fnExactRightQuotientWrong)

/-- 'laws.FnExactAreOrthogonal': WHATEVER THE INPUT: true; the input reads as it did. -/
def fnExactAreOrthogonalSpec : ChangeSpec := { name := "fnExactAreOrthogonal", fn := fun _ => fun
  | [d1, d2] => { results := [.lit (.bool true)], args := [d1, d2] }
  | _ => none }
def fnExactAreOrthogonalRow : OpenClaim := { program := "ytebcapplclgaeab", sum := "31c6810672d47756e556b558276319b23ae73ad134e9fe559408e25340ce42a8", func := "loop.example/g01195/laws.FnExactAreOrthogonal", spec := "fnExactAreOrthogonal", unfollowed := true, recurses := true, apart := false }
def FnExactAreOrthogonalSaid : Prop := fnExactAreOrthogonalRow.holds Try.pinned (OpenSpec.ofChange fnExactAreOrthogonalSpec)

/-- ITS FALSE NEIGHBOUR: 'it returns false'. Refute it at one input. -/
def fnExactAreOrthogonalWrong : ChangeSpec := { name := "fnExactAreOrthogonal", fn := fun _ => fun
  | [d1, d2] => { results := [.lit (.bool false)], args := [d1, d2] }
  | _ => none }
def FnExactAreOrthogonalWrongFalsely : Prop := fnExactAreOrthogonalRow.holds Try.pinned (OpenSpec.ofChange fnExactAreOrthogonalWrong)

/-- 'laws.FnExactIsGroup': WHATEVER THE INPUT: true; the input reads as it did. -/
def fnExactIsGroupSpec : ChangeSpec := { name := "fnExactIsGroup", fn := fun _ => fun
  | [d] => { results := [.lit (.bool true)], args := [d] }
  | _ => none }
def fnExactIsGroupRow : OpenClaim := { program := "ytebcapplclgaeab", sum := "31c6810672d47756e556b558276319b23ae73ad134e9fe559408e25340ce42a8", func := "loop.example/g01195/laws.FnExactIsGroup", spec := "fnExactIsGroup", apart := false }
def FnExactIsGroupSaid : Prop := fnExactIsGroupRow.holds Try.pinned (OpenSpec.ofChange fnExactIsGroupSpec)

/-- ITS FALSE NEIGHBOUR: 'it returns false'. Refute it at one input. -/
def fnExactIsGroupWrong : ChangeSpec := { name := "fnExactIsGroup", fn := fun _ => fun
  | [d] => { results := [.lit (.bool false)], args := [d] }
  | _ => none }
def FnExactIsGroupWrongFalsely : Prop := fnExactIsGroupRow.holds Try.pinned (OpenSpec.ofChange fnExactIsGroupWrong)

/-- 'laws.FnExactIdentityText': WHATEVER THE INPUT: true; the input reads as it did. -/
def fnExactIdentityTextSpec : ChangeSpec := { name := "fnExactIdentityText", fn := fun _ => fun
  | [d] => { results := [.lit (.bool true)], args := [d] }
  | _ => none }
def fnExactIdentityTextRow : OpenClaim := { program := "ytebcapplclgaeab", sum := "31c6810672d47756e556b558276319b23ae73ad134e9fe559408e25340ce42a8", func := "loop.example/g01195/laws.FnExactIdentityText", spec := "fnExactIdentityText", unfollowed := true, recurses := true, apart := false }
def FnExactIdentityTextSaid : Prop := fnExactIdentityTextRow.holds Try.pinned (OpenSpec.ofChange fnExactIdentityTextSpec)

/-- ITS FALSE NEIGHBOUR: 'it returns false'. Refute it at one input. -/
def fnExactIdentityTextWrong : ChangeSpec := { name := "fnExactIdentityText", fn := fun _ => fun
  | [d] => { results := [.lit (.bool false)], args := [d] }
  | _ => none }
def FnExactIdentityTextWrongFalsely : Prop := fnExactIdentityTextRow.holds Try.pinned (OpenSpec.ofChange fnExactIdentityTextWrong)

/-- 'laws.FnExactOppositeOf': WHATEVER THE INPUT: true; the input reads as it did. -/
def fnExactOppositeOfSpec : ChangeSpec := { name := "fnExactOppositeOf", fn := fun _ => fun
  | [d] => { results := [.lit (.bool true)], args := [d] }
  | _ => none }
def fnExactOppositeOfRow : OpenClaim := { program := "ytebcapplclgaeab", sum := "31c6810672d47756e556b558276319b23ae73ad134e9fe559408e25340ce42a8", func := "loop.example/g01195/laws.FnExactOppositeOf", spec := "fnExactOppositeOf", unfollowed := true, recurses := true, apart := false }
def FnExactOppositeOfSaid : Prop := fnExactOppositeOfRow.holds Try.pinned (OpenSpec.ofChange fnExactOppositeOfSpec)

/-- ITS FALSE NEIGHBOUR: 'it returns false'. Refute it at one input. -/
def fnExactOppositeOfWrong : ChangeSpec := { name := "fnExactOppositeOf", fn := fun _ => fun
  | [d] => { results := [.lit (.bool false)], args := [d] }
  | _ => none }
def FnExactOppositeOfWrongFalsely : Prop := fnExactOppositeOfRow.holds Try.pinned (OpenSpec.ofChange fnExactOppositeOfWrong)

/-- 'laws.FnExactColumnMap': WHATEVER THE INPUT: true; the input reads as it did. -/
def fnExactColumnMapSpec : ChangeSpec := { name := "fnExactColumnMap", fn := fun _ => fun
  | [d1, d2] => { results := [.lit (.bool true)], args := [d1, d2] }
  | _ => none }
def fnExactColumnMapRow : OpenClaim := { program := "ytebcapplclgaeab", sum := "31c6810672d47756e556b558276319b23ae73ad134e9fe559408e25340ce42a8", func := "loop.example/g01195/laws.FnExactColumnMap", spec := "fnExactColumnMap", apart := false }
def FnExactColumnMapSaid : Prop := fnExactColumnMapRow.holds Try.pinned (OpenSpec.ofChange fnExactColumnMapSpec)

/-- ITS FALSE NEIGHBOUR: 'it returns false'. Refute it at one input. -/
def fnExactColumnMapWrong : ChangeSpec := { name := "fnExactColumnMap", fn := fun _ => fun
  | [d1, d2] => { results := [.lit (.bool false)], args := [d1, d2] }
  | _ => none }
def FnExactColumnMapWrongFalsely : Prop := fnExactColumnMapRow.holds Try.pinned (OpenSpec.ofChange fnExactColumnMapWrong)

/-- 'laws.FnExactCommutingCount': WHATEVER THE INPUT: true; the input reads as it did. -/
def fnExactCommutingCountSpec : ChangeSpec := { name := "fnExactCommutingCount", fn := fun _ => fun
  | [d] => { results := [.lit (.bool true)], args := [d] }
  | _ => none }
def fnExactCommutingCountRow : OpenClaim := { program := "ytebcapplclgaeab", sum := "31c6810672d47756e556b558276319b23ae73ad134e9fe559408e25340ce42a8", func := "loop.example/g01195/laws.FnExactCommutingCount", spec := "fnExactCommutingCount", unfollowed := true, recurses := true, apart := false }
def FnExactCommutingCountSaid : Prop := fnExactCommutingCountRow.holds Try.pinned (OpenSpec.ofChange fnExactCommutingCountSpec)

/-- ITS FALSE NEIGHBOUR: 'it returns false'. Refute it at one input. -/
def fnExactCommutingCountWrong : ChangeSpec := { name := "fnExactCommutingCount", fn := fun _ => fun
  | [d] => { results := [.lit (.bool false)], args := [d] }
  | _ => none }
def FnExactCommutingCountWrongFalsely : Prop := fnExactCommutingCountRow.holds Try.pinned (OpenSpec.ofChange fnExactCommutingCountWrong)

/-- 'laws.FnExactCountTransversals': WHATEVER THE INPUT: true; the input reads as it did. -/
def fnExactCountTransversalsSpec : ChangeSpec := { name := "fnExactCountTransversals", fn := fun _ => fun
  | [d] => { results := [.lit (.bool true)], args := [d] }
  | _ => none }
def fnExactCountTransversalsRow : OpenClaim := { program := "ytebcapplclgaeab", sum := "31c6810672d47756e556b558276319b23ae73ad134e9fe559408e25340ce42a8", func := "loop.example/g01195/laws.FnExactCountTransversals", spec := "fnExactCountTransversals", unfollowed := true, recurses := true, apart := false }
def FnExactCountTransversalsSaid : Prop := fnExactCountTransversalsRow.holds Try.pinned (OpenSpec.ofChange fnExactCountTransversalsSpec)

/-- ITS FALSE NEIGHBOUR: 'it returns false'. Refute it at one input. -/
def fnExactCountTransversalsWrong : ChangeSpec := { name := "fnExactCountTransversals", fn := fun _ => fun
  | [d] => { results := [.lit (.bool false)], args := [d] }
  | _ => none }
def FnExactCountTransversalsWrongFalsely : Prop := fnExactCountTransversalsRow.holds Try.pinned (OpenSpec.ofChange fnExactCountTransversalsWrong)

/-- 'laws.FnExactDirectProduct': WHATEVER THE INPUT: true; the input reads as it did. -/
def fnExactDirectProductSpec : ChangeSpec := { name := "fnExactDirectProduct", fn := fun _ => fun
  | [d1, d2] => { results := [.lit (.bool true)], args := [d1, d2] }
  | _ => none }
def fnExactDirectProductRow : OpenClaim := { program := "ytebcapplclgaeab", sum := "31c6810672d47756e556b558276319b23ae73ad134e9fe559408e25340ce42a8", func := "loop.example/g01195/laws.FnExactDirectProduct", spec := "fnExactDirectProduct", unfollowed := true, recurses := true, apart := false }
def FnExactDirectProductSaid : Prop := fnExactDirectProductRow.holds Try.pinned (OpenSpec.ofChange fnExactDirectProductSpec)

/-- ITS FALSE NEIGHBOUR: 'it returns false'. Refute it at one input. -/
def fnExactDirectProductWrong : ChangeSpec := { name := "fnExactDirectProduct", fn := fun _ => fun
  | [d1, d2] => { results := [.lit (.bool false)], args := [d1, d2] }
  | _ => none }
def FnExactDirectProductWrongFalsely : Prop := fnExactDirectProductRow.holds Try.pinned (OpenSpec.ofChange fnExactDirectProductWrong)

/-- 'laws.FnExactRowMaps': WHATEVER THE INPUT: true; the input reads as it did. -/
def fnExactRowMapsSpec : ChangeSpec := { name := "fnExactRowMaps", fn := fun _ => fun
  | [d] => { results := [.lit (.bool true)], args := [d] }
  | _ => none }
def fnExactRowMapsRow : OpenClaim := { program := "ytebcapplclgaeab", sum := "31c6810672d47756e556b558276319b23ae73ad134e9fe559408e25340ce42a8", func := "loop.example/g01195/laws.FnExactRowMaps", spec := "fnExactRowMaps", apart := false }
def FnExactRowMapsSaid : Prop := fnExactRowMapsRow.holds Try.pinned (OpenSpec.ofChange fnExactRowMapsSpec)

/-- ITS FALSE NEIGHBOUR: 'it returns false'. Refute it at one input. -/
def fnExactRowMapsWrong : ChangeSpec := { name := "fnExactRowMaps", fn := fun _ => fun
  | [d] => { results := [.lit (.bool false)], args := [d] }
  | _ => none }
def FnExactRowMapsWrongFalsely : Prop := fnExactRowMapsRow.holds Try.pinned (OpenSpec.ofChange fnExactRowMapsWrong)

/- THE SECOND FORM. 'bulk': how many values and letters a reading holds, each counted each time it is reached (what is shared counts as often as it is met; a slice's spare places count too). A statement '..UptoSaid' is the law's where the arguments, and the package variables that the reading takes, are together of bulk at most 1048576: NARROWER than '..Said'. Prove '..Said' where nothing that the law and all that it calls make is longer than what came in: it says more and counts as full. Else prove '..UptoSaid'. A law counts once. -/
mutual
def uptoBulk {H : Type} : DataW H → Nat
  | .lit (.string bytes) => bytes.length + 1
  | .lit _ => 1
  | .nil => 1
  | .ptr d => uptoBulk d + 1
  | .slice elems spare => uptoBulkAll elems + uptoBulkAll spare + 1
  | .agg parts => uptoBulkAll parts + 1
  | .iface _ d => uptoBulk d + 1
  | .map entries => uptoBulkEntries entries + 1
  | .held _ => 1
def uptoBulkAll {H : Type} : List (DataW H) → Nat
  | [] => 0
  | d :: r => uptoBulk d + uptoBulkAll r
def uptoBulkEntries {H : Type} : List (Lit × DataW H) → Nat
  | [] => 0
  | x :: r => uptoBulkEntry x + uptoBulkEntries r
def uptoBulkEntry {H : Type} : Lit × DataW H → Nat
  | (.string bytes, d) => bytes.length + uptoBulk d + 1
  | (_, d) => uptoBulk d + 1
 end
def uptoSmall : (H : Type) → List (DataW H) → Bool := fun _ ds => decide (uptoBulkAll ds ≤ 1048576)
def OpenSpec.upto (s : _root_.Go.ChangeSpec) : _root_.Go.OpenSpec := { _root_.Go.OpenSpec.ofChange s with cond := some uptoSmall }

/-- 'laws.FnExactRowMap', WHERE WHAT IT READS IS OF BULK AT MOST 1048576: true; the input reads as it did. -/
def fnExactRowMapUptoRow : OpenClaim := { program := "ytebcapplclgaeab", sum := "31c6810672d47756e556b558276319b23ae73ad134e9fe559408e25340ce42a8", func := "loop.example/g01195/laws.FnExactRowMap", spec := "fnExactRowMap", apart := false, narrowed := true }
def FnExactRowMapUptoSaid : Prop := fnExactRowMapUptoRow.holds Try.pinned (OpenSpec.upto fnExactRowMapSpec)

/-- 'laws.FnExactLeftQuotient', WHERE WHAT IT READS IS OF BULK AT MOST 1048576: true; the input reads as it did. -/
def fnExactLeftQuotientUptoRow : OpenClaim := { program := "ytebcapplclgaeab", sum := "31c6810672d47756e556b558276319b23ae73ad134e9fe559408e25340ce42a8", func := "loop.example/g01195/laws.FnExactLeftQuotient", spec := "fnExactLeftQuotient", apart := false, narrowed := true }
def FnExactLeftQuotientUptoSaid : Prop := fnExactLeftQuotientUptoRow.holds Try.pinned (OpenSpec.upto fnExactLeftQuotientSpec)

/-- 'laws.FnExactRightQuotient', WHERE WHAT IT READS IS OF BULK AT MOST 1048576: true; the input reads as it did. -/
def fnExactRightQuotientUptoRow : OpenClaim := { program := "ytebcapplclgaeab", sum := "31c6810672d47756e556b558276319b23ae73ad134e9fe559408e25340ce42a8", func := "loop.example/g01195/laws.FnExactRightQuotient", spec := "fnExactRightQuotient", apart := false, narrowed := true }
def FnExactRightQuotientUptoSaid : Prop := fnExactRightQuotientUptoRow.holds Try.pinned (OpenSpec.upto fnExactRightQuotientSpec)

/-- 'laws.FnExactAreOrthogonal', WHERE WHAT IT READS IS OF BULK AT MOST 1048576: true; the input reads as it did. -/
def fnExactAreOrthogonalUptoRow : OpenClaim := { program := "ytebcapplclgaeab", sum := "31c6810672d47756e556b558276319b23ae73ad134e9fe559408e25340ce42a8", func := "loop.example/g01195/laws.FnExactAreOrthogonal", spec := "fnExactAreOrthogonal", unfollowed := true, recurses := true, apart := false, narrowed := true }
def FnExactAreOrthogonalUptoSaid : Prop := fnExactAreOrthogonalUptoRow.holds Try.pinned (OpenSpec.upto fnExactAreOrthogonalSpec)

/-- 'laws.FnExactIsGroup', WHERE WHAT IT READS IS OF BULK AT MOST 1048576: true; the input reads as it did. -/
def fnExactIsGroupUptoRow : OpenClaim := { program := "ytebcapplclgaeab", sum := "31c6810672d47756e556b558276319b23ae73ad134e9fe559408e25340ce42a8", func := "loop.example/g01195/laws.FnExactIsGroup", spec := "fnExactIsGroup", apart := false, narrowed := true }
def FnExactIsGroupUptoSaid : Prop := fnExactIsGroupUptoRow.holds Try.pinned (OpenSpec.upto fnExactIsGroupSpec)

/-- 'laws.FnExactIdentityText', WHERE WHAT IT READS IS OF BULK AT MOST 1048576: true; the input reads as it did. -/
def fnExactIdentityTextUptoRow : OpenClaim := { program := "ytebcapplclgaeab", sum := "31c6810672d47756e556b558276319b23ae73ad134e9fe559408e25340ce42a8", func := "loop.example/g01195/laws.FnExactIdentityText", spec := "fnExactIdentityText", unfollowed := true, recurses := true, apart := false, narrowed := true }
def FnExactIdentityTextUptoSaid : Prop := fnExactIdentityTextUptoRow.holds Try.pinned (OpenSpec.upto fnExactIdentityTextSpec)

/-- 'laws.FnExactOppositeOf', WHERE WHAT IT READS IS OF BULK AT MOST 1048576: true; the input reads as it did. -/
def fnExactOppositeOfUptoRow : OpenClaim := { program := "ytebcapplclgaeab", sum := "31c6810672d47756e556b558276319b23ae73ad134e9fe559408e25340ce42a8", func := "loop.example/g01195/laws.FnExactOppositeOf", spec := "fnExactOppositeOf", unfollowed := true, recurses := true, apart := false, narrowed := true }
def FnExactOppositeOfUptoSaid : Prop := fnExactOppositeOfUptoRow.holds Try.pinned (OpenSpec.upto fnExactOppositeOfSpec)

/-- 'laws.FnExactColumnMap', WHERE WHAT IT READS IS OF BULK AT MOST 1048576: true; the input reads as it did. -/
def fnExactColumnMapUptoRow : OpenClaim := { program := "ytebcapplclgaeab", sum := "31c6810672d47756e556b558276319b23ae73ad134e9fe559408e25340ce42a8", func := "loop.example/g01195/laws.FnExactColumnMap", spec := "fnExactColumnMap", apart := false, narrowed := true }
def FnExactColumnMapUptoSaid : Prop := fnExactColumnMapUptoRow.holds Try.pinned (OpenSpec.upto fnExactColumnMapSpec)

/-- 'laws.FnExactCommutingCount', WHERE WHAT IT READS IS OF BULK AT MOST 1048576: true; the input reads as it did. -/
def fnExactCommutingCountUptoRow : OpenClaim := { program := "ytebcapplclgaeab", sum := "31c6810672d47756e556b558276319b23ae73ad134e9fe559408e25340ce42a8", func := "loop.example/g01195/laws.FnExactCommutingCount", spec := "fnExactCommutingCount", unfollowed := true, recurses := true, apart := false, narrowed := true }
def FnExactCommutingCountUptoSaid : Prop := fnExactCommutingCountUptoRow.holds Try.pinned (OpenSpec.upto fnExactCommutingCountSpec)

/-- 'laws.FnExactCountTransversals', WHERE WHAT IT READS IS OF BULK AT MOST 1048576: true; the input reads as it did. -/
def fnExactCountTransversalsUptoRow : OpenClaim := { program := "ytebcapplclgaeab", sum := "31c6810672d47756e556b558276319b23ae73ad134e9fe559408e25340ce42a8", func := "loop.example/g01195/laws.FnExactCountTransversals", spec := "fnExactCountTransversals", unfollowed := true, recurses := true, apart := false, narrowed := true }
def FnExactCountTransversalsUptoSaid : Prop := fnExactCountTransversalsUptoRow.holds Try.pinned (OpenSpec.upto fnExactCountTransversalsSpec)

/-- 'laws.FnExactDirectProduct', WHERE WHAT IT READS IS OF BULK AT MOST 1048576: true; the input reads as it did. -/
def fnExactDirectProductUptoRow : OpenClaim := { program := "ytebcapplclgaeab", sum := "31c6810672d47756e556b558276319b23ae73ad134e9fe559408e25340ce42a8", func := "loop.example/g01195/laws.FnExactDirectProduct", spec := "fnExactDirectProduct", unfollowed := true, recurses := true, apart := false, narrowed := true }
def FnExactDirectProductUptoSaid : Prop := fnExactDirectProductUptoRow.holds Try.pinned (OpenSpec.upto fnExactDirectProductSpec)

/-- 'laws.FnExactRowMaps', WHERE WHAT IT READS IS OF BULK AT MOST 1048576: true; the input reads as it did. -/
def fnExactRowMapsUptoRow : OpenClaim := { program := "ytebcapplclgaeab", sum := "31c6810672d47756e556b558276319b23ae73ad134e9fe559408e25340ce42a8", func := "loop.example/g01195/laws.FnExactRowMaps", spec := "fnExactRowMaps", apart := false, narrowed := true }
def FnExactRowMapsUptoSaid : Prop := fnExactRowMapsUptoRow.holds Try.pinned (OpenSpec.upto fnExactRowMapsSpec)

end Rows
end Go.Proofs.Ytebcapplclgaeab
