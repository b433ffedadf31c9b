/-
  No cell of these rows narrows 'for every input' (looked for: loops, veiled, ifaces, maps, wideKeys, modest, calm, conditions, laid).
  DERIVED. THE GIVEN ROWS OF THIS SEAT. 12 by the template 'for every input the law returns true; each argument reads behind the call as it read before'; 0 by the template 'total and deterministic' (their statements: YtebcapplclgaeadTotals.lean).
  GIVEN WITH THE SEED: the statements are not yours to turn. If you find one false, say at which input.
  Laid BY PROGRAM, IN A SANDBOX (cutbox-rows.mjs): the forced cells as the released guide's own fill.sh prints them over the translation 4a9adb9b25cb1a34… (all of the seat's roots in one cut). By AI agents, Wed Nov 11 2026. No macro, syntax, notation, axiom, sorry.
-/
import Derived.Test.YtebcapplclgaeadChecked
import GoSem.Claim
import GoSem.ClaimJoined
import GoSem.ClaimMapViews
import Derived.JoinedTies
import Derived.KernelRfl
namespace Go.Proofs.Ytebcapplclgaead
/- THE CELL 'sum', in the pinned program and in every row, IS THE sha256 OF THE DUMP (.gsa) THAT YtebcapplclgaeadProg.lean LOADS. Nothing in Lean hashes anything: it is a label: what it is worth is what the hold of that sum in a sandbox is worth. -/
noncomputable def Try.pinned : Pinned := { name := "ytebcapplclgaead", sum := "4a9adb9b25cb1a344fd26d74c1ca0f80668acd71c5a3d69b3988706ddcf73171", checked := Try.checked }
namespace Rows
def none {H : Type} : Left H := { results := [], args := [] }

/-- 'laws.FnExactIsTripleSystem': WHATEVER THE INPUT: true; the input reads as it did. -/
def fnExactIsTripleSystemSpec : ChangeSpec := { name := "fnExactIsTripleSystem", fn := fun _ => fun
  | [d1, d2] => { results := [.lit (.bool true)], args := [d1, d2] }
  | _ => none }
def fnExactIsTripleSystemRow : OpenClaim := { program := "ytebcapplclgaead", sum := "4a9adb9b25cb1a344fd26d74c1ca0f80668acd71c5a3d69b3988706ddcf73171", func := "loop.example/g01195/laws.FnExactIsTripleSystem", spec := "fnExactIsTripleSystem", apart := false }
def FnExactIsTripleSystemSaid : Prop := fnExactIsTripleSystemRow.holds Try.pinned (OpenSpec.ofChange fnExactIsTripleSystemSpec)

/-- ITS FALSE NEIGHBOUR: 'it returns false'. Refute it at one input. -/
def fnExactIsTripleSystemWrong : ChangeSpec := { name := "fnExactIsTripleSystem", fn := fun _ => fun
  | [d1, d2] => { results := [.lit (.bool false)], args := [d1, d2] }
  | _ => none }
def FnExactIsTripleSystemWrongFalsely : Prop := fnExactIsTripleSystemRow.holds Try.pinned (OpenSpec.ofChange fnExactIsTripleSystemWrong)

/-- 'laws.FnExactPowerOf': WHATEVER THE INPUT: true; the input reads as it did. -/
def fnExactPowerOfSpec : ChangeSpec := { name := "fnExactPowerOf", fn := fun _ => fun
  | [d1, d2, d3] => { results := [.lit (.bool true)], args := [d1, d2, d3] }
  | _ => none }
def fnExactPowerOfRow : OpenClaim := { program := "ytebcapplclgaead", sum := "4a9adb9b25cb1a344fd26d74c1ca0f80668acd71c5a3d69b3988706ddcf73171", func := "loop.example/g01195/laws.FnExactPowerOf", spec := "fnExactPowerOf", apart := false }
def FnExactPowerOfSaid : Prop := fnExactPowerOfRow.holds Try.pinned (OpenSpec.ofChange fnExactPowerOfSpec)

/-- ITS FALSE NEIGHBOUR: 'it returns false'. Refute it at one input. -/
def fnExactPowerOfWrong : ChangeSpec := { name := "fnExactPowerOf", fn := fun _ => fun
  | [d1, d2, d3] => { results := [.lit (.bool false)], args := [d1, d2, d3] }
  | _ => none }
def FnExactPowerOfWrongFalsely : Prop := fnExactPowerOfRow.holds Try.pinned (OpenSpec.ofChange fnExactPowerOfWrong)

/-- 'laws.FnExactCandidatesAt': WHATEVER THE INPUT: true; the input reads as it did. -/
def fnExactCandidatesAtSpec : ChangeSpec := { name := "fnExactCandidatesAt", fn := fun _ => fun
  | [d1, d2, d3] => { results := [.lit (.bool true)], args := [d1, d2, d3] }
  | _ => none }
def fnExactCandidatesAtRow : OpenClaim := { program := "ytebcapplclgaead", sum := "4a9adb9b25cb1a344fd26d74c1ca0f80668acd71c5a3d69b3988706ddcf73171", func := "loop.example/g01195/laws.FnExactCandidatesAt", spec := "fnExactCandidatesAt", apart := false }
def FnExactCandidatesAtSaid : Prop := fnExactCandidatesAtRow.holds Try.pinned (OpenSpec.ofChange fnExactCandidatesAtSpec)

/-- ITS FALSE NEIGHBOUR: 'it returns false'. Refute it at one input. -/
def fnExactCandidatesAtWrong : ChangeSpec := { name := "fnExactCandidatesAt", fn := fun _ => fun
  | [d1, d2, d3] => { results := [.lit (.bool false)], args := [d1, d2, d3] }
  | _ => none }
def FnExactCandidatesAtWrongFalsely : Prop := fnExactCandidatesAtRow.holds Try.pinned (OpenSpec.ofChange fnExactCandidatesAtWrong)

/-- 'laws.FnExactIntercalatesOf': WHATEVER THE INPUT: true; the input reads as it did. -/
def fnExactIntercalatesOfSpec : ChangeSpec := { name := "fnExactIntercalatesOf", fn := fun _ => fun
  | [d] => { results := [.lit (.bool true)], args := [d] }
  | _ => none }
def fnExactIntercalatesOfRow : OpenClaim := { program := "ytebcapplclgaead", sum := "4a9adb9b25cb1a344fd26d74c1ca0f80668acd71c5a3d69b3988706ddcf73171", func := "loop.example/g01195/laws.FnExactIntercalatesOf", spec := "fnExactIntercalatesOf", unfollowed := true, recurses := true, apart := false }
def FnExactIntercalatesOfSaid : Prop := fnExactIntercalatesOfRow.holds Try.pinned (OpenSpec.ofChange fnExactIntercalatesOfSpec)

/-- ITS FALSE NEIGHBOUR: 'it returns false'. Refute it at one input. -/
def fnExactIntercalatesOfWrong : ChangeSpec := { name := "fnExactIntercalatesOf", fn := fun _ => fun
  | [d] => { results := [.lit (.bool false)], args := [d] }
  | _ => none }
def FnExactIntercalatesOfWrongFalsely : Prop := fnExactIntercalatesOfRow.holds Try.pinned (OpenSpec.ofChange fnExactIntercalatesOfWrong)

/-- 'laws.FnExactIsAssociativeRing': WHATEVER THE INPUT: true; the input reads as it did. -/
def fnExactIsAssociativeRingSpec : ChangeSpec := { name := "fnExactIsAssociativeRing", fn := fun _ => fun
  | [d1, d2] => { results := [.lit (.bool true)], args := [d1, d2] }
  | _ => none }
def fnExactIsAssociativeRingRow : OpenClaim := { program := "ytebcapplclgaead", sum := "4a9adb9b25cb1a344fd26d74c1ca0f80668acd71c5a3d69b3988706ddcf73171", func := "loop.example/g01195/laws.FnExactIsAssociativeRing", spec := "fnExactIsAssociativeRing", apart := false }
def FnExactIsAssociativeRingSaid : Prop := fnExactIsAssociativeRingRow.holds Try.pinned (OpenSpec.ofChange fnExactIsAssociativeRingSpec)

/-- ITS FALSE NEIGHBOUR: 'it returns false'. Refute it at one input. -/
def fnExactIsAssociativeRingWrong : ChangeSpec := { name := "fnExactIsAssociativeRing", fn := fun _ => fun
  | [d1, d2] => { results := [.lit (.bool false)], args := [d1, d2] }
  | _ => none }
def FnExactIsAssociativeRingWrongFalsely : Prop := fnExactIsAssociativeRingRow.holds Try.pinned (OpenSpec.ofChange fnExactIsAssociativeRingWrong)

/-- 'laws.FnExactCommutantOf': WHATEVER THE INPUT: true; the input reads as it did. -/
def fnExactCommutantOfSpec : ChangeSpec := { name := "fnExactCommutantOf", fn := fun _ => fun
  | [d] => { results := [.lit (.bool true)], args := [d] }
  | _ => none }
def fnExactCommutantOfRow : OpenClaim := { program := "ytebcapplclgaead", sum := "4a9adb9b25cb1a344fd26d74c1ca0f80668acd71c5a3d69b3988706ddcf73171", func := "loop.example/g01195/laws.FnExactCommutantOf", spec := "fnExactCommutantOf", unfollowed := true, recurses := true, apart := false }
def FnExactCommutantOfSaid : Prop := fnExactCommutantOfRow.holds Try.pinned (OpenSpec.ofChange fnExactCommutantOfSpec)

/-- ITS FALSE NEIGHBOUR: 'it returns false'. Refute it at one input. -/
def fnExactCommutantOfWrong : ChangeSpec := { name := "fnExactCommutantOf", fn := fun _ => fun
  | [d] => { results := [.lit (.bool false)], args := [d] }
  | _ => none }
def FnExactCommutantOfWrongFalsely : Prop := fnExactCommutantOfRow.holds Try.pinned (OpenSpec.ofChange fnExactCommutantOfWrong)

/-- 'laws.FnExactMirrorOf': WHATEVER THE INPUT: true; the input reads as it did. -/
def fnExactMirrorOfSpec : ChangeSpec := { name := "fnExactMirrorOf", fn := fun _ => fun
  | [d] => { results := [.lit (.bool true)], args := [d] }
  | _ => none }
def fnExactMirrorOfRow : OpenClaim := { program := "ytebcapplclgaead", sum := "4a9adb9b25cb1a344fd26d74c1ca0f80668acd71c5a3d69b3988706ddcf73171", func := "loop.example/g01195/laws.FnExactMirrorOf", spec := "fnExactMirrorOf", unfollowed := true, recurses := true, apart := false }
def FnExactMirrorOfSaid : Prop := fnExactMirrorOfRow.holds Try.pinned (OpenSpec.ofChange fnExactMirrorOfSpec)

/-- ITS FALSE NEIGHBOUR: 'it returns false'. Refute it at one input. -/
def fnExactMirrorOfWrong : ChangeSpec := { name := "fnExactMirrorOf", fn := fun _ => fun
  | [d] => { results := [.lit (.bool false)], args := [d] }
  | _ => none }
def FnExactMirrorOfWrongFalsely : Prop := fnExactMirrorOfRow.holds Try.pinned (OpenSpec.ofChange fnExactMirrorOfWrong)

/-- 'laws.FnExactParseIdentity': WHATEVER THE INPUT: true; the input reads as it did. -/
def fnExactParseIdentitySpec : ChangeSpec := { name := "fnExactParseIdentity", fn := fun _ => fun
  | [d] => { results := [.lit (.bool true)], args := [d] }
  | _ => none }
def fnExactParseIdentityRow : OpenClaim := { program := "ytebcapplclgaead", sum := "4a9adb9b25cb1a344fd26d74c1ca0f80668acd71c5a3d69b3988706ddcf73171", func := "loop.example/g01195/laws.FnExactParseIdentity", spec := "fnExactParseIdentity", unfollowed := true, recurses := true, apart := false }
def FnExactParseIdentitySaid : Prop := fnExactParseIdentityRow.holds Try.pinned (OpenSpec.ofChange fnExactParseIdentitySpec)

/-- ITS FALSE NEIGHBOUR: 'it returns false'. Refute it at one input. -/
def fnExactParseIdentityWrong : ChangeSpec := { name := "fnExactParseIdentity", fn := fun _ => fun
  | [d] => { results := [.lit (.bool false)], args := [d] }
  | _ => none }
def FnExactParseIdentityWrongFalsely : Prop := fnExactParseIdentityRow.holds Try.pinned (OpenSpec.ofChange fnExactParseIdentityWrong)

/-- 'laws.FnExactForceCells': WHATEVER THE INPUT: true; the input reads as it did. -/
def fnExactForceCellsSpec : ChangeSpec := { name := "fnExactForceCells", fn := fun _ => fun
  | [d] => { results := [.lit (.bool true)], args := [d] }
  | _ => none }
def fnExactForceCellsRow : OpenClaim := { program := "ytebcapplclgaead", sum := "4a9adb9b25cb1a344fd26d74c1ca0f80668acd71c5a3d69b3988706ddcf73171", func := "loop.example/g01195/laws.FnExactForceCells", spec := "fnExactForceCells", unfollowed := true, recurses := true, apart := false }
def FnExactForceCellsSaid : Prop := fnExactForceCellsRow.holds Try.pinned (OpenSpec.ofChange fnExactForceCellsSpec)

/-- ITS FALSE NEIGHBOUR: 'it returns false'. Refute it at one input. -/
def fnExactForceCellsWrong : ChangeSpec := { name := "fnExactForceCells", fn := fun _ => fun
  | [d] => { results := [.lit (.bool false)], args := [d] }
  | _ => none }
def FnExactForceCellsWrongFalsely : Prop := fnExactForceCellsRow.holds Try.pinned (OpenSpec.ofChange fnExactForceCellsWrong)

/-- 'laws.FnExactCountCompletions': WHATEVER THE INPUT: true; the input reads as it did. -/
def fnExactCountCompletionsSpec : ChangeSpec := { name := "fnExactCountCompletions", fn := fun _ => fun
  | [d] => { results := [.lit (.bool true)], args := [d] }
  | _ => none }
def fnExactCountCompletionsRow : OpenClaim := { program := "ytebcapplclgaead", sum := "4a9adb9b25cb1a344fd26d74c1ca0f80668acd71c5a3d69b3988706ddcf73171", func := "loop.example/g01195/laws.FnExactCountCompletions", spec := "fnExactCountCompletions", unfollowed := true, recurses := true, apart := false }
def FnExactCountCompletionsSaid : Prop := fnExactCountCompletionsRow.holds Try.pinned (OpenSpec.ofChange fnExactCountCompletionsSpec)

/-- ITS FALSE NEIGHBOUR: 'it returns false'. Refute it at one input. -/
def fnExactCountCompletionsWrong : ChangeSpec := { name := "fnExactCountCompletions", fn := fun _ => fun
  | [d] => { results := [.lit (.bool false)], args := [d] }
  | _ => none }
def FnExactCountCompletionsWrongFalsely : Prop := fnExactCountCompletionsRow.holds Try.pinned (OpenSpec.ofChange fnExactCountCompletionsWrong)

/-- 'laws.FnExactOrbitsOf': WHATEVER THE INPUT: true; the input reads as it did. -/
def fnExactOrbitsOfSpec : ChangeSpec := { name := "fnExactOrbitsOf", fn := fun _ => fun
  | [d1, d2] => { results := [.lit (.bool true)], args := [d1, d2] }
  | _ => none }
def fnExactOrbitsOfRow : OpenClaim := { program := "ytebcapplclgaead", sum := "4a9adb9b25cb1a344fd26d74c1ca0f80668acd71c5a3d69b3988706ddcf73171", func := "loop.example/g01195/laws.FnExactOrbitsOf", spec := "fnExactOrbitsOf", apart := false }
def FnExactOrbitsOfSaid : Prop := fnExactOrbitsOfRow.holds Try.pinned (OpenSpec.ofChange fnExactOrbitsOfSpec)

/-- ITS FALSE NEIGHBOUR: 'it returns false'. Refute it at one input. -/
def fnExactOrbitsOfWrong : ChangeSpec := { name := "fnExactOrbitsOf", fn := fun _ => fun
  | [d1, d2] => { results := [.lit (.bool false)], args := [d1, d2] }
  | _ => none }
def FnExactOrbitsOfWrongFalsely : Prop := fnExactOrbitsOfRow.holds Try.pinned (OpenSpec.ofChange fnExactOrbitsOfWrong)

/-- 'laws.FnExactIsPrimitive': WHATEVER THE INPUT: true; the input reads as it did. -/
def fnExactIsPrimitiveSpec : ChangeSpec := { name := "fnExactIsPrimitive", fn := fun _ => fun
  | [d1, d2] => { results := [.lit (.bool true)], args := [d1, d2] }
  | _ => none }
def fnExactIsPrimitiveRow : OpenClaim := { program := "ytebcapplclgaead", sum := "4a9adb9b25cb1a344fd26d74c1ca0f80668acd71c5a3d69b3988706ddcf73171", func := "loop.example/g01195/laws.FnExactIsPrimitive", spec := "fnExactIsPrimitive", apart := false }
def FnExactIsPrimitiveSaid : Prop := fnExactIsPrimitiveRow.holds Try.pinned (OpenSpec.ofChange fnExactIsPrimitiveSpec)

/-- ITS FALSE NEIGHBOUR: 'it returns false'. Refute it at one input. -/
def fnExactIsPrimitiveWrong : ChangeSpec := { name := "fnExactIsPrimitive", fn := fun _ => fun
  | [d1, d2] => { results := [.lit (.bool false)], args := [d1, d2] }
  | _ => none }
def FnExactIsPrimitiveWrongFalsely : Prop := fnExactIsPrimitiveRow.holds Try.pinned (OpenSpec.ofChange fnExactIsPrimitiveWrong)

/- THE SECOND FORM. 'bulk': how many values and letters a reading holds, each counted each time it is reached (what is shared counts as often as it is met; a slice's spare places count too). A statement '..UptoSaid' is the law's where the arguments, and the package variables that the reading takes, are together of bulk at most 1048576: NARROWER than '..Said'. Prove '..Said' where nothing that the law and all that it calls make is longer than what came in: it says more and counts as full. Else prove '..UptoSaid'. A law counts once. -/
mutual
def uptoBulk {H : Type} : DataW H → Nat
  | .lit (.string bytes) => bytes.length + 1
  | .lit _ => 1
  | .nil => 1
  | .ptr d => uptoBulk d + 1
  | .slice elems spare => uptoBulkAll elems + uptoBulkAll spare + 1
  | .agg parts => uptoBulkAll parts + 1
  | .iface _ d => uptoBulk d + 1
  | .map entries => uptoBulkEntries entries + 1
  | .held _ => 1
def uptoBulkAll {H : Type} : List (DataW H) → Nat
  | [] => 0
  | d :: r => uptoBulk d + uptoBulkAll r
def uptoBulkEntries {H : Type} : List (Lit × DataW H) → Nat
  | [] => 0
  | x :: r => uptoBulkEntry x + uptoBulkEntries r
def uptoBulkEntry {H : Type} : Lit × DataW H → Nat
  | (.string bytes, d) => bytes.length + uptoBulk d + 1
  | (_, d) => uptoBulk d + 1
 end
def uptoSmall : (H : Type) → List (DataW H) → Bool := fun _ ds => decide (uptoBulkAll ds ≤ 1048576)
def OpenSpec.upto (s : _root_.Go.ChangeSpec) : _root_.Go.OpenSpec := { _root_.Go.OpenSpec.ofChange s with cond := some uptoSmall }

/-- 'laws.FnExactIsTripleSystem', WHERE WHAT IT READS IS OF BULK AT MOST 1048576: true; the input reads as it did. -/
def fnExactIsTripleSystemUptoRow : OpenClaim := { program := "ytebcapplclgaead", sum := "4a9adb9b25cb1a344fd26d74c1ca0f80668acd71c5a3d69b3988706ddcf73171", func := "loop.example/g01195/laws.FnExactIsTripleSystem", spec := "fnExactIsTripleSystem", apart := false, narrowed := true }
def FnExactIsTripleSystemUptoSaid : Prop := fnExactIsTripleSystemUptoRow.holds Try.pinned (OpenSpec.upto fnExactIsTripleSystemSpec)

/-- 'laws.FnExactPowerOf', WHERE WHAT IT READS IS OF BULK AT MOST 1048576: true; the input reads as it did. -/
def fnExactPowerOfUptoRow : OpenClaim := { program := "ytebcapplclgaead", sum := "4a9adb9b25cb1a344fd26d74c1ca0f80668acd71c5a3d69b3988706ddcf73171", func := "loop.example/g01195/laws.FnExactPowerOf", spec := "fnExactPowerOf", apart := false, narrowed := true }
def FnExactPowerOfUptoSaid : Prop := fnExactPowerOfUptoRow.holds Try.pinned (OpenSpec.upto fnExactPowerOfSpec)

/-- 'laws.FnExactCandidatesAt', WHERE WHAT IT READS IS OF BULK AT MOST 1048576: true; the input reads as it did. -/
def fnExactCandidatesAtUptoRow : OpenClaim := { program := "ytebcapplclgaead", sum := "4a9adb9b25cb1a344fd26d74c1ca0f80668acd71c5a3d69b3988706ddcf73171", func := "loop.example/g01195/laws.FnExactCandidatesAt", spec := "fnExactCandidatesAt", apart := false, narrowed := true }
def FnExactCandidatesAtUptoSaid : Prop := fnExactCandidatesAtUptoRow.holds Try.pinned (OpenSpec.upto fnExactCandidatesAtSpec)

/-- 'laws.FnExactIntercalatesOf', WHERE WHAT IT READS IS OF BULK AT MOST 1048576: true; the input reads as it did. -/
def fnExactIntercalatesOfUptoRow : OpenClaim := { program := "ytebcapplclgaead", sum := "4a9adb9b25cb1a344fd26d74c1ca0f80668acd71c5a3d69b3988706ddcf73171", func := "loop.example/g01195/laws.FnExactIntercalatesOf", spec := "fnExactIntercalatesOf", unfollowed := true, recurses := true, apart := false, narrowed := true }
def FnExactIntercalatesOfUptoSaid : Prop := fnExactIntercalatesOfUptoRow.holds Try.pinned (OpenSpec.upto fnExactIntercalatesOfSpec)

/-- 'laws.FnExactIsAssociativeRing', WHERE WHAT IT READS IS OF BULK AT MOST 1048576: true; the input reads as it did. -/
def fnExactIsAssociativeRingUptoRow : OpenClaim := { program := "ytebcapplclgaead", sum := "4a9adb9b25cb1a344fd26d74c1ca0f80668acd71c5a3d69b3988706ddcf73171", func := "loop.example/g01195/laws.FnExactIsAssociativeRing", spec := "fnExactIsAssociativeRing", apart := false, narrowed := true }
def FnExactIsAssociativeRingUptoSaid : Prop := fnExactIsAssociativeRingUptoRow.holds Try.pinned (OpenSpec.upto fnExactIsAssociativeRingSpec)

/-- 'laws.FnExactCommutantOf', WHERE WHAT IT READS IS OF BULK AT MOST 1048576: true; the input reads as it did. -/
def fnExactCommutantOfUptoRow : OpenClaim := { program := "ytebcapplclgaead", sum := "4a9adb9b25cb1a344fd26d74c1ca0f80668acd71c5a3d69b3988706ddcf73171", func := "loop.example/g01195/laws.FnExactCommutantOf", spec := "fnExactCommutantOf", unfollowed := true, recurses := true, apart := false, narrowed := true }
def FnExactCommutantOfUptoSaid : Prop := fnExactCommutantOfUptoRow.holds Try.pinned (OpenSpec.upto fnExactCommutantOfSpec)

/-- 'laws.FnExactMirrorOf', WHERE WHAT IT READS IS OF BULK AT MOST 1048576: true; the input reads as it did. -/
def fnExactMirrorOfUptoRow : OpenClaim := { program := "ytebcapplclgaead", sum := "4a9adb9b25cb1a344fd26d74c1ca0f80668acd71c5a3d69b3988706ddcf73171", func := "loop.example/g01195/laws.FnExactMirrorOf", spec := "fnExactMirrorOf", unfollowed := true, recurses := true, apart := false, narrowed := true }
def FnExactMirrorOfUptoSaid : Prop := fnExactMirrorOfUptoRow.holds Try.pinned (OpenSpec.upto fnExactMirrorOfSpec)

/-- 'laws.FnExactParseIdentity', WHERE WHAT IT READS IS OF BULK AT MOST 1048576: true; the input reads as it did. -/
def fnExactParseIdentityUptoRow : OpenClaim := { program := "ytebcapplclgaead", sum := "4a9adb9b25cb1a344fd26d74c1ca0f80668acd71c5a3d69b3988706ddcf73171", func := "loop.example/g01195/laws.FnExactParseIdentity", spec := "fnExactParseIdentity", unfollowed := true, recurses := true, apart := false, narrowed := true }
def FnExactParseIdentityUptoSaid : Prop := fnExactParseIdentityUptoRow.holds Try.pinned (OpenSpec.upto fnExactParseIdentitySpec)

/-- 'laws.FnExactForceCells', WHERE WHAT IT READS IS OF BULK AT MOST 1048576: true; the input reads as it did. -/
def fnExactForceCellsUptoRow : OpenClaim := { program := "ytebcapplclgaead", sum := "4a9adb9b25cb1a344fd26d74c1ca0f80668acd71c5a3d69b3988706ddcf73171", func := "loop.example/g01195/laws.FnExactForceCells", spec := "fnExactForceCells", unfollowed := true, recurses := true, apart := false, narrowed := true }
def FnExactForceCellsUptoSaid : Prop := fnExactForceCellsUptoRow.holds Try.pinned (OpenSpec.upto fnExactForceCellsSpec)

/-- 'laws.FnExactCountCompletions', WHERE WHAT IT READS IS OF BULK AT MOST 1048576: true; the input reads as it did. -/
def fnExactCountCompletionsUptoRow : OpenClaim := { program := "ytebcapplclgaead", sum := "4a9adb9b25cb1a344fd26d74c1ca0f80668acd71c5a3d69b3988706ddcf73171", func := "loop.example/g01195/laws.FnExactCountCompletions", spec := "fnExactCountCompletions", unfollowed := true, recurses := true, apart := false, narrowed := true }
def FnExactCountCompletionsUptoSaid : Prop := fnExactCountCompletionsUptoRow.holds Try.pinned (OpenSpec.upto fnExactCountCompletionsSpec)

/-- 'laws.FnExactOrbitsOf', WHERE WHAT IT READS IS OF BULK AT MOST 1048576: true; the input reads as it did. -/
def fnExactOrbitsOfUptoRow : OpenClaim := { program := "ytebcapplclgaead", sum := "4a9adb9b25cb1a344fd26d74c1ca0f80668acd71c5a3d69b3988706ddcf73171", func := "loop.example/g01195/laws.FnExactOrbitsOf", spec := "fnExactOrbitsOf", apart := false, narrowed := true }
def FnExactOrbitsOfUptoSaid : Prop := fnExactOrbitsOfUptoRow.holds Try.pinned (OpenSpec.upto fnExactOrbitsOfSpec)

/-- 'laws.FnExactIsPrimitive', WHERE WHAT IT READS IS OF BULK AT MOST 1048576: true; the input reads as it did. -/
def fnExactIsPrimitiveUptoRow : OpenClaim := { program := "ytebcapplclgaead", sum := "4a9adb9b25cb1a344fd26d74c1ca0f80668acd71c5a3d69b3988706ddcf73171", func := "loop.example/g01195/laws.FnExactIsPrimitive", spec := "fnExactIsPrimitive", apart := false, narrowed := true }
def FnExactIsPrimitiveUptoSaid : Prop := fnExactIsPrimitiveUptoRow.holds Try.pinned (OpenSpec.upto fnExactIsPrimitiveSpec)

end Rows
end Go.Proofs.Ytebcapplclgaead
