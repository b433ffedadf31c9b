/-
  No cell of these rows narrows 'for every input' (looked for: loops, veiled, ifaces, maps, wideKeys, modest, calm, conditions, laid).
  DERIVED. THE GIVEN ROWS OF THIS SEAT. 11 by the template 'for every input the law returns true; each argument reads behind the call as it read before'; 0 by the template 'total and deterministic' (their statements: YtnfppiogmcoifaaTotals.lean).
  GIVEN WITH THE SEED: the statements are not yours to turn. If you find one false, say at which input.
  Laid BY PROGRAM, IN A SANDBOX (cutbox-rows.mjs): the forced cells as the released guide's own fill.sh prints them over the translation a65678aef937d2fa… (all of the seat's roots in one cut). By AI agents, Wed Nov 11 2026. No macro, syntax, notation, axiom, sorry.
-/
import Derived.Test.YtnfppiogmcoifaaChecked
import GoSem.Claim
import GoSem.ClaimJoined
import GoSem.ClaimMapViews
import Derived.JoinedTies
import Derived.KernelRfl
namespace Go.Proofs.Ytnfppiogmcoifaa
/- THE CELL 'sum', in the pinned program and in every row, IS THE sha256 OF THE DUMP (.gsa) THAT YtnfppiogmcoifaaProg.lean LOADS. Nothing in Lean hashes anything: it is a label: what it is worth is what the hold of that sum in a sandbox is worth. -/
noncomputable def Try.pinned : Pinned := { name := "ytnfppiogmcoifaa", sum := "a65678aef937d2fa0ead6d778203ce4b8b4aacb62c51d50ae08df8b06dd96b68", checked := Try.checked }
namespace Rows
def none {H : Type} : Left H := { results := [], args := [] }

/-- 'laws.FnExactConstants': WHATEVER THE INPUT: true; the input reads as it did. -/
def fnExactConstantsSpec : ChangeSpec := { name := "fnExactConstants", fn := fun _ => fun
  | [] => { results := [.lit (.bool true)], args := [] }
  | _ => none }
def fnExactConstantsRow : OpenClaim := { program := "ytnfppiogmcoifaa", sum := "a65678aef937d2fa0ead6d778203ce4b8b4aacb62c51d50ae08df8b06dd96b68", func := "loop.example/g01195/laws.FnExactConstants", spec := "fnExactConstants", apart := false }
def FnExactConstantsSaid : Prop := fnExactConstantsRow.holds Try.pinned (OpenSpec.ofChange fnExactConstantsSpec)

/-- ITS FALSE NEIGHBOUR: 'it returns false'. Refute it at one input. -/
def fnExactConstantsWrong : ChangeSpec := { name := "fnExactConstants", fn := fun _ => fun
  | [] => { results := [.lit (.bool false)], args := [] }
  | _ => none }
def FnExactConstantsWrongFalsely : Prop := fnExactConstantsRow.holds Try.pinned (OpenSpec.ofChange fnExactConstantsWrong)

/-- 'laws.FnExactIsPermutation': WHATEVER THE INPUT: true; the input reads as it did. -/
def fnExactIsPermutationSpec : ChangeSpec := { name := "fnExactIsPermutation", fn := fun _ => fun
  | [d1, d2] => { results := [.lit (.bool true)], args := [d1, d2] }
  | _ => none }
def fnExactIsPermutationRow : OpenClaim := { program := "ytnfppiogmcoifaa", sum := "a65678aef937d2fa0ead6d778203ce4b8b4aacb62c51d50ae08df8b06dd96b68", func := "loop.example/g01195/laws.FnExactIsPermutation", spec := "fnExactIsPermutation", apart := false }
def FnExactIsPermutationSaid : Prop := fnExactIsPermutationRow.holds Try.pinned (OpenSpec.ofChange fnExactIsPermutationSpec)

/-- ITS FALSE NEIGHBOUR: 'it returns false'. Refute it at one input. -/
def fnExactIsPermutationWrong : ChangeSpec := { name := "fnExactIsPermutation", fn := fun _ => fun
  | [d1, d2] => { results := [.lit (.bool false)], args := [d1, d2] }
  | _ => none }
def FnExactIsPermutationWrongFalsely : Prop := fnExactIsPermutationRow.holds Try.pinned (OpenSpec.ofChange fnExactIsPermutationWrong)

/-- 'laws.FnExactIsTerm': WHATEVER THE INPUT: true; the input reads as it did. -/
def fnExactIsTermSpec : ChangeSpec := { name := "fnExactIsTerm", fn := fun _ => fun
  | [d] => { results := [.lit (.bool true)], args := [d] }
  | _ => none }
def fnExactIsTermRow : OpenClaim := { program := "ytnfppiogmcoifaa", sum := "a65678aef937d2fa0ead6d778203ce4b8b4aacb62c51d50ae08df8b06dd96b68", func := "loop.example/g01195/laws.FnExactIsTerm", spec := "fnExactIsTerm", apart := false }
def FnExactIsTermSaid : Prop := fnExactIsTermRow.holds Try.pinned (OpenSpec.ofChange fnExactIsTermSpec)

/-- ITS FALSE NEIGHBOUR: 'it returns false'. Refute it at one input. -/
def fnExactIsTermWrong : ChangeSpec := { name := "fnExactIsTerm", fn := fun _ => fun
  | [d] => { results := [.lit (.bool false)], args := [d] }
  | _ => none }
def FnExactIsTermWrongFalsely : Prop := fnExactIsTermRow.holds Try.pinned (OpenSpec.ofChange fnExactIsTermWrong)

/-- 'laws.FnExactElementarySquare': WHATEVER THE INPUT: true; the input reads as it did. -/
def fnExactElementarySquareSpec : ChangeSpec := { name := "fnExactElementarySquare", fn := fun _ => fun
  | [d] => { results := [.lit (.bool true)], args := [d] }
  | _ => none }
def fnExactElementarySquareRow : OpenClaim := { program := "ytnfppiogmcoifaa", sum := "a65678aef937d2fa0ead6d778203ce4b8b4aacb62c51d50ae08df8b06dd96b68", func := "loop.example/g01195/laws.FnExactElementarySquare", spec := "fnExactElementarySquare", unfollowed := true, recurses := true, apart := false }
def FnExactElementarySquareSaid : Prop := fnExactElementarySquareRow.holds Try.pinned (OpenSpec.ofChange fnExactElementarySquareSpec)

/-- ITS FALSE NEIGHBOUR: 'it returns false'. Refute it at one input. -/
def fnExactElementarySquareWrong : ChangeSpec := { name := "fnExactElementarySquare", fn := fun _ => fun
  | [d] => { results := [.lit (.bool false)], args := [d] }
  | _ => none }
def FnExactElementarySquareWrongFalsely : Prop := fnExactElementarySquareRow.holds Try.pinned (OpenSpec.ofChange fnExactElementarySquareWrong)

/-- 'laws.FnExactIsTriple': WHATEVER THE INPUT: true; the input reads as it did. -/
def fnExactIsTripleSpec : ChangeSpec := { name := "fnExactIsTriple", fn := fun _ => fun
  | [d1, d2] => { results := [.lit (.bool true)], args := [d1, d2] }
  | _ => none }
def fnExactIsTripleRow : OpenClaim := { program := "ytnfppiogmcoifaa", sum := "a65678aef937d2fa0ead6d778203ce4b8b4aacb62c51d50ae08df8b06dd96b68", func := "loop.example/g01195/laws.FnExactIsTriple", spec := "fnExactIsTriple", apart := false }
def FnExactIsTripleSaid : Prop := fnExactIsTripleRow.holds Try.pinned (OpenSpec.ofChange fnExactIsTripleSpec)

/-- ITS FALSE NEIGHBOUR: 'it returns false'. Refute it at one input. -/
def fnExactIsTripleWrong : ChangeSpec := { name := "fnExactIsTriple", fn := fun _ => fun
  | [d1, d2] => { results := [.lit (.bool false)], args := [d1, d2] }
  | _ => none }
def FnExactIsTripleWrongFalsely : Prop := fnExactIsTripleRow.holds Try.pinned (OpenSpec.ofChange fnExactIsTripleWrong)

/-- 'laws.FnExactCyclicSquare': WHATEVER THE INPUT: true; the input reads as it did. -/
def fnExactCyclicSquareSpec : ChangeSpec := { name := "fnExactCyclicSquare", fn := fun _ => fun
  | [d] => { results := [.lit (.bool true)], args := [d] }
  | _ => none }
def fnExactCyclicSquareRow : OpenClaim := { program := "ytnfppiogmcoifaa", sum := "a65678aef937d2fa0ead6d778203ce4b8b4aacb62c51d50ae08df8b06dd96b68", func := "loop.example/g01195/laws.FnExactCyclicSquare", spec := "fnExactCyclicSquare", unfollowed := true, recurses := true, apart := false }
def FnExactCyclicSquareSaid : Prop := fnExactCyclicSquareRow.holds Try.pinned (OpenSpec.ofChange fnExactCyclicSquareSpec)

/-- ITS FALSE NEIGHBOUR: 'it returns false'. Refute it at one input. -/
def fnExactCyclicSquareWrong : ChangeSpec := { name := "fnExactCyclicSquare", fn := fun _ => fun
  | [d] => { results := [.lit (.bool false)], args := [d] }
  | _ => none }
def FnExactCyclicSquareWrongFalsely : Prop := fnExactCyclicSquareRow.holds Try.pinned (OpenSpec.ofChange fnExactCyclicSquareWrong)

/-- 'laws.FnExactGroupOrder': WHATEVER THE INPUT: true; the input reads as it did. -/
def fnExactGroupOrderSpec : ChangeSpec := { name := "fnExactGroupOrder", fn := fun _ => fun
  | [d1, d2] => { results := [.lit (.bool true)], args := [d1, d2] }
  | _ => none }
def fnExactGroupOrderRow : OpenClaim := { program := "ytnfppiogmcoifaa", sum := "a65678aef937d2fa0ead6d778203ce4b8b4aacb62c51d50ae08df8b06dd96b68", func := "loop.example/g01195/laws.FnExactGroupOrder", spec := "fnExactGroupOrder", recurses := true, apart := false }
def FnExactGroupOrderSaid : Prop := fnExactGroupOrderRow.holds Try.pinned (OpenSpec.ofChange fnExactGroupOrderSpec)

/-- ITS FALSE NEIGHBOUR: 'it returns false'. Refute it at one input. -/
def fnExactGroupOrderWrong : ChangeSpec := { name := "fnExactGroupOrder", fn := fun _ => fun
  | [d1, d2] => { results := [.lit (.bool false)], args := [d1, d2] }
  | _ => none }
def FnExactGroupOrderWrongFalsely : Prop := fnExactGroupOrderRow.holds Try.pinned (OpenSpec.ofChange fnExactGroupOrderWrong)

/-- 'laws.FnExactSignOfPlaces': WHATEVER THE INPUT: true; the input reads as it did. -/
def fnExactSignOfPlacesSpec : ChangeSpec := { name := "fnExactSignOfPlaces", fn := fun _ => fun
  | [d1, d2] => { results := [.lit (.bool true)], args := [d1, d2] }
  | _ => none }
def fnExactSignOfPlacesRow : OpenClaim := { program := "ytnfppiogmcoifaa", sum := "a65678aef937d2fa0ead6d778203ce4b8b4aacb62c51d50ae08df8b06dd96b68", func := "loop.example/g01195/laws.FnExactSignOfPlaces", spec := "fnExactSignOfPlaces", apart := false }
def FnExactSignOfPlacesSaid : Prop := fnExactSignOfPlacesRow.holds Try.pinned (OpenSpec.ofChange fnExactSignOfPlacesSpec)

/-- ITS FALSE NEIGHBOUR: 'it returns false'. Refute it at one input. -/
def fnExactSignOfPlacesWrong : ChangeSpec := { name := "fnExactSignOfPlaces", fn := fun _ => fun
  | [d1, d2] => { results := [.lit (.bool false)], args := [d1, d2] }
  | _ => none }
def FnExactSignOfPlacesWrongFalsely : Prop := fnExactSignOfPlacesRow.holds Try.pinned (OpenSpec.ofChange fnExactSignOfPlacesWrong)

/-- 'laws.FnExactIsSquare': WHATEVER THE INPUT: true; the input reads as it did. -/
def fnExactIsSquareSpec : ChangeSpec := { name := "fnExactIsSquare", fn := fun _ => fun
  | [d] => { results := [.lit (.bool true)], args := [d] }
  | _ => none }
def fnExactIsSquareRow : OpenClaim := { program := "ytnfppiogmcoifaa", sum := "a65678aef937d2fa0ead6d778203ce4b8b4aacb62c51d50ae08df8b06dd96b68", func := "loop.example/g01195/laws.FnExactIsSquare", spec := "fnExactIsSquare", apart := false }
def FnExactIsSquareSaid : Prop := fnExactIsSquareRow.holds Try.pinned (OpenSpec.ofChange fnExactIsSquareSpec)

/-- ITS FALSE NEIGHBOUR: 'it returns false'. Refute it at one input. -/
def fnExactIsSquareWrong : ChangeSpec := { name := "fnExactIsSquare", fn := fun _ => fun
  | [d] => { results := [.lit (.bool false)], args := [d] }
  | _ => none }
def FnExactIsSquareWrongFalsely : Prop := fnExactIsSquareRow.holds Try.pinned (OpenSpec.ofChange fnExactIsSquareWrong)

/-- 'laws.FnExactBackPlaces': WHATEVER THE INPUT: true; the input reads as it did. -/
def fnExactBackPlacesSpec : ChangeSpec := { name := "fnExactBackPlaces", fn := fun _ => fun
  | [d1, d2] => { results := [.lit (.bool true)], args := [d1, d2] }
  | _ => none }
def fnExactBackPlacesRow : OpenClaim := { program := "ytnfppiogmcoifaa", sum := "a65678aef937d2fa0ead6d778203ce4b8b4aacb62c51d50ae08df8b06dd96b68", func := "loop.example/g01195/laws.FnExactBackPlaces", spec := "fnExactBackPlaces", apart := false }
def FnExactBackPlacesSaid : Prop := fnExactBackPlacesRow.holds Try.pinned (OpenSpec.ofChange fnExactBackPlacesSpec)

/-- ITS FALSE NEIGHBOUR: 'it returns false'. Refute it at one input. -/
def fnExactBackPlacesWrong : ChangeSpec := { name := "fnExactBackPlaces", fn := fun _ => fun
  | [d1, d2] => { results := [.lit (.bool false)], args := [d1, d2] }
  | _ => none }
def FnExactBackPlacesWrongFalsely : Prop := fnExactBackPlacesRow.holds Try.pinned (OpenSpec.ofChange fnExactBackPlacesWrong)

/-- 'laws.FnExactThenPlaces': WHATEVER THE INPUT: true; the input reads as it did. -/
def fnExactThenPlacesSpec : ChangeSpec := { name := "fnExactThenPlaces", fn := fun _ => fun
  | [d1, d2, d3] => { results := [.lit (.bool true)], args := [d1, d2, d3] }
  | _ => none }
def fnExactThenPlacesRow : OpenClaim := { program := "ytnfppiogmcoifaa", sum := "a65678aef937d2fa0ead6d778203ce4b8b4aacb62c51d50ae08df8b06dd96b68", func := "loop.example/g01195/laws.FnExactThenPlaces", spec := "fnExactThenPlaces", apart := false }
def FnExactThenPlacesSaid : Prop := fnExactThenPlacesRow.holds Try.pinned (OpenSpec.ofChange fnExactThenPlacesSpec)

/-- ITS FALSE NEIGHBOUR: 'it returns false'. Refute it at one input. -/
def fnExactThenPlacesWrong : ChangeSpec := { name := "fnExactThenPlaces", fn := fun _ => fun
  | [d1, d2, d3] => { results := [.lit (.bool false)], args := [d1, d2, d3] }
  | _ => none }
def FnExactThenPlacesWrongFalsely : Prop := fnExactThenPlacesRow.holds Try.pinned (OpenSpec.ofChange fnExactThenPlacesWrong)

/- THE SECOND FORM. 'bulk': how many values and letters a reading holds, each counted each time it is reached (what is shared counts as often as it is met; a slice's spare places count too). A statement '..UptoSaid' is the law's where the arguments, and the package variables that the reading takes, are together of bulk at most 1048576: NARROWER than '..Said'. Prove '..Said' where nothing that the law and all that it calls make is longer than what came in: it says more and counts as full. Else prove '..UptoSaid'. A law counts once. -/
mutual
def uptoBulk {H : Type} : DataW H → Nat
  | .lit (.string bytes) => bytes.length + 1
  | .lit _ => 1
  | .nil => 1
  | .ptr d => uptoBulk d + 1
  | .slice elems spare => uptoBulkAll elems + uptoBulkAll spare + 1
  | .agg parts => uptoBulkAll parts + 1
  | .iface _ d => uptoBulk d + 1
  | .map entries => uptoBulkEntries entries + 1
  | .held _ => 1
def uptoBulkAll {H : Type} : List (DataW H) → Nat
  | [] => 0
  | d :: r => uptoBulk d + uptoBulkAll r
def uptoBulkEntries {H : Type} : List (Lit × DataW H) → Nat
  | [] => 0
  | x :: r => uptoBulkEntry x + uptoBulkEntries r
def uptoBulkEntry {H : Type} : Lit × DataW H → Nat
  | (.string bytes, d) => bytes.length + uptoBulk d + 1
  | (_, d) => uptoBulk d + 1
 end
def uptoSmall : (H : Type) → List (DataW H) → Bool := fun _ ds => decide (uptoBulkAll ds ≤ 1048576)
def OpenSpec.upto (s : _root_.Go.ChangeSpec) : _root_.Go.OpenSpec := { _root_.Go.OpenSpec.ofChange s with cond := some uptoSmall }

/-- 'laws.FnExactConstants', WHERE WHAT IT READS IS OF BULK AT MOST 1048576: true; the input reads as it did. -/
def fnExactConstantsUptoRow : OpenClaim := { program := "ytnfppiogmcoifaa", sum := "a65678aef937d2fa0ead6d778203ce4b8b4aacb62c51d50ae08df8b06dd96b68", func := "loop.example/g01195/laws.FnExactConstants", spec := "fnExactConstants", apart := false, narrowed := true }
def FnExactConstantsUptoSaid : Prop := fnExactConstantsUptoRow.holds Try.pinned (OpenSpec.upto fnExactConstantsSpec)

/-- 'laws.FnExactIsPermutation', WHERE WHAT IT READS IS OF BULK AT MOST 1048576: true; the input reads as it did. -/
def fnExactIsPermutationUptoRow : OpenClaim := { program := "ytnfppiogmcoifaa", sum := "a65678aef937d2fa0ead6d778203ce4b8b4aacb62c51d50ae08df8b06dd96b68", func := "loop.example/g01195/laws.FnExactIsPermutation", spec := "fnExactIsPermutation", apart := false, narrowed := true }
def FnExactIsPermutationUptoSaid : Prop := fnExactIsPermutationUptoRow.holds Try.pinned (OpenSpec.upto fnExactIsPermutationSpec)

/-- 'laws.FnExactIsTerm', WHERE WHAT IT READS IS OF BULK AT MOST 1048576: true; the input reads as it did. -/
def fnExactIsTermUptoRow : OpenClaim := { program := "ytnfppiogmcoifaa", sum := "a65678aef937d2fa0ead6d778203ce4b8b4aacb62c51d50ae08df8b06dd96b68", func := "loop.example/g01195/laws.FnExactIsTerm", spec := "fnExactIsTerm", apart := false, narrowed := true }
def FnExactIsTermUptoSaid : Prop := fnExactIsTermUptoRow.holds Try.pinned (OpenSpec.upto fnExactIsTermSpec)

/-- 'laws.FnExactElementarySquare', WHERE WHAT IT READS IS OF BULK AT MOST 1048576: true; the input reads as it did. -/
def fnExactElementarySquareUptoRow : OpenClaim := { program := "ytnfppiogmcoifaa", sum := "a65678aef937d2fa0ead6d778203ce4b8b4aacb62c51d50ae08df8b06dd96b68", func := "loop.example/g01195/laws.FnExactElementarySquare", spec := "fnExactElementarySquare", unfollowed := true, recurses := true, apart := false, narrowed := true }
def FnExactElementarySquareUptoSaid : Prop := fnExactElementarySquareUptoRow.holds Try.pinned (OpenSpec.upto fnExactElementarySquareSpec)

/-- 'laws.FnExactIsTriple', WHERE WHAT IT READS IS OF BULK AT MOST 1048576: true; the input reads as it did. -/
def fnExactIsTripleUptoRow : OpenClaim := { program := "ytnfppiogmcoifaa", sum := "a65678aef937d2fa0ead6d778203ce4b8b4aacb62c51d50ae08df8b06dd96b68", func := "loop.example/g01195/laws.FnExactIsTriple", spec := "fnExactIsTriple", apart := false, narrowed := true }
def FnExactIsTripleUptoSaid : Prop := fnExactIsTripleUptoRow.holds Try.pinned (OpenSpec.upto fnExactIsTripleSpec)

/-- 'laws.FnExactCyclicSquare', WHERE WHAT IT READS IS OF BULK AT MOST 1048576: true; the input reads as it did. -/
def fnExactCyclicSquareUptoRow : OpenClaim := { program := "ytnfppiogmcoifaa", sum := "a65678aef937d2fa0ead6d778203ce4b8b4aacb62c51d50ae08df8b06dd96b68", func := "loop.example/g01195/laws.FnExactCyclicSquare", spec := "fnExactCyclicSquare", unfollowed := true, recurses := true, apart := false, narrowed := true }
def FnExactCyclicSquareUptoSaid : Prop := fnExactCyclicSquareUptoRow.holds Try.pinned (OpenSpec.upto fnExactCyclicSquareSpec)

/-- 'laws.FnExactGroupOrder', WHERE WHAT IT READS IS OF BULK AT MOST 1048576: true; the input reads as it did. -/
def fnExactGroupOrderUptoRow : OpenClaim := { program := "ytnfppiogmcoifaa", sum := "a65678aef937d2fa0ead6d778203ce4b8b4aacb62c51d50ae08df8b06dd96b68", func := "loop.example/g01195/laws.FnExactGroupOrder", spec := "fnExactGroupOrder", recurses := true, apart := false, narrowed := true }
def FnExactGroupOrderUptoSaid : Prop := fnExactGroupOrderUptoRow.holds Try.pinned (OpenSpec.upto fnExactGroupOrderSpec)

/-- 'laws.FnExactSignOfPlaces', WHERE WHAT IT READS IS OF BULK AT MOST 1048576: true; the input reads as it did. -/
def fnExactSignOfPlacesUptoRow : OpenClaim := { program := "ytnfppiogmcoifaa", sum := "a65678aef937d2fa0ead6d778203ce4b8b4aacb62c51d50ae08df8b06dd96b68", func := "loop.example/g01195/laws.FnExactSignOfPlaces", spec := "fnExactSignOfPlaces", apart := false, narrowed := true }
def FnExactSignOfPlacesUptoSaid : Prop := fnExactSignOfPlacesUptoRow.holds Try.pinned (OpenSpec.upto fnExactSignOfPlacesSpec)

/-- 'laws.FnExactIsSquare', WHERE WHAT IT READS IS OF BULK AT MOST 1048576: true; the input reads as it did. -/
def fnExactIsSquareUptoRow : OpenClaim := { program := "ytnfppiogmcoifaa", sum := "a65678aef937d2fa0ead6d778203ce4b8b4aacb62c51d50ae08df8b06dd96b68", func := "loop.example/g01195/laws.FnExactIsSquare", spec := "fnExactIsSquare", apart := false, narrowed := true }
def FnExactIsSquareUptoSaid : Prop := fnExactIsSquareUptoRow.holds Try.pinned (OpenSpec.upto fnExactIsSquareSpec)

/-- 'laws.FnExactBackPlaces', WHERE WHAT IT READS IS OF BULK AT MOST 1048576: true; the input reads as it did. -/
def fnExactBackPlacesUptoRow : OpenClaim := { program := "ytnfppiogmcoifaa", sum := "a65678aef937d2fa0ead6d778203ce4b8b4aacb62c51d50ae08df8b06dd96b68", func := "loop.example/g01195/laws.FnExactBackPlaces", spec := "fnExactBackPlaces", apart := false, narrowed := true }
def FnExactBackPlacesUptoSaid : Prop := fnExactBackPlacesUptoRow.holds Try.pinned (OpenSpec.upto fnExactBackPlacesSpec)

/-- 'laws.FnExactThenPlaces', WHERE WHAT IT READS IS OF BULK AT MOST 1048576: true; the input reads as it did. -/
def fnExactThenPlacesUptoRow : OpenClaim := { program := "ytnfppiogmcoifaa", sum := "a65678aef937d2fa0ead6d778203ce4b8b4aacb62c51d50ae08df8b06dd96b68", func := "loop.example/g01195/laws.FnExactThenPlaces", spec := "fnExactThenPlaces", apart := false, narrowed := true }
def FnExactThenPlacesUptoSaid : Prop := fnExactThenPlacesUptoRow.holds Try.pinned (OpenSpec.upto fnExactThenPlacesSpec)

end Rows
end Go.Proofs.Ytnfppiogmcoifaa
