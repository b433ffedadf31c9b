/-
  No cell of these rows narrows 'for every input' (looked for: loops, veiled, ifaces, maps, wideKeys, modest, calm, conditions, laid).
  DERIVED. THE GIVEN ROWS OF THIS SEAT. 7 by the template 'for every input the law returns true; each argument reads behind the call as it read before'; 0 by the template 'total and deterministic' (their statements: YtdcpggdbjllmpaaTotals.lean).
  GIVEN WITH THE SEED: the statements are not yours to turn. If you find one false, say at which input.
  Laid BY PROGRAM, IN A SANDBOX (cutbox-rows.mjs): the forced cells as the released guide's own fill.sh prints them over the translation 17c09fb7e01cb9a8… (all of the seat's roots in one cut). By AI agents, Wed Nov 11 2026. No macro, syntax, notation, axiom, sorry.
-/
import Derived.Test.YtdcpggdbjllmpaaChecked
import GoSem.Claim
import GoSem.ClaimJoined
import GoSem.ClaimMapViews
import Derived.JoinedTies
import Derived.KernelRfl
namespace Go.Proofs.Ytdcpggdbjllmpaa
/- THE CELL 'sum', in the pinned program and in every row, IS THE sha256 OF THE DUMP (.gsa) THAT YtdcpggdbjllmpaaProg.lean LOADS. Nothing in Lean hashes anything: it is a label: what it is worth is what the hold of that sum in a sandbox is worth. -/
noncomputable def Try.pinned : Pinned := { name := "ytdcpggdbjllmpaa", sum := "17c09fb7e01cb9a81152e3cc74ffe07e2958750b11b20a7e6f6f497cbb7c0b71", checked := Try.checked }
namespace Rows
def none {H : Type} : Left H := { results := [], args := [] }

/-- 'laws.FnExactTermText': WHATEVER THE INPUT: true; the input reads as it did. -/
def fnExactTermTextSpec : ChangeSpec := { name := "fnExactTermText", fn := fun _ => fun
  | [d] => { results := [.lit (.bool true)], args := [d] }
  | _ => none }
def fnExactTermTextRow : OpenClaim := { program := "ytdcpggdbjllmpaa", sum := "17c09fb7e01cb9a81152e3cc74ffe07e2958750b11b20a7e6f6f497cbb7c0b71", func := "loop.example/g01195/laws.FnExactTermText", spec := "fnExactTermText", unfollowed := true, recurses := true, apart := false }
def FnExactTermTextSaid : Prop := fnExactTermTextRow.holds Try.pinned (OpenSpec.ofChange fnExactTermTextSpec)

/-- ITS FALSE NEIGHBOUR: 'it returns false'. Refute it at one input. -/
def fnExactTermTextWrong : ChangeSpec := { name := "fnExactTermText", fn := fun _ => fun
  | [d] => { results := [.lit (.bool false)], args := [d] }
  | _ => none }
def FnExactTermTextWrongFalsely : Prop := fnExactTermTextRow.holds Try.pinned (OpenSpec.ofChange fnExactTermTextWrong)

/-- 'laws.FnExactIdentityText': WHATEVER THE INPUT: true; the input reads as it did. -/
def fnExactIdentityTextSpec : ChangeSpec := { name := "fnExactIdentityText", fn := fun _ => fun
  | [d] => { results := [.lit (.bool true)], args := [d] }
  | _ => none }
def fnExactIdentityTextRow : OpenClaim := { program := "ytdcpggdbjllmpaa", sum := "17c09fb7e01cb9a81152e3cc74ffe07e2958750b11b20a7e6f6f497cbb7c0b71", func := "loop.example/g01195/laws.FnExactIdentityText", spec := "fnExactIdentityText", unfollowed := true, recurses := true, apart := false }
def FnExactIdentityTextSaid : Prop := fnExactIdentityTextRow.holds Try.pinned (OpenSpec.ofChange fnExactIdentityTextSpec)

/-- ITS FALSE NEIGHBOUR: 'it returns false'. Refute it at one input. -/
def fnExactIdentityTextWrong : ChangeSpec := { name := "fnExactIdentityText", fn := fun _ => fun
  | [d] => { results := [.lit (.bool false)], args := [d] }
  | _ => none }
def FnExactIdentityTextWrongFalsely : Prop := fnExactIdentityTextRow.holds Try.pinned (OpenSpec.ofChange fnExactIdentityTextWrong)

/-- 'laws.FnExactMirrorOf': WHATEVER THE INPUT: true; the input reads as it did. -/
def fnExactMirrorOfSpec : ChangeSpec := { name := "fnExactMirrorOf", fn := fun _ => fun
  | [d] => { results := [.lit (.bool true)], args := [d] }
  | _ => none }
def fnExactMirrorOfRow : OpenClaim := { program := "ytdcpggdbjllmpaa", sum := "17c09fb7e01cb9a81152e3cc74ffe07e2958750b11b20a7e6f6f497cbb7c0b71", func := "loop.example/g01195/laws.FnExactMirrorOf", spec := "fnExactMirrorOf", unfollowed := true, recurses := true, apart := false }
def FnExactMirrorOfSaid : Prop := fnExactMirrorOfRow.holds Try.pinned (OpenSpec.ofChange fnExactMirrorOfSpec)

/-- ITS FALSE NEIGHBOUR: 'it returns false'. Refute it at one input. -/
def fnExactMirrorOfWrong : ChangeSpec := { name := "fnExactMirrorOf", fn := fun _ => fun
  | [d] => { results := [.lit (.bool false)], args := [d] }
  | _ => none }
def FnExactMirrorOfWrongFalsely : Prop := fnExactMirrorOfRow.holds Try.pinned (OpenSpec.ofChange fnExactMirrorOfWrong)

/-- 'laws.FnExactParseIdentity': WHATEVER THE INPUT: true; the input reads as it did. -/
def fnExactParseIdentitySpec : ChangeSpec := { name := "fnExactParseIdentity", fn := fun _ => fun
  | [d] => { results := [.lit (.bool true)], args := [d] }
  | _ => none }
def fnExactParseIdentityRow : OpenClaim := { program := "ytdcpggdbjllmpaa", sum := "17c09fb7e01cb9a81152e3cc74ffe07e2958750b11b20a7e6f6f497cbb7c0b71", func := "loop.example/g01195/laws.FnExactParseIdentity", spec := "fnExactParseIdentity", unfollowed := true, recurses := true, apart := false }
def FnExactParseIdentitySaid : Prop := fnExactParseIdentityRow.holds Try.pinned (OpenSpec.ofChange fnExactParseIdentitySpec)

/-- ITS FALSE NEIGHBOUR: 'it returns false'. Refute it at one input. -/
def fnExactParseIdentityWrong : ChangeSpec := { name := "fnExactParseIdentity", fn := fun _ => fun
  | [d] => { results := [.lit (.bool false)], args := [d] }
  | _ => none }
def FnExactParseIdentityWrongFalsely : Prop := fnExactParseIdentityRow.holds Try.pinned (OpenSpec.ofChange fnExactParseIdentityWrong)

/-- 'laws.FnExactParseSquare': WHATEVER THE INPUT: true; the input reads as it did. -/
def fnExactParseSquareSpec : ChangeSpec := { name := "fnExactParseSquare", fn := fun _ => fun
  | [d] => { results := [.lit (.bool true)], args := [d] }
  | _ => none }
def fnExactParseSquareRow : OpenClaim := { program := "ytdcpggdbjllmpaa", sum := "17c09fb7e01cb9a81152e3cc74ffe07e2958750b11b20a7e6f6f497cbb7c0b71", func := "loop.example/g01195/laws.FnExactParseSquare", spec := "fnExactParseSquare", unfollowed := true, recurses := true, apart := false }
def FnExactParseSquareSaid : Prop := fnExactParseSquareRow.holds Try.pinned (OpenSpec.ofChange fnExactParseSquareSpec)

/-- ITS FALSE NEIGHBOUR: 'it returns false'. Refute it at one input. -/
def fnExactParseSquareWrong : ChangeSpec := { name := "fnExactParseSquare", fn := fun _ => fun
  | [d] => { results := [.lit (.bool false)], args := [d] }
  | _ => none }
def FnExactParseSquareWrongFalsely : Prop := fnExactParseSquareRow.holds Try.pinned (OpenSpec.ofChange fnExactParseSquareWrong)

/-- 'laws.FnExactIntercalatesOf': WHATEVER THE INPUT: true; the input reads as it did. -/
def fnExactIntercalatesOfSpec : ChangeSpec := { name := "fnExactIntercalatesOf", fn := fun _ => fun
  | [d] => { results := [.lit (.bool true)], args := [d] }
  | _ => none }
def fnExactIntercalatesOfRow : OpenClaim := { program := "ytdcpggdbjllmpaa", sum := "17c09fb7e01cb9a81152e3cc74ffe07e2958750b11b20a7e6f6f497cbb7c0b71", func := "loop.example/g01195/laws.FnExactIntercalatesOf", spec := "fnExactIntercalatesOf", unfollowed := true, recurses := true, apart := false }
def FnExactIntercalatesOfSaid : Prop := fnExactIntercalatesOfRow.holds Try.pinned (OpenSpec.ofChange fnExactIntercalatesOfSpec)

/-- ITS FALSE NEIGHBOUR: 'it returns false'. Refute it at one input. -/
def fnExactIntercalatesOfWrong : ChangeSpec := { name := "fnExactIntercalatesOf", fn := fun _ => fun
  | [d] => { results := [.lit (.bool false)], args := [d] }
  | _ => none }
def FnExactIntercalatesOfWrongFalsely : Prop := fnExactIntercalatesOfRow.holds Try.pinned (OpenSpec.ofChange fnExactIntercalatesOfWrong)

/-- 'laws.FnExactCountTransversals': WHATEVER THE INPUT: true; the input reads as it did. -/
def fnExactCountTransversalsSpec : ChangeSpec := { name := "fnExactCountTransversals", fn := fun _ => fun
  | [d] => { results := [.lit (.bool true)], args := [d] }
  | _ => none }
def fnExactCountTransversalsRow : OpenClaim := { program := "ytdcpggdbjllmpaa", sum := "17c09fb7e01cb9a81152e3cc74ffe07e2958750b11b20a7e6f6f497cbb7c0b71", func := "loop.example/g01195/laws.FnExactCountTransversals", spec := "fnExactCountTransversals", unfollowed := true, recurses := true, apart := false }
def FnExactCountTransversalsSaid : Prop := fnExactCountTransversalsRow.holds Try.pinned (OpenSpec.ofChange fnExactCountTransversalsSpec)

/-- ITS FALSE NEIGHBOUR: 'it returns false'. Refute it at one input. -/
def fnExactCountTransversalsWrong : ChangeSpec := { name := "fnExactCountTransversals", fn := fun _ => fun
  | [d] => { results := [.lit (.bool false)], args := [d] }
  | _ => none }
def FnExactCountTransversalsWrongFalsely : Prop := fnExactCountTransversalsRow.holds Try.pinned (OpenSpec.ofChange fnExactCountTransversalsWrong)

/- THE SECOND FORM. 'bulk': how many values and letters a reading holds, each counted each time it is reached (what is shared counts as often as it is met; a slice's spare places count too). A statement '..UptoSaid' is the law's where the arguments, and the package variables that the reading takes, are together of bulk at most 1048576: NARROWER than '..Said'. Prove '..Said' where nothing that the law and all that it calls make is longer than what came in: it says more and counts as full. Else prove '..UptoSaid'. A law counts once. -/
mutual
def uptoBulk {H : Type} : DataW H → Nat
  | .lit (.string bytes) => bytes.length + 1
  | .lit _ => 1
  | .nil => 1
  | .ptr d => uptoBulk d + 1
  | .slice elems spare => uptoBulkAll elems + uptoBulkAll spare + 1
  | .agg parts => uptoBulkAll parts + 1
  | .iface _ d => uptoBulk d + 1
  | .map entries => uptoBulkEntries entries + 1
  | .held _ => 1
def uptoBulkAll {H : Type} : List (DataW H) → Nat
  | [] => 0
  | d :: r => uptoBulk d + uptoBulkAll r
def uptoBulkEntries {H : Type} : List (Lit × DataW H) → Nat
  | [] => 0
  | x :: r => uptoBulkEntry x + uptoBulkEntries r
def uptoBulkEntry {H : Type} : Lit × DataW H → Nat
  | (.string bytes, d) => bytes.length + uptoBulk d + 1
  | (_, d) => uptoBulk d + 1
 end
def uptoSmall : (H : Type) → List (DataW H) → Bool := fun _ ds => decide (uptoBulkAll ds ≤ 1048576)
def OpenSpec.upto (s : _root_.Go.ChangeSpec) : _root_.Go.OpenSpec := { _root_.Go.OpenSpec.ofChange s with cond := some uptoSmall }

/-- 'laws.FnExactTermText', WHERE WHAT IT READS IS OF BULK AT MOST 1048576: true; the input reads as it did. -/
def fnExactTermTextUptoRow : OpenClaim := { program := "ytdcpggdbjllmpaa", sum := "17c09fb7e01cb9a81152e3cc74ffe07e2958750b11b20a7e6f6f497cbb7c0b71", func := "loop.example/g01195/laws.FnExactTermText", spec := "fnExactTermText", unfollowed := true, recurses := true, apart := false, narrowed := true }
def FnExactTermTextUptoSaid : Prop := fnExactTermTextUptoRow.holds Try.pinned (OpenSpec.upto fnExactTermTextSpec)

/-- 'laws.FnExactIdentityText', WHERE WHAT IT READS IS OF BULK AT MOST 1048576: true; the input reads as it did. -/
def fnExactIdentityTextUptoRow : OpenClaim := { program := "ytdcpggdbjllmpaa", sum := "17c09fb7e01cb9a81152e3cc74ffe07e2958750b11b20a7e6f6f497cbb7c0b71", func := "loop.example/g01195/laws.FnExactIdentityText", spec := "fnExactIdentityText", unfollowed := true, recurses := true, apart := false, narrowed := true }
def FnExactIdentityTextUptoSaid : Prop := fnExactIdentityTextUptoRow.holds Try.pinned (OpenSpec.upto fnExactIdentityTextSpec)

/-- 'laws.FnExactMirrorOf', WHERE WHAT IT READS IS OF BULK AT MOST 1048576: true; the input reads as it did. -/
def fnExactMirrorOfUptoRow : OpenClaim := { program := "ytdcpggdbjllmpaa", sum := "17c09fb7e01cb9a81152e3cc74ffe07e2958750b11b20a7e6f6f497cbb7c0b71", func := "loop.example/g01195/laws.FnExactMirrorOf", spec := "fnExactMirrorOf", unfollowed := true, recurses := true, apart := false, narrowed := true }
def FnExactMirrorOfUptoSaid : Prop := fnExactMirrorOfUptoRow.holds Try.pinned (OpenSpec.upto fnExactMirrorOfSpec)

/-- 'laws.FnExactParseIdentity', WHERE WHAT IT READS IS OF BULK AT MOST 1048576: true; the input reads as it did. -/
def fnExactParseIdentityUptoRow : OpenClaim := { program := "ytdcpggdbjllmpaa", sum := "17c09fb7e01cb9a81152e3cc74ffe07e2958750b11b20a7e6f6f497cbb7c0b71", func := "loop.example/g01195/laws.FnExactParseIdentity", spec := "fnExactParseIdentity", unfollowed := true, recurses := true, apart := false, narrowed := true }
def FnExactParseIdentityUptoSaid : Prop := fnExactParseIdentityUptoRow.holds Try.pinned (OpenSpec.upto fnExactParseIdentitySpec)

/-- 'laws.FnExactParseSquare', WHERE WHAT IT READS IS OF BULK AT MOST 1048576: true; the input reads as it did. -/
def fnExactParseSquareUptoRow : OpenClaim := { program := "ytdcpggdbjllmpaa", sum := "17c09fb7e01cb9a81152e3cc74ffe07e2958750b11b20a7e6f6f497cbb7c0b71", func := "loop.example/g01195/laws.FnExactParseSquare", spec := "fnExactParseSquare", unfollowed := true, recurses := true, apart := false, narrowed := true }
def FnExactParseSquareUptoSaid : Prop := fnExactParseSquareUptoRow.holds Try.pinned (OpenSpec.upto fnExactParseSquareSpec)

/-- 'laws.FnExactIntercalatesOf', WHERE WHAT IT READS IS OF BULK AT MOST 1048576: true; the input reads as it did. -/
def fnExactIntercalatesOfUptoRow : OpenClaim := { program := "ytdcpggdbjllmpaa", sum := "17c09fb7e01cb9a81152e3cc74ffe07e2958750b11b20a7e6f6f497cbb7c0b71", func := "loop.example/g01195/laws.FnExactIntercalatesOf", spec := "fnExactIntercalatesOf", unfollowed := true, recurses := true, apart := false, narrowed := true }
def FnExactIntercalatesOfUptoSaid : Prop := fnExactIntercalatesOfUptoRow.holds Try.pinned (OpenSpec.upto fnExactIntercalatesOfSpec)

/-- 'laws.FnExactCountTransversals', WHERE WHAT IT READS IS OF BULK AT MOST 1048576: true; the input reads as it did. -/
def fnExactCountTransversalsUptoRow : OpenClaim := { program := "ytdcpggdbjllmpaa", sum := "17c09fb7e01cb9a81152e3cc74ffe07e2958750b11b20a7e6f6f497cbb7c0b71", func := "loop.example/g01195/laws.FnExactCountTransversals", spec := "fnExactCountTransversals", unfollowed := true, recurses := true, apart := false, narrowed := true }
def FnExactCountTransversalsUptoSaid : Prop := fnExactCountTransversalsUptoRow.holds Try.pinned (OpenSpec.upto fnExactCountTransversalsSpec)

end Rows
end Go.Proofs.Ytdcpggdbjllmpaa
