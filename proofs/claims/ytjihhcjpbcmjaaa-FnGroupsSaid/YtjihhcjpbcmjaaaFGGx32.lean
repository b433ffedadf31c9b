/- Slices of bytes that are marked; a stack of slices of bytes. No conditions but those in the statements. -/
import Derived.Test.YtjihhcjpbcmjaaaFGGx20
import Derived.Test.YtjihhcjpbcmjaaaFGGx27
import Derived.Test.YtjihhcjpbcmjaaaFGGx28
namespace Go.Proofs.Ytjihhcjpbcmjaaa
open Go
namespace Gx
set_option linter.unusedVariables false
/-! ### A stack of slices of bytes: the table is a row, the slices lie in a pool -/
section
variable {E : Env} {s : St} {dst : Option Nat} {ty : TypeId} {ps : String} {af : Array Edge} {gd : Option (Nat × Bool)}
end
end Gx
end Go.Proofs.Ytjihhcjpbcmjaaa
