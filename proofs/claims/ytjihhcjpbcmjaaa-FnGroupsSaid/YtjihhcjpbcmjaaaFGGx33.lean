/- Room asked for ahead: slices.Grow at a nil slice. No conditions but those in the statements. -/
import Derived.Lib.AppendZeros
import Derived.Test.YtjihhcjpbcmjaaaFGGx32
namespace Go.Proofs.Ytjihhcjpbcmjaaa
open Go
namespace Gx
open Go.RowKit (Below)
set_option linter.unusedVariables false
section
variable {E : Env} {s : St} {dst : Option Nat} {ty : TypeId} {ps : String} {af : Array Edge} {gd : Option (Nat × Bool)} {k : Nat} {K : St → Prop}
end
/-! ### Slices of bytes that are read together -/
end Gx
end Go.Proofs.Ytjihhcjpbcmjaaa
