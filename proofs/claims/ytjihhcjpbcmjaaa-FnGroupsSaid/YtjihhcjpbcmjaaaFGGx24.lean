/- Rows of bytes read as strings. No conditions but those in the statements. -/
import Derived.Test.YtjihhcjpbcmjaaaFGGx14
import Derived.Test.YtjihhcjpbcmjaaaFGGx20
namespace Go.Proofs.Ytjihhcjpbcmjaaa
open Go
namespace Gx
set_option linter.unusedVariables false
section
variable {E : Env} {s : St} {dst : Option Nat} {ty : TypeId} {ps : String} {af : Array Edge} {gd : Option (Nat × Bool)}
end
end Gx
end Go.Proofs.Ytjihhcjpbcmjaaa
