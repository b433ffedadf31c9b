/- The rows and the columns of a square, as lists. No conditions but those in the statements. -/
import Derived.Test.YtjihhcjpbcmjaaaFGM7
namespace Go.Proofs.Ytjihhcjpbcmjaaa
open Gx
def rowsL (t : Nat → Fin 256) : Nat → List (Nat → Fin 256)
  | 0 => []
  | k + 1 => rowsL t k ++ [rowOf t k]
theorem rowsL_len (t : Nat → Fin 256) : ∀ k, (rowsL t k).length = k
  | 0 => rfl
  | k + 1 => by simp [rowsL, rowsL_len t k]
end Go.Proofs.Ytjihhcjpbcmjaaa
