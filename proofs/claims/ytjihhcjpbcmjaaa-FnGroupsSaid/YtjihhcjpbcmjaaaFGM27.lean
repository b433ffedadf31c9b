/- The text of a square. No conditions but those in the statements. -/
import Derived.Test.YtjihhcjpbcmjaaaFGM7
import Derived.Test.YtjihhcjpbcmjaaaFGGx24
namespace Go.Proofs.Ytjihhcjpbcmjaaa
open Gx
set_option linter.unusedVariables false
def rowTx (t : Nat → Fin 256) (i : Nat) : Nat → List (Fin 256)
  | 0 => []
  | j + 1 => rowTx t i j ++ [Fin.ofNat 256 (48 + (t (10 * i + j)).val)]
def sepT (i : Nat) : List (Fin 256) := if 0 < i then [47] else []
def txS (t : Nat → Fin 256) (m : Nat) : Nat → List (Fin 256)
  | 0 => []
  | i + 1 => (txS t m i ++ sepT i) ++ rowTx t i m
theorem rowTx_len {t : Nat → Fin 256} {i : Nat} : ∀ j, (rowTx t i j).length = j
  | 0 => rfl
  | j + 1 => by simp [rowTx, rowTx_len j]
theorem sep_t {i : Nat} (h : 0 < i) : sepT i = [47] := if_pos h
end Go.Proofs.Ytjihhcjpbcmjaaa
