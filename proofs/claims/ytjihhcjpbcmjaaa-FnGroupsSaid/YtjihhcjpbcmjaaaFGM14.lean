/- Sets as bits, and as lists; what commutes. No conditions but those in the statements. -/
import Derived.Test.YtjihhcjpbcmjaaaFGM7
namespace Go.Proofs.Ytjihhcjpbcmjaaa
open Gx
set_option linter.unusedVariables false
def filt (P : Nat → Bool) : Nat → List Int
  | 0 => []
  | k + 1 => filt P k ++ (if P k = true then [(k : Int)] else [])
theorem filt_t {P : Nat → Bool} {k : Nat} (h : P k = true) : filt P k ++ [(k : Int)] = filt P (k + 1) := by simp [filt, h]
theorem filt_f {P : Nat → Bool} {k : Nat} (h : P k = false) : filt P k = filt P (k + 1) := by simp [filt, h]
theorem filt_len {P : Nat → Bool} : ∀ k, (filt P k).length ≤ k
  | 0 => by simp [filt]
  | k + 1 => by have := filt_len (P := P) k; simp only [filt, List.length_append]; split <;> simp <;> omega
/-! ### What commutes -/
end Go.Proofs.Ytjihhcjpbcmjaaa
