/- Isotopes: the table that three renamings lay out of a square. No conditions but those in the statements. -/
import Derived.Test.YtjihhcjpbcmjaaaFGM7
namespace Go.Proofs.Ytjihhcjpbcmjaaa
open Gx
set_option linter.unusedVariables false
/-- The table after the first k pairs. -/
def isoW (t a b c : Nat → Fin 256) (m : Nat) : Nat → Nat → Fin 256
  | 0 => fun _ => 0
  | k + 1 => fun p => if p = 10 * (a (k / m)).val + (b (k % m)).val then c (t (10 * (k / m) + k % m)).val else isoW t a b c m k p
theorem isoW_step {t a b c : Nat → Fin 256} {m i j : Nat} (hj : j < m) (p : Nat) :
    (if p = 10 * (a i).val + (b j).val then c (t (10 * i + j)).val else isoW t a b c m (i * m + j) p) = isoW t a b c m (i * m + (j + 1)) p := by
  have e1 : (i * m + j) / m = i := by
    rw [Nat.mul_comm, Nat.mul_add_div (by omega), Nat.div_eq_of_lt hj]; rfl
  have e2 : (i * m + j) % m = j := by
    rw [Nat.mul_comm, Nat.mul_add_mod, Nat.mod_eq_of_lt hj]
  show _ = isoW t a b c m ((i * m + j) + 1) p
  simp only [isoW, e1, e2]
theorem isoW_row {t a b c : Nat → Fin 256} {m i : Nat} : isoW t a b c m (i * m + m) = isoW t a b c m ((i + 1) * m + 0) := by
  rw [Nat.add_mul, Nat.one_mul, Nat.add_zero]
end Go.Proofs.Ytjihhcjpbcmjaaa
