/- The text of a square. No conditions but those in the statements. -/
import Derived.Test.YtdcpggdbjllmpaaM7
import Derived.Test.YtdcpggdbjllmpaaGx24
namespace Go.Proofs.Ytdcpggdbjllmpaa
open Gx
set_option linter.unusedVariables false
def rowTx (t : Nat → Fin 256) (i : Nat) : Nat → List (Fin 256)
  | 0 => []
  | j + 1 => rowTx t i j ++ [Fin.ofNat 256 (48 + (t (10 * i + j)).val)]
def sepT (i : Nat) : List (Fin 256) := if 0 < i then [47] else []
def txS (t : Nat → Fin 256) (m : Nat) : Nat → List (Fin 256)
  | 0 => []
  | i + 1 => (txS t m i ++ sepT i) ++ rowTx t i m
theorem rowTx_len {t : Nat → Fin 256} {i : Nat} : ∀ j, (rowTx t i j).length = j
  | 0 => rfl
  | j + 1 => by simp [rowTx, rowTx_len j]
theorem sepT_len (i : Nat) : (sepT i).length ≤ 1 := by unfold sepT; split <;> simp
theorem txS_len {t : Nat → Fin 256} {m : Nat} : ∀ i, (txS t m i).length ≤ (m + 1) * i
  | 0 => by simp [txS]
  | i + 1 => by
    have h1 := txS_len (t := t) (m := m) i
    have h2 := sepT_len i
    have h3 := rowTx_len (t := t) (i := i) m
    simp only [txS, List.length_append]
    rw [Nat.mul_succ]
    omega
theorem txS_110 {t : Nat → Fin 256} {m i : Nat} (hm : m ≤ 10) (hi : i ≤ 10) : (txS t m i).length ≤ 110 := by
  have h1 := txS_len (t := t) (m := m) i
  have h2 : (m + 1) * i ≤ 11 * 10 := Nat.mul_le_mul (by omega) hi
  omega
theorem sep_t {i : Nat} (h : 0 < i) : sepT i = [47] := if_pos h
theorem sep_f {i : Nat} (h : ¬ 0 < i) : sepT i = [] := if_neg h
end Go.Proofs.Ytdcpggdbjllmpaa
