/- Isotopes: the table that three renamings lay out of a square. No conditions but those in the statements. -/
import Derived.Test.YtebcapplclgaeacM6
import Derived.Test.YtebcapplclgaeacM2
namespace Go.Proofs.Ytebcapplclgaeac
open Gx
set_option linter.unusedVariables false
/-- The table after the first k pairs. -/
def isoW (t a b c : Nat → Fin 256) (m : Nat) : Nat → Nat → Fin 256
  | 0 => fun _ => 0
  | k + 1 => fun p => if p = 10 * (a (k / m)).val + (b (k % m)).val then c (t (10 * (k / m) + k % m)).val else isoW t a b c m k p
theorem isoW_step {t a b c : Nat → Fin 256} {m i j : Nat} (hj : j < m) (p : Nat) :
    (if p = 10 * (a i).val + (b j).val then c (t (10 * i + j)).val else isoW t a b c m (i * m + j) p) = isoW t a b c m (i * m + (j + 1)) p := by
  have e1 : (i * m + j) / m = i := by
    rw [Nat.mul_comm, Nat.mul_add_div (by omega), Nat.div_eq_of_lt hj]; rfl
  have e2 : (i * m + j) % m = j := by
    rw [Nat.mul_comm, Nat.mul_add_mod, Nat.mod_eq_of_lt hj]
  show _ = isoW t a b c m ((i * m + j) + 1) p
  simp only [isoW, e1, e2]
theorem isoW_row {t a b c : Nat → Fin 256} {m i : Nat} : isoW t a b c m (i * m + m) = isoW t a b c m ((i + 1) * m + 0) := by
  rw [Nat.add_mul, Nat.one_mul, Nat.add_zero]
noncomputable def eqT (n : Int) (f g : Nat → Fin 256) : Bool := @decide (n = n ∧ ∀ i, i < 10 * 10 → f i = g i) (Classical.propDecidable _)
noncomputable def eqT' (n : Int) (f g : Nat → Fin 256) : Bool := @decide (n = n ∧ ∀ i, i < 10 * 10 → g i = f i) (Classical.propDecidable _)
theorem eqT_c {n : Int} {f g : Nat → Fin 256} : eqT' n f g = eqT n f g := by
  unfold eqT eqT'
  congr 1
  exact propext ⟨fun h => ⟨h.1, fun i hi => (h.2 i hi).symm⟩, fun h => ⟨h.1, fun i hi => (h.2 i hi).symm⟩⟩
theorem code01_t {b : Bool} (h : (bif b then (0 : Int) else 1) = 0) : b = true := by cases b <;> simp_all
theorem code01_f {b : Bool} (h : (bif b then (0 : Int) else 1) ≠ 0) : b = false := by cases b <;> simp_all
theorem inR_n {n : Int} (h : 1 ≤ n ∧ n ≤ 10) : inR .i64 n := ⟨by show -9223372036854775808 ≤ n; omega, by show n ≤ 9223372036854775807; omega⟩
end Go.Proofs.Ytebcapplclgaeac
