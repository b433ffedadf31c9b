/- Plain facts on counting commuting pairs; no program in sight, conditions in the statements. -/
import Derived.Test.YtebcapplclgaeacM9
namespace Go.Proofs.Ytebcapplclgaeac
open Go Gx
set_option linter.unusedVariables false
/-- Commuting pairs in row x, up to column y. -/
def ci (t : Nat → Fin 256) (x : Nat) : Nat → Int
  | 0 => 0
  | y + 1 => ci t x y + if t (10 * x + y) = t (10 * y + x) then 1 else 0
def cr (t : Nat → Fin 256) (m : Nat) : Nat → Int
  | 0 => 0
  | x + 1 => cr t m x + ci t x m
theorem ci_b {t : Nat → Fin 256} {x : Nat} : ∀ y : Nat, 0 ≤ ci t x y ∧ ci t x y ≤ (y : Int)
  | 0 => ⟨Int.le_refl _, Int.le_refl _⟩
  | y + 1 => by
    have := ci_b (t := t) (x := x) y
    unfold ci
    split <;> omega
theorem cr_b {t : Nat → Fin 256} {m : Nat} (hm : m ≤ 10) : ∀ x : Nat, 0 ≤ cr t m x ∧ cr t m x ≤ 10 * (x : Int)
  | 0 => ⟨Int.le_refl _, Int.le_refl _⟩
  | x + 1 => by
    have h1 := cr_b (t := t) hm x
    have h2 := ci_b (t := t) (x := x) m
    unfold cr
    omega
theorem cnt_b {t : Nat → Fin 256} {m x y : Nat} (hm : m ≤ 10) (hx : x ≤ 10) (hy : y ≤ 10) : 0 ≤ cr t m x + ci t x y ∧ cr t m x + ci t x y ≤ 1000 := by
  have h1 := cr_b (t := t) hm x
  have h2 := ci_b (t := t) (x := x) y
  omega
theorem ci_t {t : Nat → Fin 256} {x y : Nat} {c : Int} (h : t (10 * x + y) = t (10 * y + x)) : c + ci t x y + 1 = c + ci t x (y + 1) := by
  show _ = c + (ci t x y + if t (10 * x + y) = t (10 * y + x) then 1 else 0)
  rw [if_pos h]; omega
theorem ci_f {t : Nat → Fin 256} {x y : Nat} {c : Int} (h : ¬ t (10 * x + y) = t (10 * y + x)) : c + ci t x y = c + ci t x (y + 1) := by
  show _ = c + (ci t x y + if t (10 * x + y) = t (10 * y + x) then 1 else 0)
  rw [if_neg h]; omega
theorem cr_row {t : Nat → Fin 256} {m x : Nat} : cr t m x + ci t x m = cr t m (x + 1) := rfl
theorem cr_row0 {t : Nat → Fin 256} {m x : Nat} : cr t m x + ci t x m = cr t m (x + 1) + ci t (x + 1) 0 := by
  show _ = (cr t m x + ci t x m) + 0
  omega
end Go.Proofs.Ytebcapplclgaeac
