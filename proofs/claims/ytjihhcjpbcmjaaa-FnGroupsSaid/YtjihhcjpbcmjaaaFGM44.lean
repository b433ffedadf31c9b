/- Sifting through tables of leaders. No conditions but those in the statements. -/
import Derived.Test.YtjihhcjpbcmjaaaFGM43
namespace Go.Proofs.Ytjihhcjpbcmjaaa
open Gx
set_option linter.unusedVariables false
def lrP (ld : Nat → Fin 256) (k x : Nat) : Nat → Fin 256 := fun j => ld (100 * k + 10 * x + j)
def siB (hs : Nat → Bool) (ld : Nat → Fin 256) (n : Nat) : Nat → Nat → (Nat → Fin 256) → Bool
  | 0, _, _ => true
  | d + 1, k, p => hs (10 * k + (p k).val) && siB hs ld n d (k + 1) (thenT p (backT (lrP ld k (p k).val) n) n)
theorem siB_f {hs : Nat → Bool} {ld : Nat → Fin 256} {n k : Nat} {p : Nat → Fin 256} (hk : k < n) (h : hs (10 * k + (p k).val) = false) : siB hs ld n (n - k) k p = false := by
  rw [show n - k = (n - (k + 1)) + 1 by omega, siB, h]; rfl
theorem siB_t {hs : Nat → Bool} {ld : Nat → Fin 256} {n k : Nat} {p : Nat → Fin 256} (hk : k < n) (h : hs (10 * k + (p k).val) = true) : siB hs ld n (n - k) k p = siB hs ld n (n - (k + 1)) (k + 1) (thenT p (backT (lrP ld k (p k).val) n) n) := by
  rw [show n - k = (n - (k + 1)) + 1 by omega, siB, h]; rfl
def LdOk (hs : Nat → Bool) (ld : Nat → Fin 256) (n : Nat) : Prop := ∀ k x, k < n → x < n → hs (10 * k + x) = true → IsPerm (lrP ld k x) (n : Int)
/-! ### The order -/
def cnR (hs : Nat → Bool) (k : Nat) : Nat → Nat
  | 0 => 0
  | x + 1 => if hs (10 * k + x) = true then cnR hs k x + 1 else cnR hs k x
theorem cnR_t {hs : Nat → Bool} {k x : Nat} (h : hs (10 * k + x) = true) : cnR hs k (x + 1) = cnR hs k x + 1 := if_pos h
theorem cnR_f {hs : Nat → Bool} {k x : Nat} (h : hs (10 * k + x) = false) : cnR hs k (x + 1) = cnR hs k x := if_neg (by rw [h]; decide)
theorem cnR_le (hs : Nat → Bool) (k : Nat) : ∀ x, cnR hs k x ≤ x
  | 0 => Nat.le_refl _
  | x + 1 => by
    have := cnR_le hs k x
    unfold cnR; split <;> omega
def ordP (hs : Nat → Bool) : Nat → Nat
  | 0 => 1
  | k + 1 => ordP hs k * cnR hs k 10
theorem ordP_le (hs : Nat → Bool) : ∀ k, ordP hs k ≤ 10 ^ k
  | 0 => Nat.le_refl _
  | k + 1 => by
    rw [ordP, Nat.pow_succ]
    exact Nat.mul_le_mul (ordP_le hs k) (cnR_le hs k 10)
theorem ordP_mul {hs : Nat → Bool} {k : Nat} (hk : k < 10) : (0 : Int) ≤ ((ordP hs k : Nat) : Int) * ((cnR hs k 10 : Nat) : Int) ∧ ((ordP hs k : Nat) : Int) * ((cnR hs k 10 : Nat) : Int) ≤ 10000000000 ∧ ((ordP hs k : Nat) : Int) * ((cnR hs k 10 : Nat) : Int) = ((ordP hs (k + 1) : Nat) : Int) := by
  have e : ((ordP hs k : Nat) : Int) * ((cnR hs k 10 : Nat) : Int) = ((ordP hs (k + 1) : Nat) : Int) := by rw [ordP, Int.natCast_mul]
  have h1 := ordP_le hs (k + 1)
  have h2 : 10 ^ (k + 1) ≤ 10 ^ 10 := Nat.pow_le_pow_right (by omega) (by omega)
  have h3 : (10 : Nat) ^ 10 = 10000000000 := by decide
  rw [e]; exact ⟨by omega, by omega, rfl⟩
end Go.Proofs.Ytjihhcjpbcmjaaa
