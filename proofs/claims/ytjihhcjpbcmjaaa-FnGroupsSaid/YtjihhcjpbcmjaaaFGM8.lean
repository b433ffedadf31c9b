/- Plain facts on direct products of squares; no program in sight, conditions in the statements. -/
import Derived.Test.YtjihhcjpbcmjaaaFGM7
namespace Go.Proofs.Ytjihhcjpbcmjaaa
open Go Gx
set_option linter.unusedVariables false
def dir (m : Int) (t u : Nat → Fin 256) (x y : Nat) : Fin 256 :=
  Fin.ofNat 256 (m * ((t (10 * (x / m.toNat) + y / m.toNat)).val : Int) + ((u (10 * (x % m.toNat) + y % m.toNat)).val : Int)).toNat
theorem divj {x : Nat} {m : Int} (h : 0 < m) : (x : Int) / m = ((x / m.toNat : Nat) : Int) := by
  obtain ⟨k, rfl⟩ := Int.eq_ofNat_of_zero_le (show 0 ≤ m by omega)
  simp
theorem modj {x : Nat} {m : Int} (h : 0 < m) : (x : Int) % m = ((x % m.toNat : Nat) : Int) := by
  obtain ⟨k, rfl⟩ := Int.eq_ofNat_of_zero_le (show 0 ≤ m by omega)
  simp
theorem divlt {x : Nat} {n m : Int} (hm : 1 ≤ m) (h : (x : Int) < n * m) : ((x / m.toNat : Nat) : Int) < n := by
  rw [← divj (by omega)]
  exact Int.ediv_lt_of_lt_mul (by omega) h
theorem modlt {x : Nat} {m : Int} (hm : 1 ≤ m) : ((x % m.toNat : Nat) : Int) < m := by
  rw [← modj (by omega)]
  exact Int.emod_lt_of_pos _ (by omega)
theorem quoD_in {x : Nat} {m : Int} {k : IntKind} (hk : k = .i64 ∨ k = .u8) (h : 0 < m) (hx : x ≤ 100) : inR k ((x : Int) / m) := by
  have h0 : 0 ≤ (x : Int) / m := Int.ediv_nonneg (by omega) (by omega)
  have h1 : (x : Int) / m ≤ (x : Int) := Int.ediv_le_self _ (by omega)
  rcases hk with rfl | rfl
  · exact ⟨by omega, by omega⟩
  · exact ⟨by omega, by omega⟩
theorem mul_b {n m : Int} (h1 : 1 ≤ n ∧ n ≤ 10) (h2 : 1 ≤ m ∧ m ≤ 10) : 1 ≤ n * m ∧ n * m ≤ 100 := by
  have a := Int.mul_le_mul h1.1 h2.1 (by omega) (by omega)
  have b := Int.mul_le_mul h1.2 h2.2 (by omega) (by omega)
  omega
theorem val_lt {n m a b : Int} (h0 : 1 ≤ m) (ha : 0 ≤ a) (han : a < n) (hb : 0 ≤ b) (hbm : b < m) (h : n * m ≤ 10) : 0 ≤ m * a ∧ m * a ≤ 9 ∧ 0 ≤ m * a + b ∧ m * a + b ≤ 9 := by
  have h1 : m * a ≤ m * (n - 1) := Int.mul_le_mul_of_nonneg_left (by omega) (by omega)
  have h2 : m * (n - 1) = n * m - m := by rw [Int.mul_sub, Int.mul_one, Int.mul_comm]
  have h3 : 0 ≤ m * a := Int.mul_nonneg (by omega) ha
  omega
end Go.Proofs.Ytjihhcjpbcmjaaa
