/- Plain facts on tables that are filled row by row, and on the sign of a permutation; no program in sight, conditions in the statements. -/
import Derived.Test.YtebcapplclgaeadM2
namespace Go.Proofs.Ytebcapplclgaead
open Go Gx
set_option linter.unusedVariables false
/-- A table of m columns filled up to row x, column y. -/
def part (m : Nat) (g : Nat → Nat → Fin 256) (x y : Nat) : Nat → Fin 256 := fun k => if (k / 10 < x ∧ k % 10 < m) ∨ (k / 10 = x ∧ k % 10 < y) then g (k / 10) (k % 10) else 0
theorem part_zero {m : Nat} {g : Nat → Nat → Fin 256} (k : Nat) : part m g 0 0 k = 0 := by simp [part]
theorem part_step {m : Nat} {g : Nat → Nat → Fin 256} {x y : Nat} (hy : y < 10) (k : Nat) : (if k = 10 * x + y then g x y else part m g x y k) = part m g x (y + 1) k := by
  unfold part
  by_cases h : k = 10 * x + y
  · have h1 : k / 10 = x := by omega
    have h2 : k % 10 = y := by omega
    rw [if_pos h, if_pos (Or.inr ⟨h1, by omega⟩), h1, h2]
  · rw [if_neg h]
    by_cases h3 : (k / 10 < x ∧ k % 10 < m) ∨ (k / 10 = x ∧ k % 10 < y)
    · rw [if_pos h3, if_pos (h3.imp id fun h => ⟨h.1, by omega⟩)]
    · rw [if_neg h3, if_neg fun h4 => h3 (h4.imp id fun h5 => ⟨h5.1, by omega⟩)]
theorem part_row {m : Nat} {g : Nat → Nat → Fin 256} {x : Nat} (k : Nat) : part m g x m k = part m g (x + 1) 0 k := by
  unfold part
  by_cases h3 : (k / 10 < x ∧ k % 10 < m) ∨ (k / 10 = x ∧ k % 10 < m)
  · rw [if_pos h3, if_pos (Or.inl (h3.elim (fun h => ⟨by omega, h.2⟩) fun h => ⟨by omega, h.2⟩))]
  · rw [if_neg h3, if_neg fun h4 => h3 (h4.elim (fun h => if e : k / 10 = x then .inr ⟨e, h.2⟩ else .inl ⟨by omega, h.2⟩) fun h => by omega)]
theorem mod_in {a n : Int} (h0 : 0 < n) (h1 : n ≤ 10) : 0 ≤ a % n ∧ a % n < 10 := by
  have h2 := Int.emod_nonneg a (show n ≠ 0 by omega)
  have h3 := Int.emod_lt_of_pos a h0
  omega
def cyc (n : Int) (x y : Nat) : Fin 256 := Fin.ofNat 256 (((x : Int) + (y : Int)) % n).toNat
def elm (x y : Nat) : Fin 256 := Fin.ofNat 256 (x ^^^ y)
/-- The sign by counting inversions: row i up to j, from s. -/
def sgnI (p : Nat → Fin 256) (i : Nat) (s : Int) : Nat → Int
  | 0 => s
  | j + 1 => if ((p j).val : Int) > ((p i).val : Int) then - sgnI p i s j else sgnI p i s j
def sgn (p : Nat → Fin 256) : Nat → Int
  | 0 => 1
  | i + 1 => sgnI p i (sgn p i) i
theorem sgnI_one {p : Nat → Fin 256} {i : Nat} {s : Int} (h : s = 1 ∨ s = -1) : ∀ j, sgnI p i s j = 1 ∨ sgnI p i s j = -1
  | 0 => h
  | j + 1 => by
    have := sgnI_one (p := p) (i := i) h j
    unfold sgnI
    split <;> omega
theorem sgn_one {p : Nat → Fin 256} : ∀ i, sgn p i = 1 ∨ sgn p i = -1
  | 0 => .inl rfl
  | i + 1 => sgnI_one (sgn_one i) i
theorem sgnI_t {p : Nat → Fin 256} {i j : Nat} {s : Int} (h : ((p i).val : Int) < ((p j).val : Int)) : -sgnI p i s j = sgnI p i s (j + 1) := by
  show _ = if _ then _ else _
  rw [if_pos h]
theorem sgnI_f {p : Nat → Fin 256} {i j : Nat} {s : Int} (h : ((p j).val : Int) ≤ ((p i).val : Int)) : sgnI p i s j = sgnI p i s (j + 1) := by
  show _ = if _ then _ else _
  rw [if_neg (by omega)]
theorem mod_u8 {a n : Int} (h0 : 0 < n) (h1 : n ≤ 10) : inR .u8 (a % n) := by
  have := mod_in (a := a) h0 h1
  exact ⟨by omega, by omega⟩
theorem mod_st {a n : Int} {e : Nat} (h0 : 0 < n) (h1 : n ≤ 10) (h : e < 100) : e < 100 ∧ 0 ≤ a % n ∧ a % n < 256 := by
  have := mod_in (a := a) h0 h1
  exact ⟨h, by omega, by omega⟩
theorem xor_lt8 {x y : Nat} (hx : x < 8) (hy : y < 8) : x ^^^ y < 8 := Nat.xor_lt_two_pow (n := 3) hx hy
theorem xor_in {x y : Nat} (hx : x < 8) (hy : y < 8) : inR .i64 ((((x : Int).toNat ^^^ (y : Int).toNat : Nat)) : Int) := by
  have : ((((x : Int).toNat ^^^ (y : Int).toNat : Nat)) : Int) = ((x ^^^ y : Nat) : Int) := rfl
  have h := xor_lt8 hx hy
  rw [this]
  exact ⟨by omega, by omega⟩
theorem xor_u8 {x y : Nat} (hx : x < 8) (hy : y < 8) : inR .u8 ((((x : Int).toNat ^^^ (y : Int).toNat : Nat)) : Int) := by
  have : ((((x : Int).toNat ^^^ (y : Int).toNat : Nat)) : Int) = ((x ^^^ y : Nat) : Int) := rfl
  have h := xor_lt8 hx hy
  rw [this]
  exact ⟨by omega, by omega⟩
theorem xor_st {x y e : Nat} (hx : x < 8) (hy : y < 8) (h : e < 100) : e < 100 ∧ 0 ≤ ((((x : Int).toNat ^^^ (y : Int).toNat : Nat)) : Int) ∧ ((((x : Int).toNat ^^^ (y : Int).toNat : Nat)) : Int) < 256 := by
  have := xor_u8 hx hy
  exact ⟨h, this.1, by have := this.2; omega⟩
theorem pow3 {k : Int} (h : 0 ≤ k ∧ k ≤ 3) : 1 ≤ (1 : Int) * 2 ^ k.toNat ∧ (1 : Int) * 2 ^ k.toNat ≤ 8 := by
  have h1 := Nat.pow_le_pow_right (show 0 < 2 by omega) (show k.toNat ≤ 3 by omega)
  have h2 := Nat.two_pow_pos k.toNat
  have e : ((2 ^ k.toNat : Nat) : Int) = (2 : Int) ^ k.toNat := by simp
  rw [Int.one_mul, ← e]
  omega
end Go.Proofs.Ytebcapplclgaead
