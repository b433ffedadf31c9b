/- Plain facts on the exponent of a loop, by least common multiples; no program in sight, conditions in the statements. -/
import Derived.Test.YtebcapplclgaeacM8
namespace Go.Proofs.Ytebcapplclgaeac
open Go Gx
set_option linter.unusedVariables false
/-- The least common multiple of the orders of the first x elements. -/
def ex (t : Nat → Fin 256) : Nat → Nat
  | 0 => 1
  | x + 1 => ex t x / Nat.gcd (ex t x) (ordN t (Fin.ofNat 256 x)) * ordN t (Fin.ofNat 256 x)
theorem ordN_pos {t : Nat → Fin 256} {x : Fin 256} : 0 < ordN t x := by unfold ordN; omega
theorem ex_b {t : Nat → Fin 256} : ∀ {x : Nat}, (∀ j, j < x → ordN t (Fin.ofNat 256 j) ≤ 10) → 1 ≤ ex t x ∧ ex t x ≤ 10 ^ x
  | 0, _ => ⟨Nat.le_refl _, Nat.le_refl _⟩
  | x + 1, h => by
    have ih := ex_b (x := x) fun j hj => h j (by omega)
    have ho := h x (by omega)
    have hp := ordN_pos (t := t) (x := Fin.ofNat 256 x)
    have hg := Nat.gcd_pos_of_pos_right (ex t x) hp
    have hd := Nat.gcd_dvd_left (ex t x) (ordN t (Fin.ofNat 256 x))
    have h1 := Nat.div_pos (Nat.le_of_dvd (by omega) hd) hg
    have h2 := Nat.div_le_self (ex t x) (Nat.gcd (ex t x) (ordN t (Fin.ofNat 256 x)))
    refine ⟨Nat.mul_pos h1 hp, ?_⟩
    show _ * _ ≤ _
    rw [Nat.pow_succ]
    exact Nat.mul_le_mul (Nat.le_trans h2 ih.2) ho
theorem ex_le {t : Nat → Fin 256} {x : Nat} (hx : x ≤ 10) (h : ∀ j, j < x → ordN t (Fin.ofNat 256 j) ≤ 10) : 1 ≤ ex t x ∧ ex t x ≤ 10000000000 := by
  have h1 := ex_b h
  have h2 : 10 ^ x ≤ 10 ^ 10 := Nat.pow_le_pow_right (by omega) hx
  have h3 : (10 : Nat) ^ 10 = 10000000000 := rfl
  omega
theorem ords {n : Int} {t : Nat → Fin 256} (hl : isLp n t = true) {j : Nat} (hj : (j : Int) < n) : ordN t (Fin.ofNat 256 j) ≤ 10 := by
  have hn := (lp_sq hl).1
  have := ord_le hl (x := Fin.ofNat 256 j) (by rw [ofNat_val (by omega)]; exact hj)
  omega
theorem ex_step {t : Nat → Fin 256} {x : Nat} {e o : Int} (he : e = ((ex t x : Nat) : Int)) (ho : o = ((ordN t (Fin.ofNat 256 x) : Nat) : Int)) {g : Nat} (hg : g = Nat.gcd (ex t x) (ordN t (Fin.ofNat 256 x))) : e / (g : Int) * o = ((ex t (x + 1) : Nat) : Int) := by
  subst he; subst ho; subst hg
  show _ = ((ex t x / Nat.gcd (ex t x) (ordN t (Fin.ofNat 256 x)) * ordN t (Fin.ofNat 256 x) : Nat) : Int)
  simp
theorem quo_ex {e : Nat} {g : Nat} (hg : 0 < g) (he : e ≤ 10000000000) : inR .i64 ((e : Int) / (g : Int)) := by
  have h0 : 0 ≤ (e : Int) / (g : Int) := Int.ediv_nonneg (by omega) (by omega)
  have h1 : (e : Int) / (g : Int) ≤ (e : Int) := Int.ediv_le_self _ (by omega)
  exact ⟨by omega, by omega⟩
theorem mul_ex {t : Nat → Fin 256} {x : Nat} (hx : x < 10) (h : ∀ j, j < x + 1 → ordN t (Fin.ofNat 256 j) ≤ 10) {g : Nat} (hg : g = Nat.gcd (ex t x) (ordN t (Fin.ofNat 256 x))) : inR .i64 (((ex t x : Nat) : Int) / (g : Int) * ((ordN t (Fin.ofNat 256 x) : Nat) : Int)) := by
  rw [ex_step rfl rfl hg]
  have := ex_le (x := x + 1) (by omega) h
  exact ⟨by omega, by omega⟩
theorem gcd_step {a b : Nat} : Nat.gcd b (a % b) = Nat.gcd a b := by rw [Nat.gcd_comm a b, Nat.gcd_rec b a, Nat.gcd_comm]
end Go.Proofs.Ytebcapplclgaeac
