/- How many transversals there are, both ways. No conditions but those in the statements. -/
import Derived.Test.YtdcpggdbjllmpaaM14
namespace Go.Proofs.Ytdcpggdbjllmpaa
open Gx
set_option linter.unusedVariables false
def setB (c : Nat → Bool) (y : Nat) : Nat → Bool := fun j => if j = y then true else c j
def sumN (f : Nat → Nat) : Nat → Nat
  | 0 => 0
  | m + 1 => sumN f m + f m
theorem sumN_le (f : Nat → Nat) {m : Nat} : ∀ {k : Nat}, m ≤ k → sumN f m ≤ sumN f k
  | 0, h => by rw [show m = 0 by omega]; exact Nat.le_refl _
  | k + 1, h => by
    rcases Nat.lt_or_ge m (k + 1) with h1 | h1
    · have := sumN_le f (m := m) (k := k) (by omega)
      simp only [sumN]; omega
    · rw [show m = k + 1 by omega]; exact Nat.le_refl _
theorem sumN_at (f : Nat → Nat) {y m : Nat} (h : y < m) : sumN f y + f y ≤ sumN f m := sumN_le f (m := y + 1) h
def tvF (t : Nat → Fin 256) (rc : (Nat → Bool) → (Nat → Bool) → Nat) (x : Nat) (c e : Nat → Bool) (y : Nat) : Nat :=
  if c y = true ∨ e (t (10 * x + y)).val = true then 0 else rc (setB c y) (setB e (t (10 * x + y)).val)
def tvN (t : Nat → Fin 256) (n : Nat) : Nat → (Nat → Bool) → (Nat → Bool) → Nat
  | 0, c, e => 1
  | k + 1, c, e => sumN (tvF t (tvN t n k) (n - (k + 1)) c e) n
/-- From row x on. -/
def tvX (t : Nat → Fin 256) (n x : Nat) (c e : Nat → Bool) : Nat := tvN t n (n - x) c e
def tvG (t : Nat → Fin 256) (n x : Nat) (c e : Nat → Bool) (y : Nat) : Nat := tvF t (tvN t n (n - (x + 1))) x c e y
theorem tvX_end {t : Nat → Fin 256} {n : Nat} {c e : Nat → Bool} : tvX t n n c e = 1 := by unfold tvX; rw [Nat.sub_self]; rfl
theorem tvX_step {t : Nat → Fin 256} {n x : Nat} {c e : Nat → Bool} (h : x < n) : tvX t n x c e = sumN (tvG t n x c e) n := by
  unfold tvX tvG
  rw [show n - x = (n - (x + 1)) + 1 by omega, tvN, show n - (n - (x + 1) + 1) = x by omega]
theorem tvG_skip {t : Nat → Fin 256} {n x y : Nat} {c e : Nat → Bool} (h : c y = true ∨ e (t (10 * x + y)).val = true) : tvG t n x c e y = 0 := if_pos h
theorem tvG_go {t : Nat → Fin 256} {n x y : Nat} {c e : Nat → Bool} (h1 : c y = false) (h2 : e (t (10 * x + y)).val = false) : tvG t n x c e y = tvX t n (x + 1) (setB c y) (setB e (t (10 * x + y)).val) := if_neg (by rw [h1, h2]; decide)
/-! ### There are few -/
def frB (c : Nat → Bool) : Nat → Nat
  | 0 => 0
  | m + 1 => frB c m + (if c m = false then 1 else 0)
theorem frB_le (c : Nat → Bool) : ∀ m, frB c m ≤ m
  | 0 => Nat.le_refl _
  | m + 1 => by have := frB_le c m; simp only [frB]; split <;> omega
theorem frB_same {c : Nat → Bool} {y : Nat} : ∀ m, m ≤ y → frB (setB c y) m = frB c m
  | 0, _ => rfl
  | m + 1, h => by
    have : setB c y m = c m := if_neg (by omega)
    simp only [frB, this]
    rw [frB_same m (by omega)]
theorem frB_set {c : Nat → Bool} {y : Nat} (hc : c y = false) : ∀ m, y < m → frB (setB c y) m + 1 = frB c m
  | 0, h => by omega
  | m + 1, h => by
    by_cases e : y = m
    · subst e
      have h1 : setB c y y = true := if_pos rfl
      simp only [frB, frB_same y (Nat.le_refl _), h1, hc, if_true]
      simp
    · have h1 : setB c y m = c m := if_neg (fun h => e h.symm)
      have := frB_set hc m (by omega)
      simp only [frB, h1]; omega
def facP : Nat → Nat → Nat
  | 0, f => 1
  | k + 1, f => f * facP k (f - 1)
theorem sum_b {f : Nat → Nat} {c : Nat → Bool} {B : Nat} : ∀ m, (∀ y, y < m → f y ≤ if c y = false then B else 0) → sumN f m ≤ frB c m * B
  | 0, _ => by simp [sumN]
  | m + 1, h => by
    have h1 := sum_b (f := f) (c := c) (B := B) m (fun y hy => h y (by omega))
    have h2 := h m (by omega)
    simp only [sumN, frB]
    split at h2
    · rename_i hc; rw [if_pos hc, Nat.add_mul]; omega
    · rename_i hc; rw [if_neg hc, Nat.add_zero]; omega
theorem tvN_b {t : Nat → Fin 256} {n : Nat} : ∀ (k : Nat) (c e : Nat → Bool), tvN t n k c e ≤ facP k (frB c n)
  | 0, c, e => Nat.le_refl _
  | k + 1, c, e => by
    rw [tvN, facP]
    refine sum_b n fun y hy => ?_
    unfold tvF
    split
    · exact Nat.zero_le _
    · rename_i h
      have hc : c y = false := by cases hh : c y with | false => rfl | true => exact absurd (.inl hh) h
      rw [if_pos hc]
      have := frB_set hc n hy
      have h2 := tvN_b (t := t) (n := n) k (setB c y) (setB e (t (10 * (n - (k + 1)) + y)).val)
      rwa [show frB (setB c y) n = frB c n - 1 by omega] at h2
theorem facP_9 : ∀ n, n < 10 → facP n n ≤ 362880 := by decide
theorem frB_0 : ∀ m, frB (fun _ => false) m = m
  | 0 => rfl
  | m + 1 => by simp only [frB, frB_0 m, if_true]
theorem tvX_b {t : Nat → Fin 256} {n : Nat} (h : n ≤ 9) : tvX t n 0 (fun _ => false) (fun _ => false) ≤ 362880 := by
  have h1 := tvN_b (t := t) (n := n) n (fun _ => false) (fun _ => false)
  rw [frB_0] at h1
  exact Nat.le_trans h1 (facP_9 n (by omega))
/-! ### Sets as bits -/
theorem bit_set {u y : Nat} : (fun j => (u ||| 2 ^ y).testBit j) = setB (fun j => u.testBit j) y := by
  funext j
  unfold setB
  rw [Nat.testBit_or, Nat.testBit_two_pow]
  by_cases h : j = y
  · subst h; simp
  · rw [if_neg h, decide_eq_false (fun e => h e.symm), Bool.or_false]
theorem bit_zero : (fun j => (0 : Nat).testBit j) = fun _ => false := by funext j; simp
theorem bit_lt {u y : Nat} (hu : u < 1024) (hy : y < 10) : u ||| 2 ^ y < 1024 := Nat.or_lt_two_pow (n := 10) hu (Nat.pow_lt_pow_right (by omega) hy)
abbrev ptrV (b : Nat) : Value := .pointer (some ⟨b, 0, none⟩)
/-- What the two answer. -/
noncomputable def ctC (n : Int) (t : Nat → Fin 256) : Int := if isSq n t = true then (if n ≤ 9 then 0 else 2) else 1
noncomputable def ctN (n : Int) (t : Nat → Fin 256) : Int := if ctC n t = 0 then (tvX t n.toNat 0 (fun _ => false) (fun _ => false) : Int) else 0
theorem ct_1 {n : Int} {t : Nat → Fin 256} (h : isSq n t = false) : ctC n t = 1 := if_neg (by rw [h]; decide)
theorem ct_2 {n : Int} {t : Nat → Fin 256} (h : isSq n t = true) (h2 : ¬ n ≤ 9) : ctC n t = 2 := by unfold ctC; rw [if_pos h, if_neg h2]
theorem ct_0 {n : Int} {t : Nat → Fin 256} (h : isSq n t = true) (h2 : n ≤ 9) : ctC n t = 0 := by unfold ctC; rw [if_pos h, if_pos h2]
theorem ctN_n {n c : Int} {t : Nat → Fin 256} (h : ctC n t = c) (hc : c ≠ 0) : ctN n t = 0 := if_neg (by omega)
theorem ctN_0 {n : Int} {t : Nat → Fin 256} (h : ctC n t = 0) : ctN n t = (tvX t n.toNat 0 (fun _ => false) (fun _ => false) : Int) := if_pos h
end Go.Proofs.Ytdcpggdbjllmpaa
