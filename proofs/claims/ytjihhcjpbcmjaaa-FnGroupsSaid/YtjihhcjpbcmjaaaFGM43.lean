/- Places as permutations of all numbers. No conditions but those in the statements. -/
import Derived.Test.YtjihhcjpbcmjaaaFGM21
import Derived.Test.YtjihhcjpbcmjaaaFGM42
namespace Go.Proofs.Ytjihhcjpbcmjaaa
open Gx
set_option linter.unusedVariables false
def fmP (n : Nat) (p : Nat → Fin 256) : Fm := fun j => if j < n then (p j).val else j
theorem fmP_in {n j : Nat} {p : Nat → Fin 256} (h : j < n) : fmP n p j = (p j).val := if_pos h
theorem fmP_out {n j : Nat} {p : Nat → Fin 256} (h : ¬ j < n) : fmP n p j = j := if_neg h
theorem fmP_pn {n : Nat} {p : Nat → Fin 256} (h : IsPerm p (n : Int)) : Pn n (fmP n p) := by
  have hlt : ∀ j, j < n → (p j).val < n := fun j hj => by have := (perm_lt h (i := j) (by omega)).1; omega
  refine ⟨fun j hj => by rw [fmP_in hj]; exact hlt j hj, fun j hj => fmP_out (by omega), fun i j e => ?_⟩
  by_cases hi : i < n
  · by_cases hj : j < n
    · rw [fmP_in hi, fmP_in hj] at e
      have := h.2.1
      exact h.2.2.2 i j (by omega) (by omega) (by omega) (by omega) e
    · rw [fmP_in hi, fmP_out hj] at e
      have := hlt i hi; omega
  · by_cases hj : j < n
    · rw [fmP_out hi, fmP_in hj] at e
      have := hlt j hj; omega
    · rw [fmP_out hi, fmP_out hj] at e; exact e
theorem fmP_then {n : Nat} {p q : Nat → Fin 256} (h : IsPerm p (n : Int)) : fmP n (thenT p q n) = th (fmP n p) (fmP n q) := funext fun j => by
  show _ = fmP n q (fmP n p j)
  by_cases hj : j < n
  · have := (perm_lt h (i := j) (by omega)).1
    rw [fmP_in hj, fmP_in hj, fmP_in (by omega)]
    unfold thenT; rw [if_pos hj]
  · rw [fmP_out hj, fmP_out hj, fmP_out hj]
theorem backT_at {p : Nat → Fin 256} {n : Nat} (hn : n ≤ 256) (hi : ∀ i j, i < n → j < n → (p i).val = (p j).val → i = j) : ∀ k, k ≤ n → ∀ i, i < k → (backT p k (p i).val).val = i
  | 0, _, i, h => by omega
  | k + 1, hk, i, h => by
    unfold backT
    by_cases e : i = k
    · subst e
      rw [if_pos rfl, ofNat_val (by omega)]
    · rw [if_neg fun hh => e (hi i k (by omega) (by omega) hh)]
      exact backT_at hn hi k (by omega) i (by omega)
theorem backT_out {p : Nat → Fin 256} {x : Nat} : ∀ k, (∀ i, i < k → (p i).val ≠ x) → backT p k x = 0
  | 0, _ => rfl
  | k + 1, h => by
    unfold backT
    rw [if_neg fun hh => h k (by omega) hh.symm]
    exact backT_out k fun i hi => h i (by omega)
theorem perm_inj {n : Nat} {p : Nat → Fin 256} (h : IsPerm p (n : Int)) : ∀ i j, i < n → j < n → (p i).val = (p j).val → i = j := fun i j hi hj e => by
  have := h.2.1
  exact h.2.2.2 i j (by omega) (by omega) (by omega) (by omega) e
theorem backT_perm {n : Nat} {p : Nat → Fin 256} (h : IsPerm p (n : Int)) : IsPerm (backT p n) (n : Int) := by
  have hn := h.2.1
  have hlt : ∀ j, j < n → (p j).val < n := fun j hj => by have := (perm_lt h (i := j) (by omega)).1; omega
  have hs := surj_of_inj (f := fun j => (p j).val) (m := n) hlt (perm_inj h)
  have hat := backT_at (n := n) (by omega) (perm_inj h) n (Nat.le_refl _)
  refine ⟨h.1, hn, ⟨fun i hi hni => ?_, fun i hi hin => ?_⟩, fun i j hi hj hin hjn e => ?_⟩
  · exact backT_out n fun q hq e => by have := hlt q hq; omega
  · obtain ⟨q, hq, rfl⟩ := hs i (by omega)
    have := hat q hq
    omega
  · obtain ⟨q, hq, rfl⟩ := hs i (by omega)
    obtain ⟨r, hr, rfl⟩ := hs j (by omega)
    have a := hat q hq
    have b := hat r hr
    rw [a, b] at e
    subst e; rfl
theorem fmP_back {n : Nat} {p : Nat → Fin 256} (h : IsPerm p (n : Int)) : fmP n (backT p n) = iv (fmP n p) := by
  refine iv_unique (fmP_pn h) (funext fun j => ?_)
  show fmP n (backT p n) (fmP n p j) = j
  have hn := h.2.1
  by_cases hj : j < n
  · have := (perm_lt h (i := j) (by omega)).1
    rw [fmP_in hj, fmP_in (by omega)]
    exact backT_at (n := n) (by omega) (perm_inj h) n (Nat.le_refl _) j hj
  · rw [fmP_out hj, fmP_out hj]
end Go.Proofs.Ytjihhcjpbcmjaaa
