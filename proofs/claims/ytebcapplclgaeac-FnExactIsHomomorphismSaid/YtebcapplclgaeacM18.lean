/- Lists of images. No conditions but those in the statements. -/
import Derived.Test.YtebcapplclgaeacM17
namespace Go.Proofs.Ytebcapplclgaeac
open Gx
set_option linter.unusedVariables false
def okI (n m : Int) (l : List Int) : Bool := decide ((l.length : Int) = n ∧ ∀ i, i < l.length → 0 ≤ l.getD i 0 ∧ l.getD i 0 ≤ m - 1)
theorem okI_of {n m : Int} {l : List Int} (h : okI n m l = true) : (l.length : Int) = n ∧ ∀ i, i < l.length → 0 ≤ l.getD i 0 ∧ l.getD i 0 ≤ m - 1 := of_decide_eq_true h
theorem okI_f {n m : Int} {l : List Int} {i : Nat} (hi : i < l.length) (h : ¬ (0 ≤ l.getD i 0 ∧ l.getD i 0 ≤ m - 1)) : okI n m l = false := decide_eq_false fun hh => h (hh.2 i hi)
theorem okI_n {n m : Int} {l : List Int} (h : ¬ (l.length : Int) = n) : okI n m l = false := decide_eq_false fun hh => h hh.1
theorem okI_t {n m : Int} {l : List Int} (h : (l.length : Int) = n) (h2 : ∀ i, i < l.length → 0 ≤ l.getD i 0 ∧ l.getD i 0 ≤ m - 1) : okI n m l = true := decide_eq_true ⟨h, h2⟩
theorem okI_e {n m : Int} {l : List Int} (h2 : ∀ i, i < l.length → 0 ≤ l.getD i 0 ∧ l.getD i 0 ≤ m - 1) : decide ((l.length : Int) = n) = okI n m l := by
  unfold okI
  rw [Bool.eq_iff_iff]
  simp only [decide_eq_true_eq]
  exact ⟨fun h => ⟨h, h2⟩, fun h => h.1⟩
def homP (t u : Nat → Fin 256) (l : List Int) (i j : Nat) : Bool := decide (((u (10 * (l.getD i 0).toNat + (l.getD j 0).toNat)).val : Int) = l.getD (t (10 * i + j)).val 0)
theorem hom_b {n m : Int} {t u : Nat → Fin 256} {l : List Int} (h1 : SqP n t) (h2 : SqP m u) (hk : okI n m l = true) {i j : Nat} (hi : (i : Int) < n) (hj : (j : Int) < n) :
    i < l.length ∧ j < l.length ∧ (t (10 * i + j)).val < l.length ∧ 0 ≤ l.getD i 0 ∧ l.getD i 0 < 10 ∧ 0 ≤ l.getD j 0 ∧ l.getD j 0 < 10 := by
  obtain ⟨h3, h4⟩ := okI_of hk
  have a := sq_lt h1 hi hj
  have b := h2.1
  have hil : i < l.length := by omega
  have hjl : j < l.length := by omega
  have c := h4 i hil
  have d := h4 j hjl
  exact ⟨hil, hjl, by omega, by omega, by omega, by omega, by omega⟩
end Go.Proofs.Ytebcapplclgaeac
