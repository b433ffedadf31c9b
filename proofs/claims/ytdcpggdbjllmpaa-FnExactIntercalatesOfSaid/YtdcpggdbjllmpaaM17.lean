/- Tests that run over all pairs; squares that are orthogonal. No conditions but those in the statements. -/
import Derived.Test.YtdcpggdbjllmpaaM7
import Derived.Test.YtdcpggdbjllmpaaGx12
namespace Go.Proofs.Ytdcpggdbjllmpaa
open Gx
set_option linter.unusedVariables false
/-- p at all pairs. -/
noncomputable def allP (m : Nat) (p : Nat → Nat → Bool) : Bool := @decide (∀ i j, i < m → j < m → p i j = true) (Classical.propDecidable _)
theorem allP_t {m : Nat} {p : Nat → Nat → Bool} (h : ∀ i j, i < m → j < m → p i j = true) : true = allP m p := (@decide_eq_true _ (Classical.propDecidable _) h).symm
theorem allP_f {m i j : Nat} {p : Nat → Nat → Bool} (hi : i < m) (hj : j < m) (h : p i j = false) : false = allP m p := (@decide_eq_false _ (Classical.propDecidable _) fun hh => by rw [hh i j hi hj] at h; cases h).symm
theorem allP_of {m i j : Nat} {b : Bool} {p : Nat → Nat → Bool} (h : (b = true ∧ ∀ i j, i < m → j < m → p i j = true) ∨ (b = false ∧ i < m ∧ j < m ∧ p i j = false)) : b = allP m p := by
  rcases h with ⟨rfl, h⟩ | ⟨rfl, h1, h2, h3⟩
  · exact allP_t h
  · exact allP_f h1 h2 h3
/-- The pairs ahead of (i, j). -/
def Ahead (m : Nat) (p : Nat → Nat → Bool) (i j : Nat) : Prop := ∀ a b, (a < i ∨ (a = i ∧ b < j)) → b < m → p a b = true
theorem Ahead.zero {m : Nat} {p : Nat → Nat → Bool} : Ahead m p 0 0 := fun a b h _ => by omega
theorem Ahead.step {m i j : Nat} {p : Nat → Nat → Bool} (h : Ahead m p i j) (hp : p i j = true) : Ahead m p i (j + 1) := fun a b h1 h2 => by
  by_cases e : a = i ∧ b = j
  · obtain ⟨rfl, rfl⟩ := e; exact hp
  · exact h a b (by omega) h2
theorem Ahead.row {m i : Nat} {p : Nat → Nat → Bool} (h : Ahead m p i m) : Ahead m p (i + 1) 0 := fun a b h1 h2 => h a b (by omega) h2
theorem Ahead.all {m : Nat} {p : Nat → Nat → Bool} (h : Ahead m p m 0) : ∀ i j, i < m → j < m → p i j = true := fun i j hi hj => h i j (by omega) hj
theorem p_not8 {a b : Bool} (h : (!a) = b) : a = !b := by cases a <;> cases b <;> simp_all
/-! ### Orthogonal squares -/
def atO (t u : Nat → Fin 256) (i j : Nat) : Nat := 10 * (t (10 * i + j)).val + (u (10 * i + j)).val
noncomputable def seenO (t u : Nat → Fin 256) (m i j : Nat) (k : Nat) : Bool := @decide (∃ a b, (a < i ∨ (a = i ∧ b < j)) ∧ b < m ∧ k = atO t u a b) (Classical.propDecidable _)
theorem seen_iff {t u : Nat → Fin 256} {m i j k : Nat} : seenO t u m i j k = true ↔ ∃ a b, (a < i ∨ (a = i ∧ b < j)) ∧ b < m ∧ k = atO t u a b := @decide_eq_true_iff _ (Classical.propDecidable _)
theorem seen_zero {t u : Nat → Fin 256} {m : Nat} (k : Nat) : false = seenO t u m 0 0 k := by
  rw [eq_comm, Bool.eq_false_iff]
  intro h
  obtain ⟨a, b, h1, _⟩ := seen_iff.1 h
  omega
theorem seen_step {t u : Nat → Fin 256} {m i j : Nat} (hj : j < m) (k : Nat) : (if k = atO t u i j then true else seenO t u m i j k) = seenO t u m i (j + 1) k := by
  rw [Bool.eq_iff_iff, seen_iff]
  split
  · rename_i h
    exact ⟨fun _ => ⟨i, j, by omega, hj, h⟩, fun _ => rfl⟩
  · rename_i h
    rw [seen_iff]
    constructor
    · rintro ⟨a, b, h1, h2, h3⟩; exact ⟨a, b, by omega, h2, h3⟩
    · rintro ⟨a, b, h1, h2, h3⟩
      refine ⟨a, b, ?_, h2, h3⟩
      by_cases e : a = i ∧ b = j
      · obtain ⟨rfl, rfl⟩ := e; exact absurd h3 h
      · omega
theorem seen_row {t u : Nat → Fin 256} {m i : Nat} (k : Nat) : seenO t u m i m k = seenO t u m (i + 1) 0 k := by
  rw [Bool.eq_iff_iff, seen_iff, seen_iff]
  constructor
  · rintro ⟨a, b, h1, h2, h3⟩; exact ⟨a, b, by omega, h2, h3⟩
  · rintro ⟨a, b, h1, h2, h3⟩; exact ⟨a, b, by omega, h2, h3⟩
noncomputable def pO (t u : Nat → Fin 256) (m i j : Nat) : Bool := !seenO t u m i j (atO t u i j)
theorem atO_lt {n : Int} {t u : Nat → Fin 256} (h1 : SqP n t) (h2 : SqP n u) {i j : Nat} (hi : (i : Int) < n) (hj : (j : Int) < n) : (t (10 * i + j)).val < 10 ∧ (u (10 * i + j)).val < 10 ∧ atO t u i j < 100 := by
  have a := sq_lt h1 hi hj
  have b := sq_lt h2 hi hj
  have := h1.1
  unfold atO
  omega
end Go.Proofs.Ytdcpggdbjllmpaa
