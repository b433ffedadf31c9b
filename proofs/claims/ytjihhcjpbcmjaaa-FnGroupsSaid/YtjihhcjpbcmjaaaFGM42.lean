/- Permutations that keep the first points. No conditions but those in the statements. -/
import Derived.Test.YtjihhcjpbcmjaaaFGM26
namespace Go.Proofs.Ytjihhcjpbcmjaaa
open Gx
set_option linter.unusedVariables false
def keepB (p : Nat → Fin 256) : Nat → Bool
  | 0 => true
  | j + 1 => keepB p j && decide ((((p j).val : Nat) : Int) = (j : Int))
theorem keepB_iff {p : Nat → Fin 256} : ∀ k, keepB p k = true ↔ ∀ j, j < k → (p j).val = j
  | 0 => by simp [keepB]
  | k + 1 => by
    rw [keepB, Bool.and_eq_true, keepB_iff k, decide_eq_true_eq]
    constructor
    · rintro ⟨h1, h2⟩ j hj
      by_cases e : j = k
      · subst e; omega
      · exact h1 j (by omega)
    · exact fun h => ⟨fun j hj => h j (by omega), by have := h k (by omega); omega⟩
def kpI (l : List (Nat → Fin 256)) (k : Nat) : Nat → List (Nat → Fin 256)
  | 0 => []
  | i + 1 => if keepB (l.getD i fun _ => 0) k = true then kpI l k i ++ [l.getD i fun _ => 0] else kpI l k i
theorem kpI_t {l : List (Nat → Fin 256)} {k i : Nat} (h : keepB (l.getD i fun _ => 0) k = true) : kpI l k (i + 1) = kpI l k i ++ [l.getD i fun _ => 0] := if_pos h
theorem kpI_f {l : List (Nat → Fin 256)} {k i : Nat} (h : ¬ keepB (l.getD i fun _ => 0) k = true) : kpI l k (i + 1) = kpI l k i := if_neg h
theorem kpI_len {l : List (Nat → Fin 256)} {k : Nat} : ∀ i, (kpI l k i).length ≤ i
  | 0 => Nat.le_refl _
  | i + 1 => by
    have := kpI_len (l := l) (k := k) i
    unfold kpI; split
    · simp; omega
    · omega
theorem kpI_mem {l : List (Nat → Fin 256)} {k : Nat} {p : Nat → Fin 256} : ∀ i, i ≤ l.length → (p ∈ kpI l k i ↔ ∃ j, j < i ∧ p = l.getD j (fun _ => 0) ∧ keepB p k = true)
  | 0, _ => by simp [kpI]
  | i + 1, hi => by
    have ih := kpI_mem (l := l) (k := k) (p := p) i (by omega)
    by_cases h : keepB (l.getD i fun _ => 0) k = true
    · rw [kpI_t h, List.mem_append, ih, List.mem_singleton]
      constructor
      · rintro (⟨j, h1, h2⟩ | rfl)
        · exact ⟨j, by omega, h2⟩
        · exact ⟨i, by omega, rfl, h⟩
      · rintro ⟨j, h1, h2, h3⟩
        by_cases e : j = i
        · subst e; exact .inr h2
        · exact .inl ⟨j, by omega, h2, h3⟩
    · rw [kpI_f h, ih]
      constructor
      · rintro ⟨j, h1, h2⟩; exact ⟨j, by omega, h2⟩
      · rintro ⟨j, h1, h2, h3⟩
        by_cases e : j = i
        · subst e; subst h2; exact absurd h3 h
        · exact ⟨j, by omega, h2, h3⟩
end Go.Proofs.Ytjihhcjpbcmjaaa
