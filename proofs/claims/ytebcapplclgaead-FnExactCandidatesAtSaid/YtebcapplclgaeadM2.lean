/- Plain facts on lists of permutations, a permutation turned round, one behind another; no program in sight, conditions in the statements. -/
import Derived.Test.YtebcapplclgaeadM1
namespace Go.Proofs.Ytebcapplclgaead
open Go Gx
set_option linter.unusedVariables false
/-- All of the list are permutations of n things, and n is one of 1 to 10. -/
noncomputable def permsAll (l : List (Nat → Fin 256)) (n : Int) : Bool := decide (1 ≤ n ∧ n ≤ 10) && l.all fun p => isPerm p n
theorem isPerm_n {p : Nat → Fin 256} {n : Int} (h : isPerm p n = true) : 1 ≤ n ∧ n ≤ 10 := ⟨(of_isPerm h).1, (of_isPerm h).2.1⟩
theorem permsAll_1 {p : Nat → Fin 256} {n : Int} : permsAll [p] n = isPerm p n := by
  unfold permsAll
  cases h : isPerm p n
  · simp [h]
  · simp [h, isPerm_n h]
theorem permsAll_2 {p q : Nat → Fin 256} {n : Int} : permsAll [p, q] n = (isPerm p n && isPerm q n) := by
  unfold permsAll
  cases h : isPerm p n
  · simp [h]
  · simp [h, isPerm_n h]
theorem permsAll_3 {p q r : Nat → Fin 256} {n : Int} : permsAll [p, q, r] n = (isPerm p n && (isPerm q n && isPerm r n)) := by
  unfold permsAll
  cases h : isPerm p n
  · simp [h]
  · simp [h, isPerm_n h]
theorem permsAll_f {l : List (Nat → Fin 256)} {n : Int} {i : Nat} (hi : i < l.length) (h : isPerm (l.getD i fun _ => 0) n = false) : false = permsAll l n := by
  symm
  unfold permsAll
  rw [Bool.and_eq_false_iff]
  right
  rw [List.all_eq_false]
  refine ⟨l.getD i fun _ => 0, ?_, by rw [h]; simp⟩
  simp [List.getD, List.getElem?_eq_getElem hi]
theorem permsAll_t {l : List (Nat → Fin 256)} {n : Int} (h : ∀ i, i < l.length → isPerm (l.getD i fun _ => 0) n = true) : decide (1 ≤ n ∧ n ≤ 10) = permsAll l n := by
  unfold permsAll
  have : (l.all fun p => isPerm p n) = true := by
    rw [List.all_eq_true]
    intro x hx
    obtain ⟨i, hi, rfl⟩ := List.mem_iff_getElem.1 hx
    have := h i hi
    simpa [List.getD, List.getElem?_eq_getElem hi] using this
  rw [this, Bool.and_true]
/-- A permutation turned round: after k steps. -/
def backT (p : Nat → Fin 256) : Nat → Nat → Fin 256
  | 0 => fun _ => 0
  | k + 1 => fun j => if j = (p k).val then Fin.ofNat 256 k else backT p k j
def thenT (p q : Nat → Fin 256) (k : Nat) : Nat → Fin 256 := fun j => if j < k then q (p j).val else 0
theorem perm_lt {p : Nat → Fin 256} {n : Int} {i : Nat} (h : IsPerm p n) (hi : (i : Int) < n) : ((p i).val : Int) < n ∧ n ≤ 10 := ⟨h.2.2.1.2 i (by have := h.2.1; omega) hi, h.2.1⟩
/-- Three permutations of n things. -/
noncomputable def triOk (a b c : Nat → Fin 256) (n : Int) : Bool := isPerm a n && (isPerm b n && isPerm c n)
theorem triOk_a {a b c : Nat → Fin 256} {n : Int} (h : triOk a b c n = true) : IsPerm a n := of_isPerm (by unfold triOk at h; simp at h; exact h.1)
theorem triOk_b {a b c : Nat → Fin 256} {n : Int} (h : triOk a b c n = true) : IsPerm b n := of_isPerm (by unfold triOk at h; simp at h; exact h.2.1)
theorem triOk_c {a b c : Nat → Fin 256} {n : Int} (h : triOk a b c n = true) : IsPerm c n := of_isPerm (by unfold triOk at h; simp at h; exact h.2.2)
end Go.Proofs.Ytebcapplclgaead
