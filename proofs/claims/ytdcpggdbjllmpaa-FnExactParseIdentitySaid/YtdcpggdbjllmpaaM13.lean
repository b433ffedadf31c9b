/- Terms in plain words: how many values stand on the stack; no conditions but those in the statements. -/
import Derived.Test.YtdcpggdbjllmpaaGx12
namespace Go.Proofs.Ytdcpggdbjllmpaa
open Gx
set_option linter.unusedVariables false
def leafB (c : Fin 256) : Bool := decide (c.val = 120 ∨ c.val = 121 ∨ c.val = 122 ∨ c.val = 101)
theorem leafB_t {c : Fin 256} (h : c.val = 120 ∨ c.val = 121 ∨ c.val = 122 ∨ c.val = 101) : true = leafB c := (decide_eq_true h).symm
def operB (c : Fin 256) : Bool := decide (c.val = 42 ∨ c.val = 92 ∨ c.val = 47)
theorem operB_t {c : Fin 256} (h : c.val = 42 ∨ c.val = 92 ∨ c.val = 47) : true = operB c := (decide_eq_true h).symm
def stp (c : Fin 256) (d : Nat) : Option Nat := bif leafB c then some (d + 1) else bif operB c && decide (2 ≤ d) then some (d - 1) else none
/-- How many values stand behind the first i bytes. -/
def dep (l : List (Fin 256)) : Nat → Option Nat
  | 0 => some 0
  | i + 1 => (dep l i).bind (stp (l.getD i 0))
def isTerm (l : List (Fin 256)) : Bool := decide (dep l l.length = some 1) && decide (l.length ≤ 40)
theorem dep_le {l : List (Fin 256)} : ∀ {i d : Nat}, dep l i = some d → d ≤ i
  | 0, d, h => by simp [dep] at h; omega
  | i + 1, d, h => by
    simp only [dep, Option.bind_eq_some_iff] at h
    obtain ⟨e, h1, h2⟩ := h
    have := dep_le h1
    unfold stp at h2
    cases hc : leafB (l.getD i 0) <;> rw [hc] at h2 <;> simp only [cond_true, cond_false] at h2
    · cases hd : (operB (l.getD i 0) && decide (2 ≤ e)) <;> rw [hd] at h2 <;> simp at h2
      omega
    · simp at h2; omega
theorem dep_none {l : List (Fin 256)} {i : Nat} (h : dep l i = none) : ∀ {j}, i ≤ j → dep l j = none
  | j, hij => by
    obtain ⟨k, rfl⟩ : ∃ k, j = i + k := ⟨j - i, by omega⟩
    clear hij
    induction k with
    | zero => exact h
    | succ k ih => show (dep l (i + k)).bind _ = none; rw [ih]; rfl
theorem dep_leaf {l : List (Fin 256)} {i d : Nat} (h : dep l i = some d) (hc : leafB (l.getD i 0) = true) : dep l (i + 1) = some (d + 1) := by
  simp only [dep, h, Option.bind_some, stp, hc, cond_true]
theorem dep_op {l : List (Fin 256)} {i d : Nat} (h : dep l i = some d) (hc : leafB (l.getD i 0) = false) (ho : operB (l.getD i 0) = true) (h2 : 2 ≤ d) : dep l (i + 1) = some (d - 1) := by
  simp only [dep, h, Option.bind_some, stp, hc, ho, decide_eq_true h2, cond_false, cond_true, Bool.and_self]
theorem dep_bad {l : List (Fin 256)} {i d : Nat} (h : dep l i = some d) (hc : leafB (l.getD i 0) = false) (ho : operB (l.getD i 0) = false ∨ d < 2) : dep l (i + 1) = none := by
  have : (operB (l.getD i 0) && decide (2 ≤ d)) = false := by
    rcases ho with ho | ho
    · rw [ho]; rfl
    · rw [decide_eq_false (by omega), Bool.and_false]
  simp only [dep, h, Option.bind_some, stp, hc, cond_false, this]
theorem isTerm_bad {l : List (Fin 256)} {i : Nat} (hi : i < l.length) (h : dep l (i + 1) = none) : false = isTerm l := by
  have := dep_none h (j := l.length) (by omega)
  simp [isTerm, this]
theorem isTerm_end {l : List (Fin 256)} {d : Nat} (h : dep l l.length = some d) : decide (d = 1 ∧ l.length ≤ 40) = isTerm l := by
  rw [isTerm, h, Bool.eq_iff_iff]
  simp
theorem isTerm_end1 {l : List (Fin 256)} {d : Nat} (h : dep l l.length = some d) (h1 : ¬ d = 1) : false = isTerm l := by
  rw [← isTerm_end h, decide_eq_false (by omega)]
theorem isTerm_end2 {l : List (Fin 256)} {d : Nat} (h : dep l l.length = some d) (h1 : d = 1) : decide (l.length ≤ 40) = isTerm l := by
  rw [← isTerm_end h, Bool.eq_iff_iff]; simp [h1]
end Go.Proofs.Ytdcpggdbjllmpaa
