/- The rows of a square as lists of numbers. No conditions but those in the statements. -/
import Derived.Test.YtebcapplclgaeacM15
import Derived.Test.YtebcapplclgaeacGx19
namespace Go.Proofs.Ytebcapplclgaeac
open Gx
def rowI (t : Nat → Fin 256) (x : Nat) : Nat → List Int
  | 0 => []
  | y + 1 => rowI t x y ++ [((t (10 * x + y)).val : Int)]
def listsP (t : Nat → Fin 256) (m : Nat) : Nat → List (List Int)
  | 0 => []
  | x + 1 => listsP t m x ++ [rowI t x m]
theorem rowI_len (t : Nat → Fin 256) (x : Nat) : ∀ y, (rowI t x y).length = y
  | 0 => rfl
  | y + 1 => by simp [rowI, rowI_len t x y]
theorem listsP_length (t : Nat → Fin 256) (m : Nat) : ∀ x, (listsP t m x).length = x
  | 0 => rfl
  | x + 1 => by simp [listsP, listsP_length t m x]
theorem listsP_len {t : Nat → Fin 256} {m x : Nat} {L : SL} (h : L.map (·.2) = listsP t m x) : L.length = x := by
  have := congrArg List.length h
  rw [listsP_length] at this
  simpa using this
theorem listsP_mem {t : Nat → Fin 256} {m : Nat} : ∀ {x : Nat}, ∀ l ∈ listsP t m x, l.length = m
  | 0, l, h => by simp [listsP] at h
  | x + 1, l, h => by
    rcases List.mem_append.1 h with h | h
    · exact listsP_mem l h
    · rw [List.mem_singleton.1 h, rowI_len]
noncomputable def listsS (n : Int) (t : Nat → Fin 256) : List (List Int) := bif isSq n t then listsP t n.toNat n.toNat else []
theorem listsS_t {n : Int} {t : Nat → Fin 256} (h : isSq n t = true) : listsS n t = listsP t n.toNat n.toNat := by simp [listsS, h]
theorem listsS_f {n : Int} {t : Nat → Fin 256} (h : isSq n t = false) : listsS n t = [] := by simp [listsS, h]
theorem listsS_b (n : Int) (t : Nat → Fin 256) : (listsS n t).length ≤ 100000 ∧ ∀ l ∈ listsS n t, l.length ≤ 10 := by
  cases h : isSq n t with
  | false => rw [listsS_f h]; exact ⟨by simp, fun l hl => by cases hl⟩
  | true =>
    rw [listsS_t h]
    have := (of_isSq h).1
    exact ⟨by rw [listsP_length]; omega, fun l hl => by rw [listsP_mem l hl]; omega⟩
end Go.Proofs.Ytebcapplclgaeac
