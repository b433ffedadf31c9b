/- The rows and the columns of a square, as lists. No conditions but those in the statements. -/
import Derived.Test.YtebcapplclgaeacM6
namespace Go.Proofs.Ytebcapplclgaeac
open Gx
def rowsL (t : Nat → Fin 256) : Nat → List (Nat → Fin 256)
  | 0 => []
  | k + 1 => rowsL t k ++ [rowOf t k]
def colsL (t : Nat → Fin 256) : Nat → List (Nat → Fin 256)
  | 0 => []
  | k + 1 => colsL t k ++ [colOf t k]
theorem rowsL_len (t : Nat → Fin 256) : ∀ k, (rowsL t k).length = k
  | 0 => rfl
  | k + 1 => by simp [rowsL, rowsL_len t k]
theorem colsL_len (t : Nat → Fin 256) : ∀ k, (colsL t k).length = k
  | 0 => rfl
  | k + 1 => by simp [colsL, colsL_len t k]
noncomputable def rowsS (n : Int) (t : Nat → Fin 256) : List (Nat → Fin 256) := bif isSq n t then rowsL t n.toNat else []
noncomputable def colsS (n : Int) (t : Nat → Fin 256) : List (Nat → Fin 256) := bif isSq n t then colsL t n.toNat else []
theorem rowsS_t {n : Int} {t : Nat → Fin 256} (h : isSq n t = true) : rowsS n t = rowsL t n.toNat := by simp [rowsS, h]
theorem rowsS_f {n : Int} {t : Nat → Fin 256} (h : isSq n t = false) : rowsS n t = [] := by simp [rowsS, h]
theorem colsS_t {n : Int} {t : Nat → Fin 256} (h : isSq n t = true) : colsS n t = colsL t n.toNat := by simp [colsS, h]
theorem colsS_f {n : Int} {t : Nat → Fin 256} (h : isSq n t = false) : colsS n t = [] := by simp [colsS, h]
theorem rowsS_len {n : Int} {t : Nat → Fin 256} : (rowsS n t).length ≤ 1000000 := by
  cases h : isSq n t with
  | false => rw [rowsS_f h]; simp
  | true => rw [rowsS_t h, rowsL_len]; have := (of_isSq h).1; omega
theorem colsS_len {n : Int} {t : Nat → Fin 256} : (colsS n t).length ≤ 1000000 := by
  cases h : isSq n t with
  | false => rw [colsS_f h]; simp
  | true => rw [colsS_t h, colsL_len]; have := (of_isSq h).1; omega
end Go.Proofs.Ytebcapplclgaeac
