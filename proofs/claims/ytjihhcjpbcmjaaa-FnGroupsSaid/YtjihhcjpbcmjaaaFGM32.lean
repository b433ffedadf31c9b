/- The code and the list of LeastBlock. No conditions but those in the statements. -/
import Derived.Test.YtjihhcjpbcmjaaaFGM31
namespace Go.Proofs.Ytjihhcjpbcmjaaa
open Gx
set_option linter.unusedVariables false
def inN (n x y : Int) : Prop := (0 ≤ x ∧ x ≤ n - 1) ∧ (0 ≤ y ∧ y ≤ n - 1)
noncomputable def lbC (ps : List (Nat → Fin 256)) (n x y : Int) : Int := @ite _ (psC ps n = 0) (Classical.propDecidable _) (@ite _ (inN n x y) (Classical.propDecidable _) (if (orbS ps n).length ≤ 1 then 0 else 5) 2) (psC ps n)
noncomputable def lbL (ps : List (Nat → Fin 256)) (n x y : Int) : List Int := if lbC ps n x y = 0 then bkL ps n.toNat x.toNat y.toNat else []
theorem lb_c {ps : List (Nat → Fin 256)} {n x y : Int} (h : ¬ psC ps n = 0) : lbC ps n x y = psC ps n := by unfold lbC; rw [if_neg h]
theorem lb_2 {ps : List (Nat → Fin 256)} {n x y : Int} (h : psC ps n = 0) (h2 : ¬ inN n x y) : lbC ps n x y = 2 := by unfold lbC; rw [if_pos h, if_neg h2]
theorem lb_5 {ps : List (Nat → Fin 256)} {n x y : Int} (h : psC ps n = 0) (h2 : inN n x y) (h3 : ¬ (orbS ps n).length ≤ 1) : lbC ps n x y = 5 := by unfold lbC; rw [if_pos h, if_pos h2, if_neg h3]
theorem lb_0 {ps : List (Nat → Fin 256)} {n x y : Int} (h : psC ps n = 0) (h2 : inN n x y) (h3 : (orbS ps n).length ≤ 1) : lbC ps n x y = 0 := by unfold lbC; rw [if_pos h, if_pos h2, if_pos h3]
theorem lbL_0 {ps : List (Nat → Fin 256)} {n x y : Int} (h : lbC ps n x y = 0) : lbL ps n x y = bkL ps n.toNat x.toNat y.toNat := if_pos h
theorem lbL_n {ps : List (Nat → Fin 256)} {n x y c : Int} (h : lbC ps n x y = c) (hc : c ≠ 0) : lbL ps n x y = [] := if_neg (by omega)
theorem lbL_len {ps : List (Nat → Fin 256)} {n x y : Int} : (lbL ps n x y).length ≤ 10000000 := by
  unfold lbL
  split
  · rename_i h
    have h0 : psC ps n = 0 := Classical.byContradiction fun h1 => by rw [lb_c h1] at h; exact h1 h
    have hn := (psC_ok h0).1.1
    unfold bkL
    have := filt_len (P := bkB ps n.toNat x.toNat y.toNat x.toNat) n.toNat
    omega
  · simp
/-- The code of a group and two points. -/
noncomputable def psD (ps : List (Nat → Fin 256)) (n x y : Int) : Int := @ite _ (psC ps n = 0) (Classical.propDecidable _) (@ite _ (inN n x y) (Classical.propDecidable _) 0 2) (psC ps n)
theorem psD_c {ps : List (Nat → Fin 256)} {n x y : Int} (h : ¬ psC ps n = 0) : psD ps n x y = psC ps n := by unfold psD; rw [if_neg h]
theorem psD_2 {ps : List (Nat → Fin 256)} {n x y : Int} (h : psC ps n = 0) (h2 : ¬ inN n x y) : psD ps n x y = 2 := by unfold psD; rw [if_pos h, if_neg h2]
theorem psD_0 {ps : List (Nat → Fin 256)} {n x y : Int} (h : psC ps n = 0) (h2 : inN n x y) : psD ps n x y = 0 := by unfold psD; rw [if_pos h, if_pos h2]
theorem psD_ok {ps : List (Nat → Fin 256)} {n x y : Int} (h : psD ps n x y = 0) : psC ps n = 0 ∧ inN n x y := by
  have h0 : psC ps n = 0 := Classical.byContradiction fun h1 => by rw [psD_c h1] at h; exact h1 h
  exact ⟨h0, Classical.byContradiction fun h1 => by rw [psD_2 h0 h1] at h; omega⟩
theorem psD_n {ps : List (Nat → Fin 256)} {n x y : Int} (h : ¬ psD ps n x y = 0) : lbC ps n x y = psD ps n x y := by
  by_cases h0 : psC ps n = 0
  · by_cases h2 : inN n x y
    · exact absurd (psD_0 h0 h2) h
    · rw [lb_2 h0 h2, psD_2 h0 h2]
  · rw [lb_c h0, psD_c h0]
def p2 (x y : Int) (i : Nat) : Int := [x, y].getD i 0
theorem inN_t {n x y : Int} (h : ∀ j : Nat, j < 2 → 0 ≤ [x, y].getD j 0 ∧ [x, y].getD j 0 ≤ n - 1) : inN n x y := ⟨h 0 (by omega), h 1 (by omega)⟩
theorem inN_f {n x y : Int} {i : Nat} (hi : i < 2) (h : ¬ (0 ≤ [x, y].getD i 0 ∧ [x, y].getD i 0 ≤ n - 1)) : ¬ inN n x y := fun hh => by
  rcases i with _ | _ | i
  · exact h hh.1
  · exact h hh.2
  · omega
end Go.Proofs.Ytjihhcjpbcmjaaa
