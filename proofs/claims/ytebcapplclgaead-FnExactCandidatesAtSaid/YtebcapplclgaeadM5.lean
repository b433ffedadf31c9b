/- Plain facts on tests that run over all of the first m numbers, and on codes; no program in sight, conditions in the statements. -/
import Derived.Test.YtebcapplclgaeadM4
namespace Go.Proofs.Ytebcapplclgaead
open Go Gx
set_option linter.unusedVariables false
noncomputable def allB (m : Nat) (p : Nat → Prop) : Bool := @decide (∀ j, j < m → p j) (Classical.propDecidable _)
theorem allB_t {m : Nat} {p : Nat → Prop} (h : ∀ j, j < m → p j) : true = allB m p := (@decide_eq_true _ (Classical.propDecidable _) h).symm
theorem allB_f {m j : Nat} {p : Nat → Prop} (hj : j < m) (h : ¬ p j) : false = allB m p := (@decide_eq_false _ (Classical.propDecidable _) fun hh => h (hh j hj)).symm
theorem of_allB {m : Nat} {p : Nat → Prop} (h : allB m p = true) : ∀ j, j < m → p j := @of_decide_eq_true _ (Classical.propDecidable _) h
theorem eq_ofNat {v : Fin 256} {x : Nat} (h : x < 256) (e : (v.val : Int) = (x : Int)) : v = Fin.ofNat 256 x := Fin.ext (by rw [ofNat_val h]; omega)
theorem val_ofNat {v : Fin 256} {x : Nat} (h : x < 256) (e : v = Fin.ofNat 256 x) : (v.val : Int) = (x : Int) := by rw [e, ofNat_val h]
def unitP (t : Nat → Fin 256) (e x : Nat) : Prop := (t (10 * e + x)).val = x ∧ (t (10 * x + e)).val = x
def code2 (a b : Bool) : Int := bif a then (bif b then 0 else 2) else 1
theorem code2_eq {a b : Bool} (h : code2 a b = 0) : a = true ∧ b = true := by cases a <;> cases b <;> simp [code2] at h ⊢
theorem code2_ne {a b : Bool} (h : ¬ code2 a b = 0) : (a && b) = false := by cases a <;> cases b <;> simp [code2] at h ⊢
def ltn (n : Int) (x : Fin 256) : Bool := decide ((x.val : Int) < n)
theorem ltn_2 {n : Int} {x y : Fin 256} (h : [x, y].all (ltn n) = true) : (x.val : Int) < n ∧ (y.val : Int) < n := by simpa [ltn] using h
theorem all_t {n : Int} {l : List (Fin 256)} (h : ∀ i, i < l.length → ((l.getD i 0).val : Int) < n) : true = l.all (ltn n) := by
  symm
  rw [List.all_eq_true]
  intro x hx
  obtain ⟨i, hi, rfl⟩ := List.mem_iff_getElem.1 hx
  have := h i hi
  simpa [ltn, List.getD, List.getElem?_eq_getElem hi] using this
theorem all_f {n : Int} {l : List (Fin 256)} {i : Nat} (hi : i < l.length) (h : n ≤ ((l.getD i 0).val : Int)) : false = l.all (ltn n) := by
  symm
  rw [List.all_eq_false]
  refine ⟨l.getD i 0, ?_, by simp [ltn] at h ⊢; exact h⟩
  simp [List.getD, List.getElem?_eq_getElem hi]
theorem two_f {n : Int} {x y : Fin 256} (h : n ≤ (x.val : Int) ∨ n ≤ (y.val : Int)) : [x, y].all (ltn n) = false := by
  simp only [List.all_cons, List.all_nil, Bool.and_true, ltn, Bool.and_eq_false_iff, decide_eq_false_iff_not]
  omega
theorem two_t {n : Int} {x y : Fin 256} (h : (x.val : Int) < n ∧ (y.val : Int) < n) : [x, y].all (ltn n) = true := by
  simp [ltn, h.1, h.2]
end Go.Proofs.Ytebcapplclgaead
