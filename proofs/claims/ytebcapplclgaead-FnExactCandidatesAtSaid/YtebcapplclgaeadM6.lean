/- Plain facts on rows, columns and quotients of Latin squares; no program in sight, conditions in the statements. -/
import Derived.Test.YtebcapplclgaeadM5
namespace Go.Proofs.Ytebcapplclgaead
open Go Gx
set_option linter.unusedVariables false
theorem ltn_1 {n : Int} {x : Fin 256} (h : [x].all (ltn n) = true) : (x.val : Int) < n := by simpa [ltn] using h
theorem code_x0 {n : Int} {t : Nat → Fin 256} {x : Fin 256} {h : 0 < 256} : code2 (isSq n t) ([x, ⟨0, h⟩].all (ltn n)) = code2 (isSq n t) ([x].all (ltn n)) := by
  cases hs : isSq n t with
  | false => rfl
  | true =>
    have := (of_isSq hs).1
    have e : ltn n ⟨0, h⟩ = true := by simp [ltn]; omega
    simp only [List.all_cons, List.all_nil, e, Bool.and_true, Bool.true_and]
theorem code_0x {n : Int} {t : Nat → Fin 256} {x : Fin 256} {h : 0 < 256} : code2 (isSq n t) ([⟨0, h⟩, x].all (ltn n)) = code2 (isSq n t) ([x].all (ltn n)) := by
  cases hs : isSq n t with
  | false => rfl
  | true =>
    have := (of_isSq hs).1
    have e : ltn n ⟨0, h⟩ = true := by simp [ltn]; omega
    simp only [List.all_cons, List.all_nil, e, Bool.and_true, Bool.true_and]
theorem sq_row {n : Int} {t : Nat → Fin 256} (h : SqP n t) {x : Nat} (hx : (x : Int) < n) : IsPerm (rowOf t x) n := (h.2.1 x (by have := h.1; omega)).1 hx
theorem sq_col {n : Int} {t : Nat → Fin 256} (h : SqP n t) {x : Nat} (hx : (x : Int) < n) : IsPerm (rowOf (turned t) x) n := (h.2.2 x (by have := h.1; omega)).1 hx
theorem sq_lt {n : Int} {t : Nat → Fin 256} (h : SqP n t) {x y : Nat} (hx : (x : Int) < n) (hy : (y : Int) < n) : ((t (10 * x + y)).val : Int) < n := (sq_row h hx).2.2.1.2 y (by have := h.1; omega) hy
theorem sq_zr {n : Int} {t : Nat → Fin 256} (h : SqP n t) {x y : Nat} (hx : n ≤ (x : Int)) (hx2 : x < 10) (hy : y < 10) : t (10 * x + y) = 0 := (h.2.1 x hx2).2 hx y hy
theorem sq_zc {n : Int} {t : Nat → Fin 256} (h : SqP n t) {x y : Nat} (hx : x < 10) (hy : n ≤ (y : Int)) (hy2 : y < 10) : t (10 * x + y) = 0 := by
  by_cases hxn : (x : Int) < n
  · exact (sq_row h hxn).2.2.1.1 y hy2 hy
  · exact sq_zr h (by omega) hx hy2
theorem col_all {n : Int} {t : Nat → Fin 256} (h : SqP n t) {y : Nat} (hy : y < 10) {j : Nat} (hj : j < 10) : (if j < n.toNat then t (10 * j + y) else 0) = colOf t y j := by
  split
  · rfl
  · exact (sq_zr h (by omega) hj hy).symm
theorem opp_eq {n : Int} {t : Nat → Fin 256} (h : SqP n t) {k : Nat} (hk : k < 100) : part n.toNat (fun x y => t (10 * y + x)) n.toNat 0 k = turned t k := by
  unfold part turned
  split
  · rfl
  · rename_i hn
    symm
    by_cases h1 : k % 10 < n.toNat
    · exact sq_zc h (by omega) (by omega) (by omega)
    · exact sq_zr h (by omega) (by omega) (by omega)
theorem perm_surj {p : Nat → Fin 256} {n : Int} (h : IsPerm p n) {z : Fin 256} (hz : (z.val : Int) < n) : ∃ y, y < 10 ∧ p y = z := by
  have h10 := h.2.1
  obtain ⟨y, hy, e⟩ := surj_of_inj (f := fun j => (p j).val) (m := n.toNat) (fun i hi => by have := h.2.2.1.2 i (by omega) (by omega); omega)
    (fun i j hi hj e => h.2.2.2 i j (by omega) (by omega) (by omega) (by omega) e) z.val (by omega)
  exact ⟨y, by omega, Fin.ext e⟩
theorem row_surj {n : Int} {t : Nat → Fin 256} (h : SqP n t) {x z : Fin 256} (hx : (x.val : Int) < n) (hz : (z.val : Int) < n) : ∃ y, y < 10 ∧ t (10 * x.val + y) = z := perm_surj (sq_row h hx) hz
theorem col_surj {n : Int} {t : Nat → Fin 256} (h : SqP n t) {y z : Fin 256} (hy : (y.val : Int) < n) (hz : (z.val : Int) < n) : ∃ x, x < 10 ∧ t (10 * x + y.val) = z := by
  obtain ⟨x, hx, e⟩ := perm_surj (sq_col h hy) hz
  rw [rowOf_turned hx] at e
  exact ⟨x, hx, e⟩
/-- The least place with the value z. -/
def lq (f : Nat → Fin 256) (z : Fin 256) : Nat := ((List.range 10).find? fun y => decide (f y = z)).getD 0
theorem lq_eq {f : Nat → Fin 256} {z : Fin 256} {y : Nat} (hy : y < 10) (h : f y = z) (hm : ∀ j, j < y → ¬ f j = z) : lq f z = y := by
  have e : ((List.range 10).find? fun y => decide (f y = z)) = some y := by
    rw [List.find?_range_eq_some]
    exact ⟨by simpa using h, by simpa using hy, fun j hj => by simpa using hm j hj⟩
  unfold lq
  rw [e]
  rfl
def asc (t : Nat → Fin 256) (x y z : Nat) : Prop := t (10 * (t (10 * x + y)).val + z) = t (10 * x + (t (10 * y + z)).val)
end Go.Proofs.Ytebcapplclgaead
