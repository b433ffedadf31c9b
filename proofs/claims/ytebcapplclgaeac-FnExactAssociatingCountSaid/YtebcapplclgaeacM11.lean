/- Plain facts on counting associating triples; no program in sight, conditions in the statements. -/
import Derived.Test.YtebcapplclgaeacM10
namespace Go.Proofs.Ytebcapplclgaeac
open Go Gx
set_option linter.unusedVariables false
def tri (x y z : Nat) : Nat → Fin 256 := fun j => Fin.ofNat 256 (if j = 0 then x else if j = 1 then y else z)
noncomputable def ascB (t : Nat → Fin 256) (x y z : Nat) : Int := @ite _ (asc t x y z) (Classical.propDecidable _) 1 0
/-- Associating triples: in line (x, y) up to z; in plane x up to y; up to x. -/
noncomputable def a1 (t : Nat → Fin 256) (x y : Nat) : Nat → Int
  | 0 => 0
  | z + 1 => a1 t x y z + ascB t x y z
noncomputable def a2 (t : Nat → Fin 256) (m x : Nat) : Nat → Int
  | 0 => 0
  | y + 1 => a2 t m x y + a1 t x y m
noncomputable def a3 (t : Nat → Fin 256) (m : Nat) : Nat → Int
  | 0 => 0
  | x + 1 => a3 t m x + a2 t m x m
theorem ascB_t {t : Nat → Fin 256} {x y z : Nat} (h : asc t x y z) : ascB t x y z = 1 := @if_pos _ (Classical.propDecidable _) h _ _ _
theorem ascB_f {t : Nat → Fin 256} {x y z : Nat} (h : ¬ asc t x y z) : ascB t x y z = 0 := @if_neg _ (Classical.propDecidable _) h _ _ _
theorem ascB_b {t : Nat → Fin 256} {x y z : Nat} : 0 ≤ ascB t x y z ∧ ascB t x y z ≤ 1 := by
  by_cases h : asc t x y z
  · rw [ascB_t h]; omega
  · rw [ascB_f h]; omega
theorem a1_b {t : Nat → Fin 256} {x y : Nat} : ∀ z : Nat, 0 ≤ a1 t x y z ∧ a1 t x y z ≤ (z : Int)
  | 0 => ⟨Int.le_refl _, Int.le_refl _⟩
  | z + 1 => by
    have h1 := a1_b (t := t) (x := x) (y := y) z
    have h2 := ascB_b (t := t) (x := x) (y := y) (z := z)
    unfold a1
    omega
theorem a2_b {t : Nat → Fin 256} {m x : Nat} (hm : m ≤ 10) : ∀ y : Nat, 0 ≤ a2 t m x y ∧ a2 t m x y ≤ 10 * (y : Int)
  | 0 => ⟨Int.le_refl _, Int.le_refl _⟩
  | y + 1 => by
    have h1 := a2_b (t := t) (x := x) hm y
    have h2 := a1_b (t := t) (x := x) (y := y) m
    unfold a2
    omega
theorem a3_b {t : Nat → Fin 256} {m : Nat} (hm : m ≤ 10) : ∀ x : Nat, 0 ≤ a3 t m x ∧ a3 t m x ≤ 100 * (x : Int)
  | 0 => ⟨Int.le_refl _, Int.le_refl _⟩
  | x + 1 => by
    have h1 := a3_b (t := t) hm x
    have h2 := a2_b (t := t) (x := x) hm m
    unfold a3
    omega
theorem acnt_b {t : Nat → Fin 256} {m x y z : Nat} (hm : m ≤ 10) (hx : x ≤ 10) (hy : y ≤ 10) (hz : z ≤ 10) : 0 ≤ a3 t m x + a2 t m x y + a1 t x y z ∧ a3 t m x + a2 t m x y + a1 t x y z ≤ 2000 := by
  have h1 := a3_b (t := t) hm x
  have h2 := a2_b (t := t) (x := x) hm y
  have h3 := a1_b (t := t) (x := x) (y := y) z
  omega
theorem a1_t {t : Nat → Fin 256} {x y z : Nat} {c : Int} (h : asc t x y z) : c + a1 t x y z + 1 = c + a1 t x y (z + 1) := by
  show _ = c + (a1 t x y z + ascB t x y z)
  rw [ascB_t h]; omega
theorem a1_f {t : Nat → Fin 256} {x y z : Nat} {c : Int} (h : ¬ asc t x y z) : c + a1 t x y z = c + a1 t x y (z + 1) := by
  show _ = c + (a1 t x y z + ascB t x y z)
  rw [ascB_f h]; omega
theorem a2_s {t : Nat → Fin 256} {m x y : Nat} {c : Int} : c + a2 t m x y + a1 t x y m = c + a2 t m x (y + 1) := by
  show _ = c + (a2 t m x y + a1 t x y m)
  omega
/-- In a loop the associator is the unit just when the triple associates. -/
theorem asc_iff {n : Int} {t : Nat → Fin 256} (hl : isLp n t = true) {x y z : Nat} (hx : (x : Int) < n) (hy : (y : Int) < n) (hz : (z : Int) < n) :
    (Fin.ofNat 256 (lq (fun v => t (10 * (t (10 * x + (t (10 * y + z)).val)).val + v)) (t (10 * (t (10 * x + y)).val + z))) = 0) ↔ asc t x y z := by
  have hs := lp_sq hl
  have k1 := sq_lt hs hy hz
  have k2 := sq_lt hs hx hy
  have k3 := sq_lt hs hx k1
  have k4 := sq_lt hs k2 hz
  obtain ⟨y0, hy0, he⟩ := perm_surj (sq_row hs k3) k4
  have hu := (lp_unit hl (t (10 * x + (t (10 * y + z)).val)).val (by omega)).2
  have h0 : t (10 * (t (10 * x + (t (10 * y + z)).val)).val + 0) = t (10 * x + (t (10 * y + z)).val) := Fin.ext hu
  -- the least place
  have hex : ∃ v, v < 10 ∧ t (10 * (t (10 * x + (t (10 * y + z)).val)).val + v) = t (10 * (t (10 * x + y)).val + z) ∧ ∀ j, j < v → ¬ t (10 * (t (10 * x + (t (10 * y + z)).val)).val + j) = t (10 * (t (10 * x + y)).val + z) := by
    have key : ∀ k v, v ≤ k → v < 10 → t (10 * (t (10 * x + (t (10 * y + z)).val)).val + v) = t (10 * (t (10 * x + y)).val + z) →
        ∃ v, v < 10 ∧ t (10 * (t (10 * x + (t (10 * y + z)).val)).val + v) = t (10 * (t (10 * x + y)).val + z) ∧ ∀ j, j < v → ¬ t (10 * (t (10 * x + (t (10 * y + z)).val)).val + j) = t (10 * (t (10 * x + y)).val + z) := by
      intro k
      induction k with
      | zero => intro v hv h1 h2; exact ⟨v, h1, h2, fun j hj => by omega⟩
      | succ k ih =>
        intro v hv h1 h2
        by_cases hj : ∃ j, j < v ∧ t (10 * (t (10 * x + (t (10 * y + z)).val)).val + j) = t (10 * (t (10 * x + y)).val + z)
        · obtain ⟨j, hj1, hj2⟩ := hj
          exact ih j (by omega) (by omega) hj2
        · exact ⟨v, h1, h2, fun j hj1 hj2 => hj ⟨j, hj1, hj2⟩⟩
    exact key y0 y0 (Nat.le_refl _) hy0 he
  obtain ⟨v, hv, e1, e2⟩ := hex
  rw [lq_eq hv e1 e2]
  constructor
  · intro h
    have hv0 : v = 0 := by
      have := congrArg Fin.val h
      rw [ofNat_val (by omega)] at this
      exact this
    subst hv0
    unfold asc
    rw [← e1, h0]
  · intro h
    have : v = 0 := by
      rcases Nat.eq_zero_or_pos v with h1 | h1
      · exact h1
      · exact absurd (by rw [h0]; exact h.symm) (e2 0 h1)
    rw [this]
    rfl
theorem asc_iff2 {n : Int} {t : Nat → Fin 256} (hl : isLp n t = true) {x y z : Nat} (hx : (x : Int) < n) (hy : (y : Int) < n) (hz : (z : Int) < n) :
    (Fin.ofNat 256 (lq (fun v => t (10 * (t (10 * (Fin.ofNat 256 x).val + (t (10 * (Fin.ofNat 256 y).val + (Fin.ofNat 256 z).val)).val)).val + v)) (t (10 * (t (10 * (Fin.ofNat 256 x).val + (Fin.ofNat 256 y).val)).val + (Fin.ofNat 256 z).val))) = 0) ↔ asc t x y z := by
  have hn := (lp_sq hl).1
  rw [ofNat_val (show x < 256 by omega), ofNat_val (show y < 256 by omega), ofNat_val (show z < 256 by omega)]
  exact asc_iff hl hx hy hz
theorem tri0 {x y z : Nat} (h : x < 256) : (tri x y z 0).val = x := by simp only [tri]; exact ofNat_val h
theorem tri1 {x y z : Nat} (h : y < 256) : (tri x y z 1).val = y := by simp only [tri]; exact ofNat_val h
theorem tri2 {x y z : Nat} (h : z < 256) : (tri x y z 2).val = z := by simp only [tri]; exact ofNat_val h
end Go.Proofs.Ytebcapplclgaeac
