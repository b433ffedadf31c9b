/- Plain facts on Latin squares kept in tables of bytes: the ways to test one agree. No program in sight; conditions stand in the statements. -/
import Derived.Test.YtebcapplclgaeadM3
namespace Go.Proofs.Ytebcapplclgaead
open Go Gx
set_option linter.unusedVariables false
def rowOf (t : Nat → Fin 256) (x : Nat) : Nat → Fin 256 := fun j => t (10 * x + j)
def colOf (t : Nat → Fin 256) (x : Nat) : Nat → Fin 256 := fun j => t (10 * j + x)
def turned (t : Nat → Fin 256) : Nat → Fin 256 := fun k => t (10 * (k % 10) + k / 10)
def RowP (t : Nat → Fin 256) (n : Int) (x : Nat) : Prop := ((x : Int) < n → IsPerm (rowOf t x) n) ∧ (n ≤ (x : Int) → ∀ j, j < 10 → rowOf t x j = 0)
def RowsP (t : Nat → Fin 256) (n : Int) : Prop := ∀ x, x < 10 → RowP t n x
noncomputable def rowsOk (t : Nat → Fin 256) (n : Int) : Bool := @decide (RowsP t n) (Classical.propDecidable _)
theorem rowsOk_t {t : Nat → Fin 256} {n : Int} (h : RowsP t n) : true = rowsOk t n := (@decide_eq_true _ (Classical.propDecidable _) h).symm
theorem rowsOk_f {t : Nat → Fin 256} {n : Int} (h : ¬ RowsP t n) : false = rowsOk t n := (@decide_eq_false _ (Classical.propDecidable _) h).symm
theorem of_rowsOk {t : Nat → Fin 256} {n : Int} (h : rowsOk t n = true) : RowsP t n := @of_decide_eq_true _ (Classical.propDecidable _) h
theorem not_rowsOk {t : Nat → Fin 256} {n : Int} (h : rowsOk t n = false) : ¬ RowsP t n := @of_decide_eq_false _ (Classical.propDecidable _) h
/-- A Latin square of order n, nothing beside it. -/
def SqP (n : Int) (t : Nat → Fin 256) : Prop := (1 ≤ n ∧ n ≤ 10) ∧ RowsP t n ∧ RowsP (turned t) n
noncomputable def isSq (n : Int) (t : Nat → Fin 256) : Bool := @decide (SqP n t) (Classical.propDecidable _)
theorem isSq_t {t : Nat → Fin 256} {n : Int} (h : SqP n t) : true = isSq n t := (@decide_eq_true _ (Classical.propDecidable _) h).symm
theorem isSq_f {t : Nat → Fin 256} {n : Int} (h : ¬ SqP n t) : false = isSq n t := (@decide_eq_false _ (Classical.propDecidable _) h).symm
theorem of_isSq {t : Nat → Fin 256} {n : Int} (h : isSq n t = true) : SqP n t := @of_decide_eq_true _ (Classical.propDecidable _) h
theorem isSq_eq {t : Nat → Fin 256} {n : Int} : isSq n t = (decide (1 ≤ n ∧ n ≤ 10) && (rowsOk t n && rowsOk (turned t) n)) := by
  rw [Bool.eq_iff_iff]
  simp only [Bool.and_eq_true, decide_eq_true_eq]
  exact ⟨fun h => ⟨(of_isSq h).1, (rowsOk_t (of_isSq h).2.1).symm, (rowsOk_t (of_isSq h).2.2).symm⟩, fun ⟨h1, h2, h3⟩ => (isSq_t ⟨h1, of_rowsOk h2, of_rowsOk h3⟩).symm⟩
theorem not_rows_perm {t : Nat → Fin 256} {n : Int} {x : Nat} (hx : x < 10) (h : (x : Int) < n) (hp : isPerm (rowOf t x) n = false) : ¬ RowsP t n := fun hr => not_isPerm hp ((hr x hx).1 h)
theorem not_rows_zero {t : Nat → Fin 256} {n : Int} {x : Nat} (hx : x < 10) (h : n ≤ (x : Int)) (hp : ¬ ∀ j, j < 10 → rowOf t x j = 0) : ¬ RowsP t n := fun hr => hp ((hr x hx).2 h)
theorem rowOf_turned {t : Nat → Fin 256} {x j : Nat} (hj : j < 10) : rowOf (turned t) x j = colOf t x j := by
  unfold rowOf turned colOf
  congr 1
  omega
/-- A table turned, filled up to column x, place y. -/
def partT (t : Nat → Fin 256) (x y : Nat) : Nat → Fin 256 := fun k => if k % 10 < x ∨ (k % 10 = x ∧ k / 10 < y) then turned t k else 0
theorem partT_zero {t : Nat → Fin 256} (k : Nat) : partT t 0 0 k = 0 := by simp [partT]
theorem partT_step {t : Nat → Fin 256} {x y : Nat} (hx : x < 10) (k : Nat) : (if k = 10 * y + x then t (10 * x + y) else partT t x y k) = partT t x (y + 1) k := by
  unfold partT
  by_cases h : k = 10 * y + x
  · have h1 : k % 10 = x := by omega
    have h2 : k / 10 = y := by omega
    rw [if_pos h, if_pos (Or.inr ⟨h1, by omega⟩)]
    unfold turned
    rw [h1, h2]
  · rw [if_neg h]
    by_cases h3 : k % 10 < x ∨ (k % 10 = x ∧ k / 10 < y)
    · rw [if_pos h3, if_pos (h3.imp id fun h => ⟨h.1, by omega⟩)]
    · rw [if_neg h3, if_neg fun h4 => h3 (h4.imp id fun h5 => ⟨h5.1, by omega⟩)]
theorem partT_row {t : Nat → Fin 256} {x : Nat} (k : Nat) (hk : k < 100) : partT t x 10 k = partT t (x + 1) 0 k := by
  unfold partT
  by_cases h3 : k % 10 < x ∨ (k % 10 = x ∧ k / 10 < 10)
  · rw [if_pos h3, if_pos (Or.inl (by omega))]
  · rw [if_neg h3, if_neg (by omega)]
theorem partT_all {t : Nat → Fin 256} (k : Nat) : partT t 10 0 k = turned t k := by
  unfold partT
  rw [if_pos (Or.inl (by omega))]

/-! ### The other way: row by row and column by column at once -/
/-- Row x and column x up to place k are as a square's. -/
def XA (t : Nat → Fin 256) (n : Int) (x k : Nat) : Prop :=
  ((x : Int) < n → PermA (rowOf t x) n k ∧ ∀ y : Nat, y < k → (y : Int) < n → ((colOf t x y).val : Int) < n) ∧ (n ≤ (x : Int) → ∀ y, y < k → rowOf t x y = 0)
theorem XA.zero {t : Nat → Fin 256} {n : Int} {x : Nat} : XA t n x 0 := ⟨fun _ => ⟨PermA.zero, fun _ h => by omega⟩, fun _ _ h => by omega⟩
/-- What a row of a square is, both ways. -/
def XP (t : Nat → Fin 256) (n : Int) (x : Nat) : Prop := ((x : Int) < n → IsPerm (rowOf t x) n ∧ PermB (colOf t x) n 10 ∧ ∀ y : Nat, y < 10 → (y : Int) < n → ((colOf t x y).val : Int) < n) ∧ (n ≤ (x : Int) → ∀ y, y < 10 → rowOf t x y = 0)
theorem sq_of_XP {t : Nat → Fin 256} {n : Int} (h1 : 1 ≤ n ∧ n ≤ 10) (h : ∀ x, x < 10 → XP t n x) : SqP n t := by
  refine ⟨h1, fun x hx => ⟨fun hn => ((h x hx).1 hn).1, (h x hx).2⟩, fun x hx => ⟨fun hn => ?_, fun hn j hj => ?_⟩⟩
  · refine ⟨h1.1, h1.2, ⟨fun i hi hni => ?_, fun i hi hin => ?_⟩, ?_⟩
    · rw [rowOf_turned hi]
      exact (h i hi).2 hni x hx
    · rw [rowOf_turned hi]
      exact ((h x hx).1 hn).2.2 i hi hin
    · intro i j hi hj hin hjn e
      rw [rowOf_turned hi, rowOf_turned hj] at e
      exact ((h x hx).1 hn).2.1 i j hi hj hin hjn e
  · rw [rowOf_turned hj]
    by_cases hjn : (j : Int) < n
    · exact (((h j hj).1 hjn).1.2.2.1.1 x hx hn)
    · exact (h j hj).2 (by omega) x hx
theorem XP_of_sq {t : Nat → Fin 256} {n : Int} (h : SqP n t) {x : Nat} (hx : x < 10) : XP t n x := by
  refine ⟨fun hn => ⟨(h.2.1 x hx).1 hn, ?_, ?_⟩, (h.2.1 x hx).2⟩
  · intro i j hi hj hin hjn e
    refine ((h.2.2 x hx).1 hn).2.2.2 i j hi hj hin hjn ?_
    rw [rowOf_turned hi, rowOf_turned hj]; exact e
  · intro y hy hyn
    have := ((h.2.2 x hx).1 hn).2.2.1.2 y hy hyn
    rw [rowOf_turned hy] at this
    exact this
theorem not_sq_n {t : Nat → Fin 256} {n : Int} (h : ¬ (1 ≤ n ∧ n ≤ 10)) : ¬ SqP n t := fun hs => h hs.1
theorem not_sq_zero {t : Nat → Fin 256} {n : Int} {x y : Nat} (hx : x < 10) (hy : y < 10) (hn : n ≤ (x : Int) ∨ n ≤ (y : Int)) (h : t (10 * x + y) ≠ 0) : ¬ SqP n t := fun hs => by
  have hX := XP_of_sq hs hx
  by_cases hxn : (x : Int) < n
  · exact h ((hX.1 hxn).1.2.2.1.1 y hy (by omega))
  · exact h (hX.2 (by omega) y hy)
theorem not_sq_row {t : Nat → Fin 256} {n : Int} {x y : Nat} (hx : x < 10) (hy : y < 10) (hxn : (x : Int) < n) (hyn : (y : Int) < n) (h : n ≤ ((t (10 * x + y)).val : Int)) : ¬ SqP n t := fun hs => by
  have := (((XP_of_sq hs hx).1 hxn).1.2.2.1.2 y hy hyn)
  unfold rowOf at this
  omega
theorem not_sq_col {t : Nat → Fin 256} {n : Int} {x y : Nat} (hx : x < 10) (hy : y < 10) (hxn : (x : Int) < n) (hyn : (y : Int) < n) (h : n ≤ ((t (10 * y + x)).val : Int)) : ¬ SqP n t := fun hs => by
  have := (((XP_of_sq hs hx).1 hxn).2.2 y hy hyn)
  unfold colOf at this
  omega
/-- The bits of a row that are all laid. -/
theorem full_iff {p : Nat → Fin 256} {n : Int} (h1 : 1 ≤ n ∧ n ≤ 10) (hA : PermA p n 10) : ((bits p n 10 : Nat) : Int) = 1 * 2 ^ n.toNat - 1 ↔ PermB p n 10 := by
  have := perm_of_bits h1.1 h1.2 hA
  constructor
  · intro h
    rw [decide_eq_true h] at this
    exact (of_isPerm this.symm).2.2.2
  · intro h
    have e := isPerm_t ⟨h1.1, h1.2, hA, h⟩
    rw [← e] at this
    exact of_decide_eq_true this
/-- A column as a row of its own below n. -/
def cut (p : Nat → Fin 256) (n : Int) : Nat → Fin 256 := fun y => if (y : Int) < n then p y else 0
theorem bits_cut {p : Nat → Fin 256} {n : Int} : ∀ k, bits (cut p n) n k = bits p n k
  | 0 => rfl
  | k + 1 => by
    unfold bits
    rw [bits_cut k]
    split
    · rename_i h; simp [cut, h]
    · rfl
theorem permA_cut {p : Nat → Fin 256} {n : Int} {k : Nat} (h : ∀ y : Nat, y < k → (y : Int) < n → ((p y).val : Int) < n) : PermA (cut p n) n k :=
  ⟨fun i hi hn => by simp [cut, show ¬ (i : Int) < n by omega], fun i hi hn => by simp [cut, hn]; exact h i hi hn⟩
theorem permB_cut {p : Nat → Fin 256} {n : Int} {k : Nat} : PermB (cut p n) n k ↔ PermB p n k :=
  ⟨fun h i j hi hj hin hjn e => h i j hi hj hin hjn (by simp [cut, hin, hjn, e]), fun h i j hi hj hin hjn e => h i j hi hj hin hjn (by simpa [cut, hin, hjn] using e)⟩
theorem bits_ltC {p : Nat → Fin 256} {n : Int} {m k : Nat} (hm : n ≤ (m : Int)) (h : ∀ y : Nat, y < k → (y : Int) < n → ((p y).val : Int) < n) : bits p n k < 2 ^ m := by
  rw [← bits_cut]
  exact bits_lt hm (permA_cut h)
theorem p_or_col {E : Gx.Env} {s : Gx.St} {dst : Option Nat} {ty : TypeId} {ps : String} {af : Array Edge} {gd : Option (Nat × Bool)} {x y : Operand} {T T' : TypeId} {p : Nat → Fin 256} {n : Int} {k : Nat} (hx : evI s x = some (.i64, ((bits p n k : Nat) : Int))) (hy : evI s y = some (.i64, 1 * 2 ^ (((p k).val : Nat) : Int).toNat)) (hA : ∀ y : Nat, y < k → (y : Int) < n → ((p y).val : Int) < n) (hn : n ≤ 10) (hk : (k : Int) < n)
    (hp : ((p k).val : Int) < n) : Pt E ⟨dst, .binOp .or T x y T', ty, ps, af, gd⟩ s (.int .i64 ((bits p n (k + 1) : Nat) : Int)) := by
  have h1 := pow_in (b := (((p k).val : Nat) : Int)) (by omega) (by omega)
  have h2 := bits_ltC (m := 10) (by omega) hA
  have h3 := bits_ltC (p := p) (k := k + 1) (m := 10) (n := n) (by omega) (fun y hy hyn => if e : y = k then e ▸ hp else hA y (by omega) hyn)
  have e : ((bits p n (k + 1) : Nat) : Int) = (((((bits p n k : Nat) : Int).toNat ||| ((1 : Int) * 2 ^ (((p k).val : Nat) : Int).toNat).toNat : Nat)) : Int) := by
    have : ((1 : Int) * 2 ^ (((p k).val : Nat) : Int).toNat).toNat = 2 ^ (p k).val := by
      have e : ((2 ^ (p k).val : Nat) : Int) = (2 : Int) ^ (p k).val := by simp
      rw [Int.one_mul, Int.toNat_natCast, ← e, Int.toNat_natCast]
    rw [this, Int.toNat_natCast]
    show ((if (k : Int) < n then bits p n k ||| 2 ^ (p k).val else bits p n k : Nat) : Int) = _
    rw [if_pos hk]
  have hr : inR .i64 ((bits p n (k + 1) : Nat) : Int) := ⟨by omega, by omega⟩
  rw [e] at hr ⊢
  exact p_or hx hy (by omega) (by omega) ⟨by omega, by omega⟩ ⟨by omega, by omega⟩ hr
theorem full_col {p : Nat → Fin 256} {n : Int} (h1 : 1 ≤ n ∧ n ≤ 10) (hc : ∀ y : Nat, y < 10 → (y : Int) < n → ((p y).val : Int) < n) : ((bits p n 10 : Nat) : Int) = 1 * 2 ^ n.toNat - 1 ↔ PermB p n 10 := by
  rw [← bits_cut, full_iff h1 (permA_cut hc), permB_cut]
theorem XP_lo {t : Nat → Fin 256} {n : Int} {x : Nat} (h1 : 1 ≤ n ∧ n ≤ 10) (h : XA t n x 10) (hx : (x : Int) < n) (hr : ((bits (rowOf t x) n 10 : Nat) : Int) = 1 * 2 ^ n.toNat - 1) (hc : ((bits (colOf t x) n 10 : Nat) : Int) = 1 * 2 ^ n.toNat - 1) : XP t n x :=
  ⟨fun _ => ⟨⟨h1.1, h1.2, (h.1 hx).1, (full_iff h1 (h.1 hx).1).1 hr⟩, (full_col h1 (h.1 hx).2).1 hc, (h.1 hx).2⟩, fun hn => by omega⟩
theorem XP_hi {t : Nat → Fin 256} {n : Int} {x : Nat} (h : XA t n x 10) (hx : n ≤ (x : Int)) : XP t n x := ⟨fun h => by omega, h.2⟩
theorem not_sq_full {t : Nat → Fin 256} {n : Int} {x : Nat} (hx : x < 10) (hA : XA t n x 10) (hxn : (x : Int) < n) (h : ((bits (rowOf t x) n 10 : Nat) : Int) ≠ 1 * 2 ^ n.toNat - 1 ∨ ((bits (colOf t x) n 10 : Nat) : Int) ≠ 1 * 2 ^ n.toNat - 1) : ¬ SqP n t := fun hs => by
  have hX := (XP_of_sq hs hx).1 hxn
  rcases h with h | h
  · exact h ((full_iff hs.1 (hA.1 hxn).1).2 hX.1.2.2.2)
  · exact h ((full_col hs.1 (hA.1 hxn).2).2 hX.2.1)
theorem XA.step_hi {t : Nat → Fin 256} {n : Int} {x y : Nat} (h : XA t n x y) (hn : n ≤ (x : Int) ∨ n ≤ (y : Int)) (h0 : t (10 * x + y) = 0) : XA t n x (y + 1) := by
  refine ⟨fun hx => ⟨(h.1 hx).1.hi (by omega) h0, fun z hz hzn => ?_⟩, fun hx z hz => ?_⟩
  · exact (h.1 hx).2 z (by omega) hzn
  · by_cases e : z = y
    · rw [e]; exact h0
    · exact h.2 hx z (by omega)
theorem XA.step_lo {t : Nat → Fin 256} {n : Int} {x y : Nat} (h : XA t n x y) (hx : (x : Int) < n) (hy : (y : Int) < n) (h1 : ((t (10 * x + y)).val : Int) < n) (h2 : ((t (10 * y + x)).val : Int) < n) : XA t n x (y + 1) := by
  refine ⟨fun hx => ⟨(h.1 hx).1.lo hy h1, fun z hz hzn => ?_⟩, fun hx' => by omega⟩
  by_cases e : z = y
  · rw [e]; exact h2
  · exact (h.1 hx).2 z (by omega) hzn
theorem bits_hiN {p : Nat → Fin 256} {n : Int} {k : Nat} (hk : n ≤ (k : Int)) : bits p n k = bits p n (k + 1) := by
  show _ = (if (k : Int) < n then bits p n k ||| 2 ^ (p k).val else bits p n k : Nat)
  rw [if_neg (by omega)]
end Go.Proofs.Ytebcapplclgaead
