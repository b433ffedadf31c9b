/- Sets as bits, and as lists; what commutes. No conditions but those in the statements. -/
import Derived.Test.YtjihhcjpbcmjaaaM7
namespace Go.Proofs.Ytjihhcjpbcmjaaa
open Gx
set_option linter.unusedVariables false
def bsP (P : Nat → Bool) : Nat → Nat
  | 0 => 0
  | k + 1 => if P k = true then bsP P k ||| 2 ^ k else bsP P k
theorem bsP_bit {P : Nat → Bool} {j : Nat} : ∀ k, (bsP P k).testBit j = (decide (j < k) && P j)
  | 0 => by simp [bsP]
  | k + 1 => by
    unfold bsP
    split
    · rename_i h
      rw [Nat.testBit_or, bsP_bit k, Nat.testBit_two_pow]
      by_cases hj : j = k
      · subst hj; simp [h]
      · have : (decide (j < k + 1)) = decide (j < k) := by rw [Bool.eq_iff_iff]; simp; omega
        rw [this, decide_eq_false (p := k = j) (fun e => hj e.symm), Bool.or_false]
    · rename_i h
      rw [bsP_bit k]
      by_cases hj : j = k
      · subst hj; simp [Bool.eq_false_iff.2 h]
      · have : (decide (j < k + 1)) = decide (j < k) := by rw [Bool.eq_iff_iff]; simp; omega
        rw [this]
theorem bsP_lt {P : Nat → Bool} : ∀ k, bsP P k < 2 ^ k
  | 0 => by simp [bsP]
  | k + 1 => by
    have h1 : (2 : Nat) ^ k < 2 ^ (k + 1) := by rw [Nat.pow_succ]; have := Nat.two_pow_pos k; omega
    unfold bsP
    split
    · exact Nat.or_lt_two_pow (Nat.lt_trans (bsP_lt k) h1) h1
    · exact Nat.lt_trans (bsP_lt k) h1
theorem bsP_10 {P : Nat → Bool} {k : Nat} (h : k ≤ 10) : bsP P k < 1024 := by
  have := bsP_lt (P := P) k
  have h2 : (2 : Nat) ^ k ≤ 2 ^ 10 := Nat.pow_le_pow_right (by omega) h
  omega
theorem bsP_or {P : Nat → Bool} {k : Nat} (h : P k = true) : bsP P k ||| 2 ^ k = bsP P (k + 1) := by simp [bsP, h]
theorem bsP_no {P : Nat → Bool} {k : Nat} (h : P k = false) : bsP P k = bsP P (k + 1) := by simp [bsP, h]
/-- The elements below k of a set, as a list. -/
def setL (s : Nat) : Nat → List Int
  | 0 => []
  | k + 1 => setL s k ++ (if s.testBit k = true then [(k : Int)] else [])
def filt (P : Nat → Bool) : Nat → List Int
  | 0 => []
  | k + 1 => filt P k ++ (if P k = true then [(k : Int)] else [])
theorem setL_t {s k : Nat} (h : s.testBit k = true) : setL s k ++ [(k : Int)] = setL s (k + 1) := by simp [setL, h]
theorem setL_f {s k : Nat} (h : s.testBit k = false) : setL s k = setL s (k + 1) := by simp [setL, h]
theorem filt_t {P : Nat → Bool} {k : Nat} (h : P k = true) : filt P k ++ [(k : Int)] = filt P (k + 1) := by simp [filt, h]
theorem filt_f {P : Nat → Bool} {k : Nat} (h : P k = false) : filt P k = filt P (k + 1) := by simp [filt, h]
theorem setL_len {s : Nat} : ∀ k, (setL s k).length ≤ k
  | 0 => by simp [setL]
  | k + 1 => by have := setL_len (s := s) k; simp only [setL, List.length_append]; split <;> simp <;> omega
theorem filt_len {P : Nat → Bool} : ∀ k, (filt P k).length ≤ k
  | 0 => by simp [filt]
  | k + 1 => by have := filt_len (P := P) k; simp only [filt, List.length_append]; split <;> simp <;> omega
theorem setL_filt {P : Nat → Bool} {m : Nat} : ∀ k, setL (bsP P m) k = filt P (min k m)
  | 0 => by simp [setL, filt]
  | k + 1 => by
    rw [setL, setL_filt k, bsP_bit m]
    by_cases h : k < m
    · rw [Nat.min_eq_left (by omega), Nat.min_eq_left (by omega), decide_eq_true h, Bool.true_and]; rfl
    · rw [Nat.min_eq_right (by omega), Nat.min_eq_right (by omega), decide_eq_false h]; simp
theorem shr_b {s x : Nat} (h : s < 1024) : s / 2 ^ x ≤ 1023 := Nat.le_trans (Nat.div_le_self _ _) (by omega)
theorem veq_shr {s x : Nat} : (D.int .i64 ((s : Int) / 2 ^ ((x : Int)).toNat)).val = (D.int .i64 ((s / 2 ^ x : Nat) : Int)).val := by
  refine veq_int ?_
  rw [Int.toNat_natCast]
  simp
theorem and_b {a : Nat} : (a &&& 1) ≤ 1 := by rw [Nat.and_one_is_mod]; omega
theorem p_and1 {E : Gx.Env} {s : Gx.St} {dst : Option Nat} {ty : TypeId} {ps : String} {af : Array Edge} {gd : Option (Nat × Bool)} {x y : Operand} {T T' : TypeId} {a : Nat} (hx : evI s x = some (.i64, (a : Int))) (hy : evI s y = some (.i64, 1)) (ha : a ≤ 1023) :
    Pt E ⟨dst, .binOp .and T x y T', ty, ps, af, gd⟩ s (.int .i64 ((a &&& 1 : Nat) : Int)) := by
  have h1 := and_b (a := a)
  have h := p_and (E := E) (s := s) (dst := dst) (ty := ty) (ps := ps) (af := af) (gd := gd) (T := T) (T' := T') hx hy (by omega) (by omega) ⟨by omega, by omega⟩ ⟨by omega, by omega⟩
    ⟨by simp only [Int.toNat_natCast]; exact Int.le_trans (by omega) (Int.natCast_nonneg _), by simp only [Int.toNat_natCast, show (1 : Int).toNat = 1 from rfl]; omega⟩
  simpa only [Int.toNat_natCast, show (1 : Int).toNat = 1 from rfl] using h
theorem has_eq {s x : Nat} : decide (((s / 2 ^ x &&& 1 : Nat) : Int) = 1) = s.testBit x := by
  rw [Nat.testBit_eq_decide_div_mod_eq, Nat.and_one_is_mod, Bool.eq_iff_iff]
  simp only [decide_eq_true_eq]
  omega
theorem p_or_bs {E : Gx.Env} {s : Gx.St} {dst : Option Nat} {ty : TypeId} {ps : String} {af : Array Edge} {gd : Option (Nat × Bool)} {x y : Operand} {T T' : TypeId} {a k : Nat} (hx : evI s x = some (.i64, (a : Int))) (hy : evI s y = some (.i64, 1 * 2 ^ ((k : Int)).toNat)) (ha : a < 1024) (hk : k ≤ 10) :
    Pt E ⟨dst, .binOp .or T x y T', ty, ps, af, gd⟩ s (.int .i64 ((a ||| 2 ^ k : Nat) : Int)) := by
  have hpow : (2 : Nat) ^ k ≤ 1024 := by have : (2 : Nat) ^ k ≤ 2 ^ 10 := Nat.pow_le_pow_right (by omega) hk; omega
  have e1 : (1 : Int) * 2 ^ ((k : Int)).toNat = ((2 ^ k : Nat) : Int) := by rw [Int.toNat_natCast, Int.one_mul]; simp
  rw [e1] at hy
  generalize hp : 2 ^ k = q at *
  have hor : a ||| q < 2 ^ 11 := Nat.or_lt_two_pow (by omega) (by omega)
  have h := p_or (E := E) (s := s) (dst := dst) (ty := ty) (ps := ps) (af := af) (gd := gd) (T := T) (T' := T') hx hy (by omega) (by omega) ⟨by omega, by omega⟩ ⟨by omega, by omega⟩ ⟨by simp only [Int.toNat_natCast]; omega, by simp only [Int.toNat_natCast]; omega⟩
  simpa only [Int.toNat_natCast] using h
/-! ### What commutes -/
noncomputable def comB (t : Nat → Fin 256) (m a : Nat) : Bool := allB m fun x => t (10 * a + x) = t (10 * x + a)
theorem comB_eq {n : Int} {t : Nat → Fin 256} (h : SqP n t) {a : Nat} (ha : (a : Int) < n) : @decide (∀ i, i < 10 → rowOf t a i = colOf t a i) (Classical.propDecidable _) = comB t n.toNat a := by
  have hn := h.1
  unfold comB allB
  rw [Bool.eq_iff_iff, @decide_eq_true_iff _ (Classical.propDecidable _), @decide_eq_true_iff _ (Classical.propDecidable _)]
  constructor
  · intro hh x hx
    exact hh x (by omega)
  · intro hh i hi
    by_cases hin : (i : Int) < n
    · exact hh i (by omega)
    · show t (10 * a + i) = t (10 * i + a)
      rw [sq_zc h (by omega) (by omega) hi, sq_zr h (by omega) hi (by omega)]
theorem comB_t {t : Nat → Fin 256} {m a : Nat} (h : ∀ x, x < m → t (10 * a + x) = t (10 * x + a)) : comB t m a = true := (allB_t h).symm
theorem comB_f {t : Nat → Fin 256} {m a x : Nat} (hx : x < m) (h : ¬ t (10 * a + x) = t (10 * x + a)) : comB t m a = false := (allB_f hx h).symm
theorem allB_st {P : Nat → Prop} {x : Nat} {b : Bool} (h : allB x P = true) (hb : b = true ↔ P x) : b = allB (x + 1) P := by
  have h1 := of_allB h
  cases b with
  | true => exact (allB_t fun j hj => if e : j = x then e ▸ hb.1 rfl else h1 j (by omega))
  | false => exact allB_f (j := x) (by omega) fun hp => by cases hb.2 hp
theorem allB_sf {P : Nat → Prop} {x : Nat} (h : allB x P = false) : false = allB (x + 1) P := by
  cases hc : allB (x + 1) P with
  | false => rfl
  | true =>
    have h1 := of_allB hc
    rw [← allB_t (m := x) fun j hj => h1 j (by omega)] at h
    cases h
theorem allB_0 {P : Nat → Prop} : true = allB 0 P := allB_t fun j hj => by omega
noncomputable def cmL (n : Int) (t : Nat → Fin 256) : List Int := bif isLp n t then filt (comB t n.toNat) n.toNat else []
theorem cmL_len {n : Int} {t : Nat → Fin 256} : (cmL n t).length ≤ 10000000 := by
  unfold cmL
  cases h : isLp n t with
  | false => simp
  | true =>
    have h1 := (lp_sq h).1
    have := filt_len (P := comB t n.toNat) n.toNat
    simp only [cond_true]
    omega
theorem cmL_t {n : Int} {t : Nat → Fin 256} (h : isLp n t = true) : cmL n t = filt (comB t n.toNat) n.toNat := by simp [cmL, h]
theorem cmL_f {n : Int} {t : Nat → Fin 256} (h : isLp n t = false) : cmL n t = [] := by simp [cmL, h]
theorem cmL_set {n : Int} {t : Nat → Fin 256} (h : isLp n t = true) : setL (bsP (comB t n.toNat) n.toNat) 10 = cmL n t := by
  rw [cmL_t h, setL_filt, Nat.min_eq_right (by have := (lp_sq h).1; omega)]
end Go.Proofs.Ytjihhcjpbcmjaaa
