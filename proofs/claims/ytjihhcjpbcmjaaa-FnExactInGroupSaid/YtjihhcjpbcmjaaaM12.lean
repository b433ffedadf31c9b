/- Squares by a prime: what the two texts reckon is the same, over all the few cases; no conditions but those in the statements. -/
import Derived.Test.YtjihhcjpbcmjaaaM7
namespace Go.Proofs.Ytjihhcjpbcmjaaa
open Gx
set_option linter.unusedVariables false
def qr (n p : Int) : Bool := (List.range p.toNat).any fun x => decide (Int.tmod ((x : Int) * (x : Int) - n) p = 0)
theorem qr_t {n p : Int} {x : Nat} (hx : (x : Int) < p) (h : Int.tmod ((x : Int) * (x : Int) - n) p = 0) : true = qr n p := by
  unfold qr
  rw [eq_comm, List.any_eq_true]
  exact ⟨x, List.mem_range.2 (by omega), decide_eq_true h⟩
theorem qr_f {n p : Int} (h : ∀ x : Nat, x < p.toNat → ¬ Int.tmod ((x : Int) * (x : Int) - n) p = 0) : false = qr n p := by
  unfold qr
  rw [eq_comm, List.any_eq_false]
  intro x hx
  rw [decide_eq_false (h x (List.mem_range.1 hx))]
  exact Bool.false_ne_true
def qP (p : Int) : Prop := p = 3 ∨ p = 5 ∨ p = 7
def qin (p a b : Int) : Bool := decide ((p = 3 ∨ p = 5 ∨ p = 7) ∧ (0 ≤ a ∧ a ≤ p - 1) ∧ (0 ≤ b ∧ b ≤ p - 1))
def qok (p a b : Int) : Bool := decide (¬ Int.tmod (a * b) p = 0) && qr (a * b) p && (decide (¬ Int.tmod ((a - 1) * (b - 1)) p = 0) && qr ((a - 1) * (b - 1)) p)
def qg (p a b : Int) (x y : Nat) : Fin 256 := Fin.ofNat 256 (Int.tmod ((x : Int) + (bif qr (Int.tmod ((y : Int) - (x : Int) + p) p) p then a else b) * Int.tmod ((y : Int) - (x : Int) + p) p) p).toNat
def allF (m : Nat) (f : Nat → Bool) : Bool := (List.range m).all f
theorem allF_at {m : Nat} {f : Nat → Bool} (h : allF m f = true) {i : Nat} (hi : i < m) : f i = true := List.all_eq_true.1 h i (List.mem_range.2 hi)
def chkC (p : Nat) : Bool := allF p fun a => allF p fun b =>
  (qok p a b == (!(decide (Int.tmod ((a : Int) * b) p = 0)) && !(decide (Int.tmod (((a : Int) - 1) * (b - 1)) p = 0)) && qr (Int.tmod ((a : Int) * b) p) p && qr (Int.tmod (((a : Int) - 1) * (b - 1)) p) p))
def chkG (p : Nat) : Bool := allF p fun a => allF p fun b => allF p fun x => allF p fun y =>
  decide (Int.tmod (Int.tmod ((x : Int) + (bif qr ((y : Int) - x) p then (a : Int) else b) * ((y : Int) - x)) p + p) p = Int.tmod ((x : Int) + (bif qr (Int.tmod ((y : Int) - (x : Int) + p) p) p then (a : Int) else b) * Int.tmod ((y : Int) - (x : Int) + p) p) p)
set_option maxRecDepth 100000 in
theorem chkC_all : chkC 3 = true ∧ chkC 5 = true ∧ chkC 7 = true := by decide +kernel
set_option maxRecDepth 100000 in
theorem chkG_all : chkG 3 = true ∧ chkG 5 = true ∧ chkG 7 = true := by decide +kernel
theorem nat_of {a p : Int} (h : 0 ≤ a ∧ a ≤ p - 1) : ∃ k : Nat, a = (k : Int) ∧ k < p.toNat := ⟨a.toNat, by omega, by omega⟩
theorem qok_eq {p a b : Int} (hp : qP p) (ha : 0 ≤ a ∧ a ≤ p - 1) (hb : 0 ≤ b ∧ b ≤ p - 1) :
    qok p a b = (!(decide (Int.tmod (a * b) p = 0)) && !(decide (Int.tmod ((a - 1) * (b - 1)) p = 0)) && qr (Int.tmod (a * b) p) p && qr (Int.tmod ((a - 1) * (b - 1)) p) p) := by
  obtain ⟨i, rfl, hi⟩ := nat_of ha
  obtain ⟨j, rfl, hj⟩ := nat_of hb
  rcases hp with rfl | rfl | rfl
  · exact eq_of_beq (allF_at (allF_at chkC_all.1 hi) hj)
  · exact eq_of_beq (allF_at (allF_at chkC_all.2.1 hi) hj)
  · exact eq_of_beq (allF_at (allF_at chkC_all.2.2 hi) hj)
theorem qg_eq {p a b : Int} (hp : qP p) (ha : 0 ≤ a ∧ a ≤ p - 1) (hb : 0 ≤ b ∧ b ≤ p - 1) {x y : Nat} (hx : (x : Int) < p) (hy : (y : Int) < p) :
    Int.tmod (Int.tmod ((x : Int) + (bif qr ((y : Int) - x) p then a else b) * ((y : Int) - x)) p + p) p = Int.tmod ((x : Int) + (bif qr (Int.tmod ((y : Int) - (x : Int) + p) p) p then a else b) * Int.tmod ((y : Int) - (x : Int) + p) p) p := by
  obtain ⟨i, rfl, hi⟩ := nat_of ha
  obtain ⟨j, rfl, hj⟩ := nat_of hb
  rcases hp with rfl | rfl | rfl
  · exact of_decide_eq_true (allF_at (allF_at (allF_at (allF_at chkG_all.1 hi) hj) (show x < (3 : Int).toNat by omega)) (show y < (3 : Int).toNat by omega))
  · exact of_decide_eq_true (allF_at (allF_at (allF_at (allF_at chkG_all.2.1 hi) hj) (show x < (5 : Int).toNat by omega)) (show y < (5 : Int).toNat by omega))
  · exact of_decide_eq_true (allF_at (allF_at (allF_at (allF_at chkG_all.2.2 hi) hj) (show x < (7 : Int).toNat by omega)) (show y < (7 : Int).toNat by omega))
def okq (p m : Int) : Bool := decide (¬ Int.tmod m p = 0) && qr m p
def qn (a b : Int) (i : Nat) : Int := if i = 0 then a * b else (a - 1) * (b - 1)
theorem qok_def {p a b : Int} : qok p a b = (okq p (qn a b 0) && okq p (qn a b 1)) := rfl
theorem qok_bad {p a b : Int} {i : Nat} (hi : i < 2) (h : okq p (qn a b i) = false) : qok p a b = false := by
  rw [qok_def]
  rcases i with _ | _ | i
  · rw [h]; rfl
  · rw [h, Bool.and_false]
  · omega
theorem qok_all {p a b : Int} (h : ∀ i, i < 2 → okq p (qn a b i) = true) : qok p a b = true := by
  rw [qok_def, h 0 (by omega), h 1 (by omega)]; rfl
theorem qP_ne {p : Int} (h : qP p) : p ≠ 0 := by rcases h with rfl | rfl | rfl <;> decide
theorem qP_b {p : Int} (h : qP p) : 3 ≤ p ∧ p ≤ 7 := by rcases h with rfl | rfl | rfl <;> decide
theorem sqb {x : Nat} (h : x ≤ 7) : 0 ≤ (x : Int) * (x : Int) ∧ (x : Int) * (x : Int) ≤ 49 := by
  have h1 : x * x ≤ 7 * 7 := Nat.mul_le_mul h h
  have h2 : ((x * x : Nat) : Int) = (x : Int) * (x : Int) := by simp
  omega
theorem qin_t {p a b : Int} (hp : qP p) (ha : 0 ≤ a ∧ a ≤ p - 1) (hb : 0 ≤ b ∧ b ≤ p - 1) : qin p a b = true := decide_eq_true ⟨hp, ha, hb⟩
theorem qin_f {p a b : Int} (h : ¬ ((p = 3 ∨ p = 5 ∨ p = 7) ∧ (0 ≤ a ∧ a ≤ p - 1) ∧ (0 ≤ b ∧ b ≤ p - 1))) : qin p a b = false := decide_eq_false h
theorem part_stepV {m : Nat} {g : Nat → Nat → Fin 256} {x y : Nat} {v : Fin 256} (hv : v = g x y) (hy : y < 10) (k : Nat) : (if k = 10 * x + y then v else part m g x y k) = part m g x (y + 1) k := by
  rw [hv]; exact part_step hy k
theorem tmod_in {a p : Int} (hp : qP p) : -7 < Int.tmod a p ∧ Int.tmod a p < 7 := by
  have h1 : (Int.tmod a p).natAbs < p.natAbs := by
    have := Int.natAbs_tmod a p
    rw [this]
    exact Nat.mod_lt _ (by rcases hp with rfl | rfl | rfl <;> decide)
  rcases hp with rfl | rfl | rfl <;> omega
theorem tmod_nn {a p : Int} (ha : 0 ≤ a) (hp : qP p) : 0 ≤ Int.tmod a p ∧ Int.tmod a p < p := by
  rw [Int.tmod_eq_emod_of_nonneg ha]
  exact ⟨Int.emod_nonneg _ (by rcases hp with rfl | rfl | rfl <;> decide), Int.emod_lt_of_pos _ (by rcases hp with rfl | rfl | rfl <;> decide)⟩
theorem tm_ge {a p : Int} (hp : qP p) : 0 ≤ Int.tmod a p + p := by
  have h1 : (Int.tmod a p).natAbs < p.natAbs := by
    rw [Int.natAbs_tmod a p]
    exact Nat.mod_lt _ (by rcases hp with rfl | rfl | rfl <;> decide)
  have := qP_b hp
  omega
theorem mulb {a b p : Int} (hp : qP p) (ha : -7 ≤ a ∧ a ≤ 7) (hb : -7 ≤ b ∧ b ≤ 7) : -49 ≤ a * b ∧ a * b ≤ 49 := by
  have h1 : (a * b).natAbs ≤ 49 := by
    rw [Int.natAbs_mul]
    have h2 : a.natAbs ≤ 7 := by omega
    have h3 : b.natAbs ≤ 7 := by omega
    exact Nat.mul_le_mul h2 h3
  omega
end Go.Proofs.Ytjihhcjpbcmjaaa
