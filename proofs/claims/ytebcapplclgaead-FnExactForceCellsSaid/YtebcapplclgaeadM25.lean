/- How many elements a set of bits has. No conditions but those in the statements. -/
import Derived.Test.YtebcapplclgaeadM14
namespace Go.Proofs.Ytebcapplclgaead
open Gx
set_option linter.unusedVariables false
def oc1 (s : Nat) : Nat := (s / 2 &&& 6148914691236517205) + (s &&& 6148914691236517205)
def oc2 (s : Nat) : Nat := (oc1 s / 4 &&& 3689348814741910323) + (oc1 s &&& 3689348814741910323)
def oc3 (s : Nat) : Nat := (oc2 s / 16 + oc2 s) &&& 1085102592571150095
def oc4 (s : Nat) : Nat := oc3 s + oc3 s / 256
def oc5 (s : Nat) : Nat := oc4 s + oc4 s / 65536
def oc6 (s : Nat) : Nat := oc5 s + oc5 s / 4294967296
def oc7 (s : Nat) : Nat := oc6 s &&& 127
theorem oc_all : ∀ s, s < 1024 → oc1 s < 2048 ∧ oc2 s < 2048 ∧ oc3 s < 2048 ∧ oc4 s < 4096 ∧ oc5 s < 8192 ∧ oc6 s < 16384 ∧ oc7 s < 128 ∧ oc7 s = (setL s 10).length := by decide +kernel
section
variable {E : Gx.Env} {s : Gx.St} {dst : Option Nat} {ty : TypeId} {ps : String} {af : Array Edge} {gd : Option (Nat × Bool)} {x y : Operand} {T T' : TypeId} {a b c : Nat}
theorem p_shrN {ky : IntKind} (hx : evI s x = some (.u64, (a : Int))) (hy : evI s y = some (ky, (b : Int))) (hb : b ≤ 63) (hc : c = a / 2 ^ b) : Pt E ⟨dst, .binOp .shr T x y T', ty, ps, af, gd⟩ s (.int .u64 (c : Int)) := by
  subst hc
  exact (p_shr hx hy (by omega) (by simp only [IntKind.bits]; omega)).eq (veq_int (by rw [Int.toNat_natCast]; simp))
theorem p_andN (hx : evI s x = some (.u64, (a : Int))) (hy : evI s y = some (.u64, (b : Int))) (ha : a < 2 ^ 64) (hb : b < 2 ^ 64) : Pt E ⟨dst, .binOp .and T x y T', ty, ps, af, gd⟩ s (.int .u64 ((a &&& b : Nat) : Int)) := by
  have h1 := Nat.and_lt_two_pow a hb
  have h := p_and (E := E) (s := s) (dst := dst) (ty := ty) (ps := ps) (af := af) (gd := gd) (T := T) (T' := T') hx hy (by omega) (by omega) ⟨by omega, by omega⟩ ⟨by omega, by omega⟩ ⟨by simp only [Int.toNat_natCast]; exact Int.natCast_nonneg _, by simp only [Int.toNat_natCast]; omega⟩
  simpa only [Int.toNat_natCast] using h
theorem p_andI (hx : evI s x = some (.i64, (a : Int))) (hy : evI s y = some (.i64, (b : Int))) (ha : a < 2 ^ 60) (hb : b < 2 ^ 60) : Pt E ⟨dst, .binOp .and T x y T', ty, ps, af, gd⟩ s (.int .i64 ((a &&& b : Nat) : Int)) := by
  have h1 := Nat.and_lt_two_pow a hb
  have h := p_and (E := E) (s := s) (dst := dst) (ty := ty) (ps := ps) (af := af) (gd := gd) (T := T) (T' := T') hx hy (by omega) (by omega) ⟨by omega, by omega⟩ ⟨by omega, by omega⟩ ⟨by simp only [Int.toNat_natCast]; exact Int.le_trans (by omega) (Int.natCast_nonneg _), by simp only [Int.toNat_natCast]; omega⟩
  simpa only [Int.toNat_natCast] using h
theorem p_addN (hx : evI s x = some (.u64, (a : Int))) (hy : evI s y = some (.u64, (b : Int))) (ha : a + b < 2 ^ 64) (hc : c = a + b) : Pt E ⟨dst, .binOp .add T x y T', ty, ps, af, gd⟩ s (.int .u64 (c : Int)) := by
  subst hc
  exact (p_add hx hy ⟨by omega, by omega⟩).eq (veq_int (by omega))
end
end Go.Proofs.Ytebcapplclgaead
