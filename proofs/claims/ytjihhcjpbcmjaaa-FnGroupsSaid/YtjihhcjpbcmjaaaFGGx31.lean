/- Parts of strings. No conditions but those in the statements. -/
import Derived.Test.YtjihhcjpbcmjaaaFGGx27
namespace Go.Proofs.Ytjihhcjpbcmjaaa
open Go
namespace Gx
set_option linter.unusedVariables false
section
variable {E : Env} {s : St} {dst : Option Nat} {ty : TypeId} {ps : String} {af : Array Edge} {gd : Option (Nat × Bool)}
theorem strB_cut (a : List (Fin 256)) (l h : Nat) : (strB a).extract l h = strB ((a.drop l).take (h - l)) := by
  apply ByteArray.ext
  simp [strB, ByteArray.data_extract, List.extract_eq_take_drop]
theorem p_cut_s {x y z : Operand} {a : List (Fin 256)} {T : Nat} {k k' : IntKind} {i i' : Int} {sz by_ : Nat} {zz : D} {hh : (Value.string (strB a)).oneCell' = true} (l h : Nat) (ht : E.tt T = some ⟨.str, sz, by_, zz⟩) (hx : ev s x = some (.raw (.string (strB a)) hh)) (hy : evI s y = some (k, i)) (hz : evI s z = some (k', i')) (hl : i = (l : Int)) (hh' : i' = (h : Int)) (h1 : l ≤ h) (h2 : h ≤ a.length) :
    Pt E ⟨dst, .slice T x (some y) (some z) none, ty, ps, af, gd⟩ s (.raw (.string (strB ((a.drop l).take (h - l)))) rfl) := fun c ho w => by
  subst hl; subst hh'
  obtain ⟨d, hd, hm⟩ := tt_underlying ht
  simp only [TD.met] at hm
  subst hm
  have g1 : (0 : Int) ≤ (h : Int) ∧ (h : Int) ≤ ((strB a).size : Int) := by rw [strB_size]; omega
  have g2 : (0 : Int) ≤ (l : Int) ∧ (l : Int) ≤ (h : Int) := by omega
  have g3 : h ≤ (strB a).size := by rw [strB_size]; exact h2
  have g4 : ¬ (strB a).size < h := by omega
  have g5 : ¬ h < l := by omega
  simp [execOp, ho.ev hx, ho.evI hy, ho.evI hz, D.val, Instr.sliceAt, Instr.slice, Instr.sliceBounds, Instr.sliceBound, asIntOf, run_underlying hd, g1, g2, g3, h1, strB_cut]
theorem p_cutE_s {x y : Operand} {a : List (Fin 256)} {T : Nat} {k : IntKind} {i : Int} {sz by_ : Nat} {zz : D} {hh : (Value.string (strB a)).oneCell' = true} (l : Nat) (ht : E.tt T = some ⟨.str, sz, by_, zz⟩) (hx : ev s x = some (.raw (.string (strB a)) hh)) (hy : evI s y = some (k, i)) (hl : i = (l : Int)) (h1 : l ≤ a.length) :
    Pt E ⟨dst, .slice T x (some y) none none, ty, ps, af, gd⟩ s (.raw (.string (strB (a.drop l))) rfl) := fun c ho w => by
  subst hl
  obtain ⟨d, hd, hm⟩ := tt_underlying ht
  simp only [TD.met] at hm
  subst hm
  have g3 : l ≤ (strB a).size := by rw [strB_size]; exact h1
  have e : (strB a).extract l (strB a).size = strB (a.drop l) := by
    rw [strB_cut, strB_size, List.take_of_length_le (by rw [List.length_drop]; omega)]
  simp [execOp, ho.ev hx, ho.evI hy, D.val, Instr.sliceAt, Instr.slice, Instr.sliceBounds, Instr.sliceBound, asIntOf, run_underlying hd, g3, e]
end
theorem veq_sub48 {c : Fin 256} : (D.int .u8 (IntKind.wrap .u8 (((c.val : Nat) : Int) - 48))).val = (D.u8 (Fin.ofNat 256 (c.val + 208))).val := by
  have : IntKind.wrap .u8 (((c.val : Nat) : Int) - 48) = (((c.val + 208) % 256 : Nat) : Int) := by
    simp only [IntKind.wrap, IntKind.signed, IntKind.bits]
    have := c.isLt
    simp
    omega
  simp only [D.val, this, Fin.ofNat]
end Gx
end Go.Proofs.Ytjihhcjpbcmjaaa
