/- Primitive groups: every block is all. No conditions but those in the statements. -/
import Derived.Test.YtjihhcjpbcmjaaaFGM29
namespace Go.Proofs.Ytjihhcjpbcmjaaa
open Gx
set_option linter.unusedVariables false
def prP (ps : List (Nat → Fin 256)) (n : Int) : Prop := psC ps n = 0 ∧ (orbS ps n).length ≤ 1 ∧ ∀ y : Nat, 1 ≤ y → y < n.toNat → ¬ (((bkL ps n.toNat 0 y).length : Nat) : Int) < n
noncomputable def prB (ps : List (Nat → Fin 256)) (n : Int) : Bool := @decide (prP ps n) (Classical.propDecidable _)
theorem prB_t {ps : List (Nat → Fin 256)} {n : Int} (h : prP ps n) : true = prB ps n := (@decide_eq_true _ (Classical.propDecidable _) h).symm
theorem prB_f {ps : List (Nat → Fin 256)} {n : Int} (h : ¬ prP ps n) : false = prB ps n := (@decide_eq_false _ (Classical.propDecidable _) h).symm
theorem prB_c {ps : List (Nat → Fin 256)} {n : Int} (h : ¬ psC ps n = 0) : false = prB ps n := prB_f fun hh => h hh.1
theorem prB_o {ps : List (Nat → Fin 256)} {n : Int} {L : SL} (h0 : psC ps n = 0) (hL : L.map (·.2) = oL (orbB ps n.toNat) n.toNat n.toNat) (h : ¬ L.length ≤ 1) : false = prB ps n := prB_f fun hh => h (by
  have := snd_cnt hL
  have h2 := hh.2.1
  rw [orbS_0 h0] at h2
  omega)
theorem prB_b {ps : List (Nat → Fin 256)} {n : Int} {y : Nat} (h1 : 1 ≤ y) (hy : y < n.toNat) (h : (((bkL ps n.toNat 0 y).length : Nat) : Int) < n) : false = prB ps n := prB_f fun hh => hh.2.2 y h1 hy h
theorem prB_all {ps : List (Nat → Fin 256)} {n : Int} {L : SL} (h0 : psC ps n = 0) (hL : L.map (·.2) = oL (orbB ps n.toNat) n.toNat n.toNat) (h : L.length ≤ 1) (hb : ∀ z : Nat, 1 ≤ z → z < n.toNat → ¬ (((bkL ps n.toNat 0 z).length : Nat) : Int) < n) : true = prB ps n := prB_t ⟨h0, by
  have := snd_cnt hL
  rw [orbS_0 h0]
  omega, hb⟩
end Go.Proofs.Ytjihhcjpbcmjaaa
