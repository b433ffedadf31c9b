/- Candidates for an empty place. No conditions but those in the statements. -/
import Derived.Test.YtebcapplclgaeadM22
namespace Go.Proofs.Ytebcapplclgaead
open Gx
set_option linter.unusedVariables false
/-- a without what is in b. -/
theorem p_andn {E : Gx.Env} {s : Gx.St} {dst : Option Nat} {ty : TypeId} {ps : String} {af : Array Edge} {gd : Option (Nat × Bool)} {x y : Operand} {T T' : TypeId} {a b r : Nat} (hx : evI s x = some (.i64, (a : Int))) (hy : evI s y = some (.i64, (b : Int))) (ha : a < 1024) (hb : b < 1024)
    (hr : ∀ j, r.testBit j = (a.testBit j && !b.testBit j)) : Pt E ⟨dst, .binOp .andNot T x y T', ty, ps, af, gd⟩ s (.int .i64 (r : Int)) := fun c ho w => by
  have ia : inR .i64 (a : Int) := ⟨by omega, by omega⟩
  have ib : inR .i64 (b : Int) := ⟨by omega, by omega⟩
  have hra : r < 2 ^ 10 := by
    apply Nat.lt_pow_two_of_testBit
    intro j hj
    rw [hr j, Nat.testBit_lt_two_pow (Nat.lt_of_lt_of_le ha (Nat.pow_le_pow_right (show 0 < 2 by omega) hj))]
    rfl
  have ir : inR .i64 ((r : Nat) : Int) := ⟨by omega, by omega⟩
  have h64 : IntKind.bits .i64 = 64 := rfl
  have e1 : (BitVec.ofInt (IntKind.bits .i64) (a : Int) &&& ~~~ BitVec.ofInt (IntKind.bits .i64) (b : Int)).toNat = r := by
    apply Nat.eq_of_testBit_eq
    intro j
    rw [hr j, BitVec.toNat_and, Nat.testBit_and, toNat_ofInt_in (by omega) ia, Int.toNat_natCast]
    by_cases hj : j < 64
    · congr 1
      rw [BitVec.testBit_toNat, BitVec.getLsbD_not, ← BitVec.testBit_toNat, toNat_ofInt_in (by omega) ib, Int.toNat_natCast]
      simp [h64, hj]
    · have : a.testBit j = false := Nat.testBit_lt_two_pow (Nat.lt_of_lt_of_le ha (Nat.le_trans (show 1024 ≤ 2 ^ 64 by decide) (Nat.pow_le_pow_right (by omega) (by omega))))
      rw [this]; simp
  have e2 : Op.intBits .andNot .i64 (a : Int) (b : Int) = pure (.int .i64 ((r : Nat) : Int)) := by
    show pure (Value.int .i64 (IntKind.wrap .i64 (((BitVec.ofInt (IntKind.bits .i64) (a : Int) &&& ~~~ BitVec.ofInt (IntKind.bits .i64) (b : Int)).toNat : Nat) : Int))) = _
    rw [e1, wrap_in ir]
  simp [execOp, ho.evI hx, ho.evI hy, D.val, run_eqGuard_int, binOp, e2]
theorem shl_nat (n : Nat) : (D.int .i64 (1 * 2 ^ ((n : Int)).toNat)).val = (D.int .i64 ((2 ^ n : Nat) : Int)).val := by
  refine veq_int ?_
  rw [Int.toNat_natCast, Int.one_mul]
  simp
theorem p_or_nn {E : Gx.Env} {s : Gx.St} {dst : Option Nat} {ty : TypeId} {ps : String} {af : Array Edge} {gd : Option (Nat × Bool)} {x y : Operand} {T T' : TypeId} {a b : Nat} (hx : evI s x = some (.i64, (a : Int))) (hy : evI s y = some (.i64, (b : Int))) (ha : a < 1024) (hb : b < 1024) :
    Pt E ⟨dst, .binOp .or T x y T', ty, ps, af, gd⟩ s (.int .i64 ((a ||| b : Nat) : Int)) := by
  have hor : a ||| b < 2 ^ 10 := Nat.or_lt_two_pow (by omega) (by omega)
  have h := p_or (E := E) (s := s) (dst := dst) (ty := ty) (ps := ps) (af := af) (gd := gd) (T := T) (T' := T') hx hy (by omega) (by omega) ⟨by omega, by omega⟩ ⟨by omega, by omega⟩ ⟨by simp only [Int.toNat_natCast]; omega, by simp only [Int.toNat_natCast]; omega⟩
  simpa only [Int.toNat_natCast] using h
def candP (L : SL) (i j : Nat) (v : Nat) : Prop := ∀ k, k < L.length → ¬ (at2 L i k = (v : Int)) ∧ ¬ (at2 L k j = (v : Int))
noncomputable def candB (L : SL) (i j : Nat) (v : Nat) : Bool := @decide (candP L i j v) (Classical.propDecidable _)
theorem candB_t {L : SL} {i j v : Nat} (h : candP L i j v) : true = candB L i j v := (@decide_eq_true _ (Classical.propDecidable _) h).symm
theorem candB_f {L : SL} {i j v k : Nat} (hk : k < L.length) (h : at2 L i k = (v : Int) ∨ at2 L k j = (v : Int)) : false = candB L i j v := (@decide_eq_false _ (Classical.propDecidable _) fun hh => by
  rcases h with h | h
  · exact (hh k hk).1 h
  · exact (hh k hk).2 h).symm
theorem cR_has {L : SL} {i v : Nat} (hi : i < L.length) (hv : v < 10) : (cR L i).testBit v = true ↔ ∃ k, k < L.length ∧ at2 L i k = (v : Int) := by
  unfold cR
  rw [rowS_has hv, @decide_eq_true_iff _ (Classical.propDecidable _)]
  exact ⟨fun ⟨b, h, e⟩ => ⟨b, by omega, e⟩, fun ⟨b, h, e⟩ => ⟨b, by omega, e⟩⟩
theorem cC_has {L : SL} {j v : Nat} (hj : j < L.length) (hv : v < 10) : (cC L j).testBit v = true ↔ ∃ k, k < L.length ∧ at2 L k j = (v : Int) := by
  unfold cC
  rw [colS_has hv, @decide_eq_true_iff _ (Classical.propDecidable _)]
  exact ⟨fun ⟨b, h, e⟩ => ⟨b, by omega, e⟩, fun ⟨b, h, e⟩ => ⟨b, by omega, e⟩⟩
theorem cR_lt {L : SL} {i : Nat} : cR L i < 1024 := rowS_lt
theorem cC_lt {L : SL} {i : Nat} : cC L i < 1024 := colS_lt
theorem or_lt {a b : Nat} (ha : a < 1024) (hb : b < 1024) : a ||| b < 1024 := Nat.or_lt_two_pow (n := 10) ha hb
theorem cand_bits {L : SL} {i j : Nat} (hn : L.length ≤ 10) (hi : i < L.length) (hj : j < L.length) (v : Nat) : (bsP (candB L i j) L.length).testBit v = ((2 ^ L.length - 1).testBit v && !(cR L i ||| cC L j).testBit v) := by
  rw [bsP_bit, Nat.testBit_two_pow_sub_one, Nat.testBit_or]
  by_cases hv : v < L.length
  · rw [decide_eq_true hv, Bool.true_and, Bool.true_and, Bool.eq_iff_iff]
    have h1 := cR_has (v := v) hi (by omega)
    have h2 := cC_has (v := v) hj (by omega)
    unfold candB
    rw [@decide_eq_true_iff _ (Classical.propDecidable _), Bool.not_eq_true', Bool.or_eq_false_iff, Bool.eq_false_iff, Bool.eq_false_iff, Ne, Ne, h1, h2]
    exact ⟨fun h => ⟨fun ⟨k, hk, e⟩ => (h k hk).1 e, fun ⟨k, hk, e⟩ => (h k hk).2 e⟩, fun h k hk => ⟨fun e => h.1 ⟨k, hk, e⟩, fun e => h.2 ⟨k, hk, e⟩⟩⟩
  · rw [decide_eq_false hv]; simp
/-- The code and the list of CandidatesAt. -/
noncomputable def cdC (L : SL) (i j : Int) : Int := if isPar L = true then (if (0 ≤ i ∧ i ≤ (L.length : Int) - 1) ∧ (0 ≤ j ∧ j ≤ (L.length : Int) - 1) then (if 0 ≤ at2 L i.toNat j.toNat then 5 else 0) else 2) else 1
noncomputable def cdL (L : SL) (i j : Int) : List Int := if cdC L i j = 0 then filt (candB L i.toNat j.toNat) L.length else []
theorem cd_1 {L : SL} {i j : Int} (h : isPar L = false) : cdC L i j = 1 := by unfold cdC; rw [if_neg (by rw [h]; decide)]
theorem cd_2 {L : SL} {i j : Int} (h : isPar L = true) (h2 : ¬ ((0 ≤ i ∧ i ≤ (L.length : Int) - 1) ∧ (0 ≤ j ∧ j ≤ (L.length : Int) - 1))) : cdC L i j = 2 := by unfold cdC; rw [if_pos h, if_neg h2]
theorem cd_5 {L : SL} {i j : Int} (h : isPar L = true) (h2 : (0 ≤ i ∧ i ≤ (L.length : Int) - 1) ∧ (0 ≤ j ∧ j ≤ (L.length : Int) - 1)) (h3 : 0 ≤ at2 L i.toNat j.toNat) : cdC L i j = 5 := by unfold cdC; rw [if_pos h, if_pos h2, if_pos h3]
theorem cd_0 {L : SL} {i j : Int} (h : isPar L = true) (h2 : (0 ≤ i ∧ i ≤ (L.length : Int) - 1) ∧ (0 ≤ j ∧ j ≤ (L.length : Int) - 1)) (h3 : ¬ 0 ≤ at2 L i.toNat j.toNat) : cdC L i j = 0 := by unfold cdC; rw [if_pos h, if_pos h2, if_neg h3]
theorem cdL_n {L : SL} {i j c : Int} (h : cdC L i j = c) (hc : c ≠ 0) : cdL L i j = [] := by unfold cdL; rw [if_neg (by omega)]
theorem cdL_0 {L : SL} {i j : Int} (h : cdC L i j = 0) : cdL L i j = filt (candB L i.toNat j.toNat) L.length := if_pos h
theorem cdL_len {L : SL} {i j : Int} : (cdL L i j).length ≤ 10000000 := by
  unfold cdL
  split
  · rename_i h
    have : isPar L = true := by
      cases hp : isPar L with
      | true => rfl
      | false => rw [cd_1 hp] at h; omega
    have h2 := (of_isPar this).1.2
    have := filt_len (P := candB L i.toNat j.toNat) L.length
    omega
  · simp
theorem cd_eq {L M : SL} (h : L.map (·.2) = M.map (·.2)) (i j : Int) : cdC L i j = cdC M i j := by unfold cdC; rw [isPar_eq h, snd_len h, at2_eq h]
theorem cand_eq {L M : SL} (h : L.map (·.2) = M.map (·.2)) (i j : Nat) : candB L i j = candB M i j := by
  funext v
  unfold candB
  congr 1
  unfold candP
  simp only [at2_eq h, snd_len h]
theorem cdL_eq {L M : SL} (h : L.map (·.2) = M.map (·.2)) (i j : Int) : cdL L i j = cdL M i j := by unfold cdL; rw [cd_eq h, cand_eq h, snd_len h]
theorem cT_at {L : SL} {i j : Nat} (hp : isPar L = true) (hi : i < L.length) (hj : j < L.length) : (cT L (10 * i + j) = 255 ↔ ¬ 0 ≤ at2 L i j) := by
  obtain ⟨hn, _, hr, _⟩ := of_isPar hp
  have h1 := hr i j hi hj
  have e1 : (10 * i + j) / 10 = i := by omega
  have e2 : (10 * i + j) % 10 = j := by omega
  unfold cT part gC
  rw [e1, e2, if_pos (by omega)]
  split
  · rename_i h; rw [h]; exact ⟨fun _ => by omega, fun _ => rfl⟩
  · rename_i h
    refine ⟨fun hh => ?_, fun hh => by omega⟩
    have := congrArg Fin.val hh
    rw [ofNat_val (by omega)] at this
    have e255 : (255 : Fin 256).val = 255 := rfl
    omega
theorem cT_v {L : SL} {i j : Nat} (hp : isPar L = true) (hi : i < L.length) (hj : j < L.length) (h : 0 ≤ at2 L i j) : ((cT L (10 * i + j)).val : Int) = at2 L i j := by
  obtain ⟨hn, _, hr, _⟩ := of_isPar hp
  have h1 := hr i j hi hj
  have e1 : (10 * i + j) / 10 = i := by omega
  have e2 : (10 * i + j) % 10 = j := by omega
  unfold cT part gC
  rw [e1, e2, if_pos (by omega), if_neg (by omega), ofNat_val (by omega)]
  omega
end Go.Proofs.Ytebcapplclgaead
