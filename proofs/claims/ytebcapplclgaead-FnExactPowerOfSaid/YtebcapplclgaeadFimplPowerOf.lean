/- What the Go function impl.PowerOf does, shown of its loaded text; its conditions stand in the statement. -/
import Derived.Test.YtebcapplclgaeadTy
import Derived.Test.YtebcapplclgaeadFimplSquarepower
import Derived.Test.YtebcapplclgaeadFimplownCode
import Derived.Test.YtebcapplclgaeadFimplwithin
import Derived.Test.YtebcapplclgaeadM7
namespace Go.Proofs.Ytebcapplclgaead
open Go Gx
set_option linter.unusedVariables false
theorem en_impl_PowerOf : Enters Try.prog 22 := enters_of Try.func22 (by kernel_rfl) (by kernel_rfl)
set_option maxRecDepth 100000 in
theorem w_impl_PowerOf {t : Nat → Fin 256} {n : Int} {x : Fin 256} {k : Int}  : CR Try.prog 22 (vals [.agg [.int .i64 n, .arr8 100 t], .u8 x, .int .i64 k]) [] (.tup [.u8 (bif isLp n t && ([x].all (ltn n) && decide (0 ≤ k ∧ k ≤ 1000000)) then nth (mulX t x) 0 (k % ((ordN t x : Nat) : Int)).toNat else 0), .int .i64 (code2 (isLp n t) ([x].all (ltn n) && decide (0 ≤ k ∧ k ≤ 1000000)))]) := by
  refine CR_intro (rs := [.tmp 6, .tmp 7]) tt tok Try.func22 rfl rfl rfl (by first | rfl | assumption) fun w => ?_
  refine W_seq ?_
  refine W_region ?_
  refine Ops_x rfl (x_box rfl rfl (lt_dec rfl) fun b3_1 => ?_)
  refine Ops_p (p_assign rfl) (lt_dec rfl) ?_
  refine Ops_p (p_assign rfl) (lt_dec rfl) ?_
  refine Ops_nil ?_
  refine W_seq ?_
  refine W_seq ?_
  refine W_region ?_
  refine Ops_q (q_load rfl rfl m0 rfl (by first | trivial | (first | omega | (dsimp only; omega)) | exact Fin.isLt _ | (dsimp only; omega))) (lt_dec rfl) ?_
  refine Ops_p (p_move rfl) (lt_dec rfl) ?_
  refine Ops_x rfl (x_buildSlice rfl rfl rfl rfl rfl rfl rfl rfl (Nat.le_of_ble_eq_true rfl) (lt_dec rfl) fun b11_1 => ?_)
  refine Ops_q (q_call en_impl_ownCode rfl (w_impl_ownCode (by first | assumption | (first | omega | (dsimp only; omega)) | (simp; done) | decide) (by first | assumption | (first | omega | (dsimp only; omega)) | (simp; done) | decide)) (View.row m0)) (lt_dec rfl) ?_
  refine Ops_p (p_assign rfl) (lt_dec rfl) ?_
  refine Ops_nil ?_
  refine W_seq ?_
  refine W_region ?_
  refine Ops_p (p_move rfl) (lt_dec rfl) ?_
  refine Ops_p (p_neq rfl rfl) (lt_dec rfl) ?_
  refine Ops_nil ?_
  refine W_cond rfl (fun h1 => ?_) (fun h1 => ?_)
  · try simp only [bs] at h1
    refine W_seq ?_
    refine W_region ?_
    refine Ops_p (p_move rfl) (lt_dec rfl) ?_
    refine Ops_p (p_assign rfl) (lt_dec rfl) ?_
    refine Ops_p (p_assign rfl) (lt_dec rfl) ?_
    refine Ops_nil ?_
    refine W_ret ?_
    refine Exists.intro _ (And.intro (.cons (.tmp rfl) (.cons (.tmp rfl) .nil)) ?_)
    first | rfl | (refine veq_bool ?_; simp_all; done) | (refine veq_bool ?_; simp; omega) | (refine veq_bool ?_; rw [eq_comm, decide_eq_false_iff_not]; omega) | (refine veq_bool ?_; rw [eq_comm, decide_eq_true_iff]; omega) | (refine veq_int ?_; omega) | (refine veq_arr8 fun j hj => ?_; (try dsimp only); first | (simp; done) | (simp; omega) | ((repeat' split) <;> first | rfl | (exfalso; omega) | (congr 1; omega) | (simp_all; done))) | (have e := pwc (c := decide (0 ≤ k ∧ k ≤ 1000000)) h1; refine veq_tup2 (veq_u8 ?_) (veq_int e.2.symm); rw [e.1]; rfl) | (have e := pwa (c := decide (0 ≤ k ∧ k ≤ 1000000)) h1 (decide_eq_false h2); refine veq_tup2 (veq_u8 ?_) (veq_int e.2.symm); rw [e.1]; rfl) | (have e := pwb (c := decide (0 ≤ k ∧ k ≤ 1000000)) h1 (decide_eq_true h2); refine veq_tup2 (veq_u8 ?_) (veq_int e.2.symm); rw [e.1]; rfl)
  · try simp only [bs] at h1
    have hl := (code2_eq h1).1; have h5 := ltn_1 (code2_eq h1).2; have hs := lp_sq hl; have hn := hs.1
    refine W_skip ?_
    refine W_seq ?_
    refine W_seq ?_
    refine W_region ?_
    refine Ops_p (p_move rfl) (lt_dec rfl) ?_
    refine Ops_q (q_call en_impl_within rfl (w_impl_within) (View.none _)) (lt_dec rfl) ?_
    refine Ops_p (p_not rfl) (lt_dec rfl) ?_
    refine Ops_nil ?_
    refine W_cond rfl (fun h2 => ?_) (fun h2 => ?_)
    · try simp only [bs] at h2
      refine W_seq ?_
      refine W_region ?_
      refine Ops_p (p_assign rfl) (lt_dec rfl) ?_
      refine Ops_p (p_assign rfl) (lt_dec rfl) ?_
      refine Ops_nil ?_
      refine W_ret ?_
      refine Exists.intro _ (And.intro (.cons (.tmp rfl) (.cons (.tmp rfl) .nil)) ?_)
      first | rfl | (refine veq_bool ?_; simp_all; done) | (refine veq_bool ?_; simp; omega) | (refine veq_bool ?_; rw [eq_comm, decide_eq_false_iff_not]; omega) | (refine veq_bool ?_; rw [eq_comm, decide_eq_true_iff]; omega) | (refine veq_int ?_; omega) | (refine veq_arr8 fun j hj => ?_; (try dsimp only); first | (simp; done) | (simp; omega) | ((repeat' split) <;> first | rfl | (exfalso; omega) | (congr 1; omega) | (simp_all; done))) | (have e := pwc (c := decide (0 ≤ k ∧ k ≤ 1000000)) h1; refine veq_tup2 (veq_u8 ?_) (veq_int e.2.symm); rw [e.1]; rfl) | (have e := pwa (c := decide (0 ≤ k ∧ k ≤ 1000000)) h1 (decide_eq_false h2); refine veq_tup2 (veq_u8 ?_) (veq_int e.2.symm); rw [e.1]; rfl) | (have e := pwb (c := decide (0 ≤ k ∧ k ≤ 1000000)) h1 (decide_eq_true h2); refine veq_tup2 (veq_u8 ?_) (veq_int e.2.symm); rw [e.1]; rfl)
    · try simp only [bs] at h2
      refine W_skip ?_
      refine W_seq ?_
      refine W_region ?_
      refine Ops_q (q_load rfl rfl m1 rfl (by first | trivial | (first | omega | (dsimp only; omega)) | exact Fin.isLt _ | (dsimp only; omega))) (lt_dec rfl) ?_
      refine Ops_p (p_move rfl) (lt_dec rfl) ?_
      refine Ops_p (p_move rfl) (lt_dec rfl) ?_
      refine Ops_q (q_call en_impl_Square_power rfl (w_impl_Square_power hl h5 h2) (View.none _)) (lt_dec rfl) ?_
      refine Ops_p (p_assign rfl) (lt_dec rfl) ?_
      refine Ops_p (p_assign rfl) (lt_dec rfl) ?_
      refine Ops_nil ?_
      refine W_ret ?_
      refine Exists.intro _ (And.intro (.cons (.tmp rfl) (.cons (.tmp rfl) .nil)) ?_)
      first | rfl | (refine veq_bool ?_; simp_all; done) | (refine veq_bool ?_; simp; omega) | (refine veq_bool ?_; rw [eq_comm, decide_eq_false_iff_not]; omega) | (refine veq_bool ?_; rw [eq_comm, decide_eq_true_iff]; omega) | (refine veq_int ?_; omega) | (refine veq_arr8 fun j hj => ?_; (try dsimp only); first | (simp; done) | (simp; omega) | ((repeat' split) <;> first | rfl | (exfalso; omega) | (congr 1; omega) | (simp_all; done))) | (have e := pwc (c := decide (0 ≤ k ∧ k ≤ 1000000)) h1; refine veq_tup2 (veq_u8 ?_) (veq_int e.2.symm); rw [e.1]; rfl) | (have e := pwa (c := decide (0 ≤ k ∧ k ≤ 1000000)) h1 (decide_eq_false h2); refine veq_tup2 (veq_u8 ?_) (veq_int e.2.symm); rw [e.1]; rfl) | (have e := pwb (c := decide (0 ≤ k ∧ k ≤ 1000000)) h1 (decide_eq_true h2); refine veq_tup2 (veq_u8 ?_) (veq_int e.2.symm); rw [e.1]; rfl)
end Go.Proofs.Ytebcapplclgaead
