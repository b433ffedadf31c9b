/- What the Go function impl.RightQuotient does, shown of its loaded text; its conditions stand in the statement. -/
import Derived.Test.YtebcapplclgaeabTy
import Derived.Test.YtebcapplclgaeabFimplSquareright
import Derived.Test.YtebcapplclgaeabFimplchecked
import Derived.Test.YtebcapplclgaeabM6
namespace Go.Proofs.Ytebcapplclgaeab
open Go Gx
set_option linter.unusedVariables false
theorem en_impl_RightQuotient : Enters Try.prog 22 := enters_of Try.func22 (by kernel_rfl) (by kernel_rfl)
set_option maxRecDepth 100000 in
theorem w_impl_RightQuotient {t : Nat → Fin 256} {n : Int} {x z : Fin 256}  : CR Try.prog 22 (vals [.agg [.int .i64 n, .arr8 100 t], .u8 x, .u8 z]) [] (.tup [.u8 (bif isSq n t && [x, z].all (ltn n) then Fin.ofNat 256 (lq (fun y => t (10 * y + z.val)) x) else 0), .int .i64 (code2 (isSq n t) ([x, z].all (ltn n)))]) := by
  refine CR_intro (rs := [.tmp 6, .tmp 7]) tt tok Try.func22 rfl rfl rfl (by first | rfl | assumption) fun w => ?_
  refine W_seq ?_
  refine W_region ?_
  refine Ops_x rfl (x_box rfl rfl (lt_dec rfl) fun b3_1 => ?_)
  refine Ops_p (p_assign rfl) (lt_dec rfl) ?_
  refine Ops_p (p_assign rfl) (lt_dec rfl) ?_
  refine Ops_nil ?_
  refine W_seq ?_
  refine W_seq ?_
  refine W_region ?_
  refine Ops_q (q_load rfl rfl m0 rfl (by first | trivial | (first | omega | (dsimp only; omega)) | exact Fin.isLt _ | (dsimp only; omega))) (lt_dec rfl) ?_
  refine Ops_p (p_move rfl) (lt_dec rfl) ?_
  refine Ops_p (p_move rfl) (lt_dec rfl) ?_
  refine Ops_x rfl (x_buildSlice rfl rfl rfl rfl rfl rfl rfl rfl (Nat.le_of_ble_eq_true rfl) (lt_dec rfl) fun b12_1 => ?_)
  refine Ops_q (q_call en_impl_checked rfl (w_impl_checked (by first | assumption | (first | omega | (dsimp only; omega)) | (simp; done) | decide) (by first | assumption | (first | omega | (dsimp only; omega)) | (simp; done) | decide)) (View.row m0)) (lt_dec rfl) ?_
  refine Ops_p (p_assign rfl) (lt_dec rfl) ?_
  refine Ops_nil ?_
  refine W_seq ?_
  refine W_region ?_
  refine Ops_p (p_move rfl) (lt_dec rfl) ?_
  refine Ops_p (p_neq rfl rfl) (lt_dec rfl) ?_
  refine Ops_nil ?_
  refine W_cond rfl (fun h1 => ?_) (fun h1 => ?_)
  · try simp only [bs] at h1
    refine W_seq ?_
    refine W_region ?_
    refine Ops_p (p_move rfl) (lt_dec rfl) ?_
    refine Ops_p (p_assign rfl) (lt_dec rfl) ?_
    refine Ops_p (p_assign rfl) (lt_dec rfl) ?_
    refine Ops_nil ?_
    refine W_ret ?_
    refine Exists.intro _ (And.intro (.cons (.tmp rfl) (.cons (.tmp rfl) .nil)) ?_)
    first | rfl | (refine veq_bool ?_; simp_all; done) | (refine veq_bool ?_; simp; omega) | (refine veq_bool ?_; rw [eq_comm, decide_eq_false_iff_not]; omega) | (refine veq_bool ?_; rw [eq_comm, decide_eq_true_iff]; omega) | (refine veq_int ?_; omega) | (refine veq_arr8 fun j hj => ?_; (try dsimp only); first | (simp; done) | (simp; omega) | ((repeat' split) <;> first | rfl | (exfalso; omega) | (congr 1; omega) | (simp_all; done))) | (refine veq_tup2 (veq_u8 ?_) rfl; rw [code2_ne h1]; rfl) | (refine veq_tup2 (veq_u8 ?_) (veq_int h1.symm); rw [(code2_eq h1).1, (code2_eq h1).2]; rfl)
  · try simp only [bs] at h1
    have h2 := ltn_2 (code2_eq h1).2; have hs := of_isSq (code2_eq h1).1; have hn := hs.1
    refine W_skip ?_
    refine W_seq ?_
    refine W_region ?_
    refine Ops_q (q_load rfl rfl m1 rfl (by first | trivial | (first | omega | (dsimp only; omega)) | exact Fin.isLt _ | (dsimp only; omega))) (lt_dec rfl) ?_
    refine Ops_p (p_move rfl) (lt_dec rfl) ?_
    refine Ops_p (p_move rfl) (lt_dec rfl) ?_
    refine Ops_q (q_call en_impl_Square_right rfl (w_impl_Square_right (by first | assumption | (first | omega | (dsimp only; omega)) | (simp; done) | decide) (col_surj hs h2.2 h2.1)) (View.none _)) (lt_dec rfl) ?_
    refine Ops_p (p_assign rfl) (lt_dec rfl) ?_
    refine Ops_p (p_assign rfl) (lt_dec rfl) ?_
    refine Ops_nil ?_
    refine W_ret ?_
    refine Exists.intro _ (And.intro (.cons (.tmp rfl) (.cons (.tmp rfl) .nil)) ?_)
    first | rfl | (refine veq_bool ?_; simp_all; done) | (refine veq_bool ?_; simp; omega) | (refine veq_bool ?_; rw [eq_comm, decide_eq_false_iff_not]; omega) | (refine veq_bool ?_; rw [eq_comm, decide_eq_true_iff]; omega) | (refine veq_int ?_; omega) | (refine veq_arr8 fun j hj => ?_; (try dsimp only); first | (simp; done) | (simp; omega) | ((repeat' split) <;> first | rfl | (exfalso; omega) | (congr 1; omega) | (simp_all; done))) | (refine veq_tup2 (veq_u8 ?_) rfl; rw [code2_ne h1]; rfl) | (refine veq_tup2 (veq_u8 ?_) (veq_int h1.symm); rw [(code2_eq h1).1, (code2_eq h1).2]; rfl)
end Go.Proofs.Ytebcapplclgaeab
