/- What the Go function impl.LawText does, shown of its loaded text; its conditions stand in the statement. -/
import Derived.Test.YtdcpggdbjllmpaaDoorTy
import Derived.Test.YtdcpggdbjllmpaaDoorFimplisLaw
import Derived.Test.YtdcpggdbjllmpaaDoorGx14
import Derived.Test.YtdcpggdbjllmpaaDoorGx30
import Derived.Test.YtdcpggdbjllmpaaDoorM37
namespace Go.Proofs.YtdcpggdbjllmpaaDoor
open Go Gx
set_option linter.unusedVariables false
theorem en_impl_LawText : Enters Tryd.prog 5 := enters_of Tryd.func5 (by kernel_rfl) (by kernel_rfl)
set_option maxRecDepth 100000 in
theorem w_impl_LawText {k : Int}  : CR Tryd.prog 5 (vals [.int .i64 k]) [.ro 0 0 (strsR lawT)] (.tup [.raw (.string (strB (bif lawB k then (List.getD lawT k.toNat []) else []))) rfl, .int .i64 (bif lawB k then 0 else 2)]) := by
  refine CR_intro (rs := [.tmp 2, .tmp 3]) tt tok Tryd.func5 rfl rfl rfl (by first | rfl | assumption) fun w => ?_
  refine W_seq ?_
  refine W_region ?_
  refine Ops_p (p_assign rfl) (lt_dec rfl) ?_
  refine Ops_p (p_assign rfl) (lt_dec rfl) ?_
  refine Ops_nil ?_
  refine W_seq ?_
  refine W_seq ?_
  refine W_region ?_
  refine Ops_p (p_move rfl) (lt_dec rfl) ?_
  refine Ops_q (q_call en_impl_isLaw rfl (w_impl_isLaw) (View.none _)) (lt_dec rfl) ?_
  refine Ops_p (p_not rfl) (lt_dec rfl) ?_
  refine Ops_nil ?_
  refine W_cond rfl (fun h1 => ?_) (fun h1 => ?_)
  · try simp only [bs] at h1
    have hb := h1
    refine W_seq ?_
    refine W_region ?_
    refine Ops_p (p_assign rfl) (lt_dec rfl) ?_
    refine Ops_p (p_assign rfl) (lt_dec rfl) ?_
    refine Ops_nil ?_
    refine W_ret ?_
    refine Exists.intro _ (And.intro (.cons (.tmp rfl) (.cons (.tmp rfl) .nil)) ?_)
    first | rfl | (refine veq_bool ?_; simp_all; done) | (refine veq_bool ?_; simp; omega) | (refine veq_bool ?_; rw [eq_comm, decide_eq_false_iff_not]; omega) | (refine veq_bool ?_; rw [eq_comm, decide_eq_true_iff]; omega) | (refine veq_int ?_; omega) | (refine veq_arr8 fun j hj => ?_; (try dsimp only); first | (simp; done) | (simp; omega) | ((repeat' split) <;> first | rfl | (exfalso; omega) | (congr 1; omega) | (simp_all; done))) | ((rw [hb]; rfl))
  · try simp only [bs] at h1
    have hb := h1; have hk : 0 ≤ k ∧ k ≤ 19 := of_decide_eq_true h1
    refine W_skip ?_
    refine W_seq ?_
    refine W_region ?_
    refine Ops_p (p_move rfl) (lt_dec rfl) ?_
    refine Ops_p (p_ix1 k.toNat rfl rfl rfl rfl rfl (by omega) (by omega)) (lt_dec rfl) ?_
    refine Ops_q (q_load_strR (S := lawT) (j := k.toNat) rfl rfl m0 rfl (by rw [lawT_len]; omega) rfl rfl) (lt_dec rfl) ?_
    refine Ops_p (p_assign rfl) (lt_dec rfl) ?_
    refine Ops_p (p_assign rfl) (lt_dec rfl) ?_
    refine Ops_nil ?_
    refine W_ret ?_
    refine Exists.intro _ (And.intro (.cons (.tmp rfl) (.cons (.tmp rfl) .nil)) ?_)
    first | rfl | (refine veq_bool ?_; simp_all; done) | (refine veq_bool ?_; simp; omega) | (refine veq_bool ?_; rw [eq_comm, decide_eq_false_iff_not]; omega) | (refine veq_bool ?_; rw [eq_comm, decide_eq_true_iff]; omega) | (refine veq_int ?_; omega) | (refine veq_arr8 fun j hj => ?_; (try dsimp only); first | (simp; done) | (simp; omega) | ((repeat' split) <;> first | rfl | (exfalso; omega) | (congr 1; omega) | (simp_all; done))) | ((rw [hb]; rfl))
end Go.Proofs.YtdcpggdbjllmpaaDoor
