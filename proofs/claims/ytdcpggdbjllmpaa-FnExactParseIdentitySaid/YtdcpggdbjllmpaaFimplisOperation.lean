/- What the Go function impl.isOperation does, shown of its loaded text; its conditions stand in the statement. -/
import Derived.Test.YtdcpggdbjllmpaaTy
import Derived.Test.YtdcpggdbjllmpaaM13
namespace Go.Proofs.Ytdcpggdbjllmpaa
open Go Gx
set_option linter.unusedVariables false
theorem en_impl_isOperation : Enters Try.prog 73 := enters_of Try.func73 (by kernel_rfl) (by kernel_rfl)
set_option maxRecDepth 100000 in
theorem w_impl_isOperation {c : Fin 256}  : CR Try.prog 73 (vals [.u8 c]) [] (.bool (operB c)) := by
  refine CR_intro (rs := [.tmp 2]) tt tok Try.func73 rfl rfl rfl (by first | rfl | assumption) fun w => ?_
  refine W_seq ?_
  refine W_region ?_
  refine Ops_p (p_assign rfl) (lt_dec rfl) ?_
  refine Ops_nil ?_
  refine W_seq ?_
  refine W_region ?_
  refine Ops_p (p_move rfl) (lt_dec rfl) ?_
  first | refine Ops_p (p_eql_8 rfl rfl) (lt_dec rfl) ?_ | refine Ops_p (p_eql rfl rfl) (lt_dec rfl) ?_
  refine Ops_p (p_move rfl) (lt_dec rfl) ?_
  refine Ops_guard rfl rfl (lt_dec rfl) (fun hg1 => ?_) (fun hg1 => ?_)
  · try simp only [bs] at hg1
    refine Ops_p (p_move rfl) (lt_dec rfl) ?_
    refine Ops_guard_t rfl rfl (lt_dec rfl) ?_
    first | refine Ops_p (p_eql_8 rfl rfl) (lt_dec rfl) ?_ | refine Ops_p (p_eql rfl rfl) (lt_dec rfl) ?_
    refine Ops_p (p_pick_f rfl rfl) (lt_dec rfl) ?_
    refine Ops_p (p_move rfl) (lt_dec rfl) ?_
    refine Ops_guard rfl rfl (lt_dec rfl) (fun hg2 => ?_) (fun hg2 => ?_)
    · try simp only [bs] at hg2
      refine Ops_p (p_move rfl) (lt_dec rfl) ?_
      refine Ops_guard_t rfl rfl (lt_dec rfl) ?_
      first | refine Ops_p (p_eql_8 rfl rfl) (lt_dec rfl) ?_ | refine Ops_p (p_eql rfl rfl) (lt_dec rfl) ?_
      refine Ops_p (p_pick_f rfl rfl) (lt_dec rfl) ?_
      refine Ops_p (p_assign rfl) (lt_dec rfl) ?_
      refine Ops_nil ?_
      refine W_ret ?_
      refine Exists.intro _ (And.intro (.cons (.tmp rfl) .nil) ?_)
      first | rfl | exact veq_bool (leafB_t (by simp only [Fin.ext_iff] at *; (try dsimp only at *); omega)) | exact veq_bool (operB_t (by simp only [Fin.ext_iff] at *; (try dsimp only at *); omega)) | (refine veq_bool ?_; unfold leafB; rw [Bool.eq_iff_iff]; simp only [decide_eq_true_eq, Fin.ext_iff] at *; (try dsimp only at *); omega) | (refine veq_bool ?_; unfold operB; rw [Bool.eq_iff_iff]; simp only [decide_eq_true_eq, Fin.ext_iff] at *; (try dsimp only at *); omega)
    · try simp only [bs] at hg2
      refine Ops_guard_f rfl rfl rfl (lt_dec rfl) ?_
      refine Ops_p (p_pick_t rfl rfl) (lt_dec rfl) ?_
      refine Ops_p (p_assign rfl) (lt_dec rfl) ?_
      refine Ops_nil ?_
      refine W_ret ?_
      refine Exists.intro _ (And.intro (.cons (.tmp rfl) .nil) ?_)
      first | rfl | exact veq_bool (leafB_t (by simp only [Fin.ext_iff] at *; (try dsimp only at *); omega)) | exact veq_bool (operB_t (by simp only [Fin.ext_iff] at *; (try dsimp only at *); omega)) | (refine veq_bool ?_; unfold leafB; rw [Bool.eq_iff_iff]; simp only [decide_eq_true_eq, Fin.ext_iff] at *; (try dsimp only at *); omega) | (refine veq_bool ?_; unfold operB; rw [Bool.eq_iff_iff]; simp only [decide_eq_true_eq, Fin.ext_iff] at *; (try dsimp only at *); omega)
  · try simp only [bs] at hg1
    refine Ops_guard_f rfl rfl rfl (lt_dec rfl) ?_
    refine Ops_p (p_pick_t rfl rfl) (lt_dec rfl) ?_
    refine Ops_p (p_move rfl) (lt_dec rfl) ?_
    refine Ops_guard_f rfl rfl rfl (lt_dec rfl) ?_
    refine Ops_guard_f rfl rfl rfl (lt_dec rfl) ?_
    refine Ops_p (p_pick_t rfl rfl) (lt_dec rfl) ?_
    refine Ops_p (p_assign rfl) (lt_dec rfl) ?_
    refine Ops_nil ?_
    refine W_ret ?_
    refine Exists.intro _ (And.intro (.cons (.tmp rfl) .nil) ?_)
    first | rfl | exact veq_bool (leafB_t (by simp only [Fin.ext_iff] at *; (try dsimp only at *); omega)) | exact veq_bool (operB_t (by simp only [Fin.ext_iff] at *; (try dsimp only at *); omega)) | (refine veq_bool ?_; unfold leafB; rw [Bool.eq_iff_iff]; simp only [decide_eq_true_eq, Fin.ext_iff] at *; (try dsimp only at *); omega) | (refine veq_bool ?_; unfold operB; rw [Bool.eq_iff_iff]; simp only [decide_eq_true_eq, Fin.ext_iff] at *; (try dsimp only at *); omega)
end Go.Proofs.Ytdcpggdbjllmpaa
