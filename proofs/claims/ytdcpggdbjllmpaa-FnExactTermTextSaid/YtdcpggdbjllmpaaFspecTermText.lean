/- What the Go function spec.TermText does, shown of its loaded text; its conditions stand in the statement. -/
import Derived.Test.YtdcpggdbjllmpaaTy
import Derived.Test.YtdcpggdbjllmpaaFspecl03Is
import Derived.Test.YtdcpggdbjllmpaaFspecl03Text
import Derived.Test.YtdcpggdbjllmpaaGx14
import Derived.Test.YtdcpggdbjllmpaaGx24
import Derived.Test.YtdcpggdbjllmpaaGx27
import Derived.Test.YtdcpggdbjllmpaaM33
namespace Go.Proofs.Ytdcpggdbjllmpaa
open Go Gx
set_option linter.unusedVariables false
theorem en_spec_TermText : Enters Try.prog 10 := enters_of Try.func10 (by kernel_rfl) (by kernel_rfl)
set_option maxRecDepth 100000 in
theorem w_spec_TermText {a : Value} {ha : a.oneCell' = true} {l : List (Fin 256)} (hl : l.length ≤ 1048576) : CR Try.prog 10 (vals [.raw a ha]) [rd a (.u8s l)] (.tup [.raw (.string (strB (bif isTerm l then txT l else []))) rfl, .int .i64 (bif isTerm l then 0 else 1)]) := by
  refine CR_intro (rs := [.tmp 2, .tmp 3]) tt tok Try.func10 rfl rfl rfl (by first | rfl | assumption) fun w => ?_
  refine W_seq ?_
  refine W_region ?_
  refine Ops_p (p_assign rfl) (lt_dec rfl) ?_
  refine Ops_p (p_assign rfl) (lt_dec rfl) ?_
  refine Ops_nil ?_
  refine W_seq ?_
  refine W_seq ?_
  refine W_region ?_
  refine Ops_p (p_move rfl) (lt_dec rfl) ?_
  refine Ops_q (q_call en_spec_l03Is rfl (w_spec_l03Is (by first | assumption | (first | omega | (dsimp only; omega)) | (simp; done) | decide)) (Vw.rd m0).v) (lt_dec rfl) ?_
  refine Ops_p (p_not rfl) (lt_dec rfl) ?_
  refine Ops_nil ?_
  refine W_cond rfl (fun h1 => ?_) (fun h1 => ?_)
  · try simp only [bs] at h1
    refine W_seq ?_
    refine W_region ?_
    refine Ops_p (p_assign rfl) (lt_dec rfl) ?_
    refine Ops_p (p_assign rfl) (lt_dec rfl) ?_
    refine Ops_nil ?_
    refine W_ret ?_
    refine Exists.intro _ (And.intro (.cons (.tmp rfl) (.cons (.tmp rfl) .nil)) ?_)
    first | rfl | (refine veq_bool ?_; simp_all; done) | (refine veq_bool ?_; simp; omega) | (refine veq_bool ?_; rw [eq_comm, decide_eq_false_iff_not]; omega) | (refine veq_bool ?_; rw [eq_comm, decide_eq_true_iff]; omega) | (refine veq_int ?_; omega) | (refine veq_arr8 fun j hj => ?_; (try dsimp only); first | (simp; done) | (simp; omega) | ((repeat' split) <;> first | rfl | (exfalso; omega) | (congr 1; omega) | (simp_all; done))) | ((rw [h1]; rfl))
  · try simp only [bs] at h1
    refine W_skip ?_
    refine W_seq ?_
    refine W_region ?_
    refine Ops_p (p_move rfl) (lt_dec rfl) ?_
    refine Ops_q (q_call en_spec_l03Text rfl (w_spec_l03Text h1) (Vw.rd m0).v) (lt_dec rfl) ?_
    refine Ops_p (p_assign rfl) (lt_dec rfl) ?_
    refine Ops_p (p_assign rfl) (lt_dec rfl) ?_
    refine Ops_nil ?_
    refine W_ret ?_
    refine Exists.intro _ (And.intro (.cons (.tmp rfl) (.cons (.tmp rfl) .nil)) ?_)
    first | rfl | (refine veq_bool ?_; simp_all; done) | (refine veq_bool ?_; simp; omega) | (refine veq_bool ?_; rw [eq_comm, decide_eq_false_iff_not]; omega) | (refine veq_bool ?_; rw [eq_comm, decide_eq_true_iff]; omega) | (refine veq_int ?_; omega) | (refine veq_arr8 fun j hj => ?_; (try dsimp only); first | (simp; done) | (simp; omega) | ((repeat' split) <;> first | rfl | (exfalso; omega) | (congr 1; omega) | (simp_all; done))) | ((rw [h1]; rfl))
end Go.Proofs.Ytdcpggdbjllmpaa
