/- What the Go function spec.ParseSquare does, shown of its loaded text; its conditions stand in the statement. -/
import Derived.Test.YtdcpggdbjllmpaaTy
import Derived.Test.YtdcpggdbjllmpaaFspecl01Read
import Derived.Test.YtdcpggdbjllmpaaGx12
import Derived.Test.YtdcpggdbjllmpaaGx27
import Derived.Test.YtdcpggdbjllmpaaGx31
import Derived.Test.YtdcpggdbjllmpaaM39
namespace Go.Proofs.Ytdcpggdbjllmpaa
open Go Gx
set_option linter.unusedVariables false
theorem en_spec_ParseSquare : Enters Try.prog 25 := enters_of Try.func25 (by kernel_rfl) (by kernel_rfl)
set_option maxRecDepth 100000 in
theorem w_spec_ParseSquare {s : List (Fin 256)} (hs : s.length ≤ 1048576) : CR Try.prog 25 (vals [.raw (.string (strB s)) rfl]) [] (.tup [.agg [.int .i64 (psR s).1, .arr8 100 (psR s).2], .int .i64 (psK s)]) := by
  refine CR_intro (rs := [.cell 2 45, .tmp 3]) tt tok Try.func25 rfl rfl rfl (by first | rfl | assumption) fun w => ?_
  refine W_seq ?_
  refine W_region ?_
  refine Ops_x rfl (x_alloc rfl (lt_dec rfl) fun b2_1 => ?_)
  refine Ops_p (p_assign rfl) (lt_dec rfl) ?_
  refine Ops_nil ?_
  refine W_seq ?_
  refine W_region ?_
  refine Ops_p (p_move rfl) (lt_dec rfl) ?_
  refine Ops_x rfl (x_callT en_spec_l01Read rfl (w_spec_l01Read (by first | assumption | (first | omega | (dsimp only; omega)) | (simp; done) | decide)) HpDels.nil (Vw.none _) (fun _ => HpDels.nil) (lt_dec rfl) fun x8_1 hx1 => ?_)
  refine Ops_p (p_move rfl) (lt_dec rfl) ?_
  refine Ops_p (p_extract rfl rfl) (lt_dec rfl) ?_
  refine Ops_p (p_extract rfl rfl) (lt_dec rfl) ?_
  refine Ops_x rfl (x_alloc rfl (lt_dec rfl) fun b4_1 => ?_)
  refine Ops_x rfl (x_store rfl rfl rfl rfl rfl HpRep.head rfl (by first | trivial | (first | (first | omega | (dsimp only; omega)) | exact Fin.isLt _)) ?_)
  refine Ops_p (p_assign rfl) (lt_dec rfl) ?_
  refine Ops_nil ?_
  refine W_seq ?_
  refine W_seq ?_
  refine W_region ?_
  refine Ops_p (p_move rfl) (lt_dec rfl) ?_
  refine Ops_p (p_not rfl) (lt_dec rfl) ?_
  refine Ops_nil ?_
  refine W_cond rfl (fun h1 => ?_) (fun h1 => ?_)
  · try simp only [bs] at h1
    refine W_seq ?_
    refine W_region ?_
    refine Ops_p (p_build rfl rfl rfl rfl (by first | exact True.intro | trivial | (first | omega | (dsimp only; omega)) | exact Fin.isLt _ | (dsimp only; omega))) (lt_dec rfl) ?_
    refine Ops_x rfl (x_store rfl rfl rfl rfl rfl ((HpRep.head).tail) rfl (by first | trivial | (first | (first | omega | (dsimp only; omega)) | exact Fin.isLt _)) ?_)
    refine Ops_p (p_assign rfl) (lt_dec rfl) ?_
    refine Ops_nil ?_
    refine W_ret ?_
    refine Exists.intro _ (And.intro (.cons (.cell rfl rfl m1 rfl trivial) (.cons (.tmp rfl) .nil)) ?_)
    first | rfl | (refine veq_bool ?_; simp_all; done) | (refine veq_bool ?_; simp; omega) | (refine veq_bool ?_; rw [eq_comm, decide_eq_false_iff_not]; omega) | (refine veq_bool ?_; rw [eq_comm, decide_eq_true_iff]; omega) | (refine veq_int ?_; omega) | (refine veq_arr8 fun j hj => ?_; (try dsimp only); first | (simp; done) | (simp; omega) | ((repeat' split) <;> first | rfl | (exfalso; omega) | (congr 1; omega) | (simp_all; done))) | ((have hb : psB s = false := (by simp_all); exact psq_f hb)) | ((have hb : psB s = true := (by simp_all); exact psq_t (hx1 hb)))
  · try simp only [bs] at h1
    refine W_skip ?_
    refine W_seq ?_
    refine W_region ?_
    refine Ops_q (q_load rfl rfl m0 rfl (by first | exact True.intro | trivial | (first | omega | (dsimp only; omega)) | exact Fin.isLt _ | (dsimp only; omega))) (lt_dec rfl) ?_
    refine Ops_x rfl (x_store rfl rfl rfl rfl rfl ((HpRep.head).tail) rfl (by first | trivial | (first | (first | omega | (dsimp only; omega)) | exact Fin.isLt _)) ?_)
    refine Ops_p (p_assign rfl) (lt_dec rfl) ?_
    refine Ops_nil ?_
    refine W_ret ?_
    refine Exists.intro _ (And.intro (.cons (.cell rfl rfl m1 rfl trivial) (.cons (.tmp rfl) .nil)) ?_)
    first | rfl | (refine veq_bool ?_; simp_all; done) | (refine veq_bool ?_; simp; omega) | (refine veq_bool ?_; rw [eq_comm, decide_eq_false_iff_not]; omega) | (refine veq_bool ?_; rw [eq_comm, decide_eq_true_iff]; omega) | (refine veq_int ?_; omega) | (refine veq_arr8 fun j hj => ?_; (try dsimp only); first | (simp; done) | (simp; omega) | ((repeat' split) <;> first | rfl | (exfalso; omega) | (congr 1; omega) | (simp_all; done))) | ((have hb : psB s = false := (by simp_all); exact psq_f hb)) | ((have hb : psB s = true := (by simp_all); exact psq_t (hx1 hb)))
end Go.Proofs.Ytdcpggdbjllmpaa
