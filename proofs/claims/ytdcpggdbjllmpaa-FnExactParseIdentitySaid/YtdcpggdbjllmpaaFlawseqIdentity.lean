/- What the Go function laws.eqIdentity does, shown of its loaded text; its conditions stand in the statement. -/
import Derived.Test.YtdcpggdbjllmpaaTy
import Derived.Test.YtdcpggdbjllmpaaFlawseqByteS
import Derived.Test.YtdcpggdbjllmpaaGx14
import Derived.Test.YtdcpggdbjllmpaaGx24
import Derived.Test.YtdcpggdbjllmpaaGx27
import Derived.Test.YtdcpggdbjllmpaaGx28
import Derived.Test.YtdcpggdbjllmpaaM24
import Derived.Test.YtdcpggdbjllmpaaM33
namespace Go.Proofs.Ytdcpggdbjllmpaa
open Go Gx
set_option linter.unusedVariables false
theorem en_laws_eqIdentity : Enters Try.prog 18 := enters_of Try.func18 (by kernel_rfl) (by kernel_rfl)
set_option maxRecDepth 100000 in
theorem w_laws_eqIdentity {a c b d : Value} {ha : a.oneCell' = true} {hc : c.oneCell' = true} {hb : b.oneCell' = true} {hd : d.oneCell' = true} {l m : List (Fin 256)} (hl : l.length ≤ 1048576) (hm : m.length ≤ 1048576) : CR Try.prog 18 (vals [.agg [.raw a ha, .raw c hc], .agg [.raw b hb, .raw d hd]]) [rd a (.u8s l), rd c (.u8s m), rd b (.u8s l), rd d (.u8s m)] (.bool true) := by
  refine CR_intro (rs := [.tmp 4]) tt tok Try.func18 rfl rfl rfl (by first | rfl | assumption) fun w => ?_
  refine W_seq ?_
  refine W_region ?_
  refine Ops_x rfl (x_box rfl rfl (lt_dec rfl) fun b2_1 => ?_)
  refine Ops_x rfl (x_box rfl rfl (lt_dec rfl) fun b3_1 => ?_)
  refine Ops_p (p_assign rfl) (lt_dec rfl) ?_
  refine Ops_nil ?_
  refine W_seq ?_
  refine W_seq ?_
  refine W_region ?_
  refine Ops_p (p_fieldAddr rfl rfl rfl rfl rfl rfl) (lt_dec rfl) ?_
  refine Ops_q (q_load rfl rfl m1 rfl (by first | exact True.intro | trivial | (first | omega | (dsimp only; omega)) | exact Fin.isLt _ | (dsimp only; omega))) (lt_dec rfl) ?_
  refine Ops_p (p_fieldAddr rfl rfl rfl rfl rfl rfl) (lt_dec rfl) ?_
  refine Ops_q (q_load rfl rfl m0 rfl (by first | exact True.intro | trivial | (first | omega | (dsimp only; omega)) | exact Fin.isLt _ | (dsimp only; omega))) (lt_dec rfl) ?_
  refine Ops_q (q_call en_laws_eqByteS rfl (w_laws_eqByteS (by first | assumption | (first | omega | (dsimp only; omega)) | (simp; done) | decide)) (View.cons (Vw.rd m2).v (Vw.rd m4).v rfl rfl)) (lt_dec rfl) ?_
  refine Ops_p (p_not rfl) (lt_dec rfl) ?_
  refine Ops_nil ?_
  refine W_false rfl ?_
  refine W_skip ?_
  refine W_seq ?_
  refine W_seq ?_
  refine W_region ?_
  refine Ops_p (p_fieldAddr rfl rfl rfl rfl rfl rfl) (lt_dec rfl) ?_
  refine Ops_q (q_load rfl rfl m1 rfl (by first | exact True.intro | trivial | (first | omega | (dsimp only; omega)) | exact Fin.isLt _ | (dsimp only; omega))) (lt_dec rfl) ?_
  refine Ops_p (p_fieldAddr rfl rfl rfl rfl rfl rfl) (lt_dec rfl) ?_
  refine Ops_q (q_load rfl rfl m0 rfl (by first | exact True.intro | trivial | (first | omega | (dsimp only; omega)) | exact Fin.isLt _ | (dsimp only; omega))) (lt_dec rfl) ?_
  refine Ops_q (q_call en_laws_eqByteS rfl (w_laws_eqByteS (by first | assumption | (first | omega | (dsimp only; omega)) | (simp; done) | decide)) (View.cons (Vw.rd m3).v (Vw.rd m5).v rfl rfl)) (lt_dec rfl) ?_
  refine Ops_p (p_not rfl) (lt_dec rfl) ?_
  refine Ops_nil ?_
  refine W_false rfl ?_
  refine W_skip ?_
  refine W_seq ?_
  refine W_region ?_
  refine Ops_p (p_assign rfl) (lt_dec rfl) ?_
  refine Ops_nil ?_
  refine W_ret ?_
  refine Exists.intro _ (And.intro (.cons (.tmp rfl) .nil) ?_)
  first | rfl | (refine veq_bool ?_; simp_all; done) | (refine veq_bool ?_; simp; omega) | (refine veq_bool ?_; rw [eq_comm, decide_eq_false_iff_not]; omega) | (refine veq_bool ?_; rw [eq_comm, decide_eq_true_iff]; omega) | (refine veq_int ?_; omega) | (refine veq_arr8 fun j hj => ?_; (try dsimp only); first | (simp; done) | (simp; omega) | ((repeat' split) <;> first | rfl | (exfalso; omega) | (congr 1; omega) | (simp_all; done)))
end Go.Proofs.Ytdcpggdbjllmpaa
