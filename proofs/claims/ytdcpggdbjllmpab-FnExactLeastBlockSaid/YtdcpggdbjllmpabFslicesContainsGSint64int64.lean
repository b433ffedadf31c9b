/- What the Go function slices.Contains[[]int64,int64] does, shown of its loaded text; its conditions stand in the statement. -/
import Derived.Test.YtdcpggdbjllmpabTy
import Derived.Test.YtdcpggdbjllmpabFslicesIndexGSint64int64
import Derived.Test.YtdcpggdbjllmpabM30
namespace Go.Proofs.Ytdcpggdbjllmpab
open Go Gx
set_option linter.unusedVariables false
theorem en_slices_ContainsGSint64int64 : Enters Try.prog 90 := enters_of Try.func90 (by kernel_rfl) (by kernel_rfl)
set_option maxRecDepth 100000 in
theorem w_slices_ContainsGSint64int64 {a : Value} {ha : a.oneCell' = true} {l : List Int} {v : Int} (hl : l.length ≤ 1000000) : CR Try.prog 90 (vals [.raw a ha, .int .i64 v]) [rd a (.ints .i64 l)] (.bool (decide (v ∈ l))) := by
  refine CR_intro (rs := [.tmp 4]) tt tok Try.func90 rfl rfl rfl (by first | rfl | assumption) fun w => ?_
  refine W_seq ?_
  refine W_region ?_
  refine Ops_p (p_assign rfl) (lt_dec rfl) ?_
  refine Ops_nil ?_
  refine W_seq ?_
  refine W_region ?_
  refine Ops_p (p_move rfl) (lt_dec rfl) ?_
  refine Ops_p (p_move rfl) (lt_dec rfl) ?_
  refine Ops_q (q_call en_slices_IndexGSint64int64 rfl (w_slices_IndexGSint64int64 (by first | assumption | (first | omega | (dsimp only; omega)) | (simp; done) | decide)) (Vw.rd m0).v) (lt_dec rfl) ?_
  refine Ops_p (p_geq rfl rfl) (lt_dec rfl) ?_
  refine Ops_p (p_assign rfl) (lt_dec rfl) ?_
  refine Ops_nil ?_
  refine W_ret ?_
  refine Exists.intro _ (And.intro (.cons (.tmp rfl) .nil) ?_)
  exact veq_bool ixI_mem
end Go.Proofs.Ytdcpggdbjllmpab
