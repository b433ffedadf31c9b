/- What the Go function impl.isLaw does, shown of its loaded text; its conditions stand in the statement. -/
import Derived.Test.YtdcpggdbjllmpaaDoorTy
import Derived.Test.YtdcpggdbjllmpaaDoorFimplwithin
import Derived.Test.YtdcpggdbjllmpaaDoorGx14
import Derived.Test.YtdcpggdbjllmpaaDoorGx30
import Derived.Test.YtdcpggdbjllmpaaDoorM37
namespace Go.Proofs.YtdcpggdbjllmpaaDoor
open Go Gx
set_option linter.unusedVariables false
theorem en_impl_isLaw : Enters Tryd.prog 8 := enters_of Tryd.func8 (by kernel_rfl) (by kernel_rfl)
set_option maxRecDepth 100000 in
theorem w_impl_isLaw {k : Int}  : CR Tryd.prog 8 (vals [.int .i64 k]) [] (.bool (lawB k)) := by
  refine CR_intro (rs := [.tmp 2]) tt tok Tryd.func8 rfl rfl rfl (by first | rfl | assumption) fun w => ?_
  refine W_seq ?_
  refine W_region ?_
  refine Ops_p (p_assign rfl) (lt_dec rfl) ?_
  refine Ops_nil ?_
  refine W_seq ?_
  refine W_region ?_
  refine Ops_p (p_move rfl) (lt_dec rfl) ?_
  refine Ops_q (q_call en_impl_within rfl (w_impl_within) (View.none _)) (lt_dec rfl) ?_
  refine Ops_p (p_assign rfl) (lt_dec rfl) ?_
  refine Ops_nil ?_
  refine W_ret ?_
  refine Exists.intro _ (And.intro (.cons (.tmp rfl) .nil) ?_)
  rfl
end Go.Proofs.YtdcpggdbjllmpaaDoor
