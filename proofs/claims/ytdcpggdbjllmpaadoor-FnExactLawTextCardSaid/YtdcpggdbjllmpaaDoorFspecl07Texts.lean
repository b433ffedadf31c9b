/- What the Go function spec.l07Texts does, shown of its loaded text; its conditions stand in the statement. -/
import Derived.Test.YtdcpggdbjllmpaaDoorTy
import Derived.Test.YtdcpggdbjllmpaaDoorGx14
import Derived.Test.YtdcpggdbjllmpaaDoorGx30
import Derived.Test.YtdcpggdbjllmpaaDoorM37
namespace Go.Proofs.YtdcpggdbjllmpaaDoor
open Go Gx
set_option linter.unusedVariables false
theorem en_spec_l07Texts : Enters Tryd.prog 7 := enters_of Tryd.func7 (by kernel_rfl) (by kernel_rfl)
set_option maxRecDepth 100000 in
theorem w_spec_l07Texts   : FR Tryd.prog 7 (vals []) [] 9 (strsR lawT) := by
  refine CF_intro (rs := [.tmp 0]) tt tok Tryd.func7 rfl rfl rfl (by first | rfl | assumption) fun w => ?_
  refine W_seq ?_
  refine W_region ?_
  refine Ops_p (p_assign rfl) (lt_dec rfl) ?_
  refine Ops_nil ?_
  refine W_seq ?_
  refine W_region ?_
  refine Ops_x rfl (x_buildSlice rfl rfl rfl rfl rfl rfl rfl rfl (Nat.le_of_ble_eq_true rfl) (lt_dec rfl) fun b1_1 => ?_)
  refine Ops_p (p_assign rfl) (lt_dec rfl) ?_
  refine Ops_nil ?_
  refine W_ret ?_
  refine FR_post' (.cons (.tmp rfl) .nil) m0 ?_ ?_
  · rfl
  · rfl
end Go.Proofs.YtdcpggdbjllmpaaDoor
