/- What the Go function (impl.cells).complete$1 does, shown of its loaded text; its conditions stand in the statement. -/
import Derived.Test.YtdcpggdbjllmpabTy
import Derived.Test.YtdcpggdbjllmpabGx20
import Derived.Test.YtdcpggdbjllmpabGx28
import Derived.Test.YtdcpggdbjllmpabM24
import Derived.Test.YtdcpggdbjllmpabM34
namespace Go.Proofs.Ytdcpggdbjllmpab
open Go Gx
set_option linter.unusedVariables false
theorem en_impl_cells_completeX1 : Enters Try.prog 97 := enters_of Try.func97 (by kernel_rfl) (by kernel_rfl)
set_option maxRecDepth 100000 in
theorem w_impl_cells_completeX1 {M : SL} {i j : Int} {bv : Nat}  : CR Try.prog 97 (vals [.int .i64 i, .int .i64 j]) [.rvar bv (.agg [.int .i64 ((M.length : Nat) : Int), .arr8 100 (cT M), .arr .i64 10 (fun x => ((cR M x : Nat) : Int)), .arr .i64 10 (fun x => ((cC M x : Nat) : Int))])] (.bool true) := by
  refine CR_intro (rs := [.tmp 4]) tt tok Try.func97 rfl rfl rfl (by first | rfl | assumption) fun w => ?_
  refine W_seq ?_
  refine W_region ?_
  refine Ops_p (p_assign rfl) (lt_dec rfl) ?_
  refine Ops_nil ?_
  refine W_seq ?_
  refine W_region ?_
  refine Ops_p (p_assign rfl) (lt_dec rfl) ?_
  refine Ops_nil ?_
  refine W_ret ?_
  refine Exists.intro _ (And.intro (.cons (.tmp rfl) .nil) ?_)
  rfl
end Go.Proofs.Ytdcpggdbjllmpab
