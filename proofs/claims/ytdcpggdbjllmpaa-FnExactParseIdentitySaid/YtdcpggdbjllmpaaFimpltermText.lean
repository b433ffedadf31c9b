/- What the Go function impl.termText does, shown of its loaded text; its conditions stand in the statement. -/
import Derived.Test.YtdcpggdbjllmpaaTy
import Derived.Test.YtdcpggdbjllmpaaFimplfoldedGstring
import Derived.Test.YtdcpggdbjllmpaaGx14
import Derived.Test.YtdcpggdbjllmpaaGx24
import Derived.Test.YtdcpggdbjllmpaaGx27
import Derived.Test.YtdcpggdbjllmpaaM33
namespace Go.Proofs.Ytdcpggdbjllmpaa
open Go Gx
set_option linter.unusedVariables false
theorem en_impl_termText : Enters Try.prog 39 := enters_of Try.func39 (by kernel_rfl) (by kernel_rfl)
set_option maxRecDepth 100000 in
theorem w_impl_termText {a : Value} {ha : a.oneCell' = true} {l : List (Fin 256)} (hT : isTerm l = true) : CR Try.prog 39 (vals [.raw a ha]) [rd a (.u8s l)] (.raw (.string (strB (txT l))) rfl) := by
  refine CR_intro (rs := [.tmp 2]) tt tok Try.func39 rfl rfl rfl (by first | rfl | assumption) fun w => ?_
  refine W_seq ?_
  refine W_region ?_
  refine Ops_p (p_assign rfl) (lt_dec rfl) ?_
  refine Ops_nil ?_
  refine W_seq ?_
  refine W_region ?_
  refine Ops_p (p_move rfl) (lt_dec rfl) ?_
  refine Ops_q (q_call en_impl_foldedGstring rfl (w_impl_foldedGstring (by first | assumption | (first | omega | (dsimp only; omega)) | (simp; done) | decide)) (Vw.rd m0).v) (lt_dec rfl) ?_
  refine Ops_p (p_assign rfl) (lt_dec rfl) ?_
  refine Ops_nil ?_
  refine W_ret ?_
  refine Exists.intro _ (And.intro (.cons (.tmp rfl) .nil) ?_)
  rfl
end Go.Proofs.Ytdcpggdbjllmpaa
