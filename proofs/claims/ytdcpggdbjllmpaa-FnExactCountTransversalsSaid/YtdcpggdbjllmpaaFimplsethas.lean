/- What the Go function (impl.set).has does, shown of its loaded text; its conditions stand in the statement. -/
import Derived.Test.YtdcpggdbjllmpaaTy
import Derived.Test.YtdcpggdbjllmpaaM14
namespace Go.Proofs.Ytdcpggdbjllmpaa
open Go Gx
set_option linter.unusedVariables false
theorem en_impl_set_has : Enters Try.prog 95 := enters_of Try.func95 (by kernel_rfl) (by kernel_rfl)
set_option maxRecDepth 100000 in
theorem w_impl_set_has {s : Nat} {x : Fin 256} (hs : s < 1024) (hx : x.val ≤ 60) : CR Try.prog 95 (vals [.int .i64 (s : Int), .u8 x]) [] (.bool (s.testBit x.val)) := by
  refine CR_intro (rs := [.tmp 4]) tt tok Try.func95 rfl rfl rfl (by first | rfl | assumption) fun w => ?_
  refine W_seq ?_
  refine W_region ?_
  refine Ops_p (p_assign rfl) (lt_dec rfl) ?_
  refine Ops_nil ?_
  refine W_seq ?_
  refine W_region ?_
  refine Ops_p (p_move rfl) (lt_dec rfl) ?_
  refine Ops_p (p_move rfl) (lt_dec rfl) ?_
  refine Ops_p ((p_shr rfl rfl (by omega) (by simp only [IntKind.bits]; omega)).eq veq_shr) (lt_dec rfl) ?_
  refine Ops_p (p_and1 rfl rfl (shr_b hs)) (lt_dec rfl) ?_
  refine Ops_p (p_eql rfl rfl) (lt_dec rfl) ?_
  refine Ops_p (p_assign rfl) (lt_dec rfl) ?_
  refine Ops_nil ?_
  refine W_ret ?_
  refine Exists.intro _ (And.intro (.cons (.tmp rfl) .nil) ?_)
  exact veq_bool has_eq
end Go.Proofs.Ytdcpggdbjllmpaa
