/- What the Go function math/bits.OnesCount does, shown of its loaded text; its conditions stand in the statement. -/
import Derived.Test.YtebcapplclgaeadTy
import Derived.Test.YtebcapplclgaeadFmathbitsOnesCount64
import Derived.Test.YtebcapplclgaeadM25
namespace Go.Proofs.Ytebcapplclgaead
open Go Gx
set_option linter.unusedVariables false
theorem en_math_bits_OnesCount : Enters Try.prog 149 := enters_of Try.func149 (by kernel_rfl) (by kernel_rfl)
set_option maxRecDepth 100000 in
theorem w_math_bits_OnesCount {s : Nat} (hs : s < 1024) : CR Try.prog 149 (vals [.int .u64 (s : Int)]) [] (.int .i64 (((setL s 10).length : Nat) : Int)) := by
  refine CR_intro (rs := [.tmp 2]) tt tok Try.func149 rfl rfl rfl (by first | rfl | assumption) fun w => ?_
  refine W_seq ?_
  refine W_region ?_
  refine Ops_p (p_assign rfl) (lt_dec rfl) ?_
  refine Ops_nil ?_
  refine W_seq ?_
  refine W_false rfl ?_
  refine W_skip ?_
  refine W_seq ?_
  refine W_region ?_
  refine Ops_p (p_move rfl) (lt_dec rfl) ?_
  refine Ops_q (q_call en_math_bits_OnesCount64 rfl (w_math_bits_OnesCount64 (by first | assumption | (first | omega | (dsimp only; omega)) | (simp; done) | decide)) (View.none _)) (lt_dec rfl) ?_
  refine Ops_p (p_assign rfl) (lt_dec rfl) ?_
  refine Ops_nil ?_
  refine W_ret ?_
  refine Exists.intro _ (And.intro (.cons (.tmp rfl) .nil) ?_)
  rfl
end Go.Proofs.Ytebcapplclgaead
