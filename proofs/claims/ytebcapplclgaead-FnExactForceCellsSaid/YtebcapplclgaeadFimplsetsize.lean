/- What the Go function (impl.set).size does, shown of its loaded text; its conditions stand in the statement. -/
import Derived.Test.YtebcapplclgaeadTy
import Derived.Test.YtebcapplclgaeadFmathbitsOnesCount
import Derived.Test.YtebcapplclgaeadM25
namespace Go.Proofs.Ytebcapplclgaead
open Go Gx
set_option linter.unusedVariables false
theorem en_impl_set_size : Enters Try.prog 103 := enters_of Try.func103 (by kernel_rfl) (by kernel_rfl)
set_option maxRecDepth 100000 in
theorem w_impl_set_size {s : Nat} (hs : s < 1024) : CR Try.prog 103 (vals [.int .i64 (s : Int)]) [] (.int .i64 (((setL s 10).length : Nat) : Int)) := by
  refine CR_intro (rs := [.tmp 2]) tt tok Try.func103 rfl rfl rfl (by first | rfl | assumption) fun w => ?_
  refine W_seq ?_
  refine W_region ?_
  refine Ops_p (p_assign rfl) (lt_dec rfl) ?_
  refine Ops_nil ?_
  refine W_seq ?_
  refine W_region ?_
  refine Ops_p (p_move rfl) (lt_dec rfl) ?_
  refine Ops_p (p_conv rfl rfl rfl (by exact ⟨(by first | omega | (dsimp only; omega)), (by first | omega | (dsimp only; omega))⟩)) (lt_dec rfl) ?_
  refine Ops_q (q_call en_math_bits_OnesCount rfl (w_math_bits_OnesCount (by first | assumption | (first | omega | (dsimp only; omega)) | (simp; done) | decide)) (View.none _)) (lt_dec rfl) ?_
  refine Ops_p (p_assign rfl) (lt_dec rfl) ?_
  refine Ops_nil ?_
  refine W_ret ?_
  refine Exists.intro _ (And.intro (.cons (.tmp rfl) .nil) ?_)
  rfl
end Go.Proofs.Ytebcapplclgaead
