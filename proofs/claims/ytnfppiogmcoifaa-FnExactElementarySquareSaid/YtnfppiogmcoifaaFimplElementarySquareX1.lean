/- What the Go function impl.ElementarySquare$1 does, shown of its loaded text; its conditions stand in the statement. -/
import Derived.Test.YtnfppiogmcoifaaTy
import Derived.Test.YtnfppiogmcoifaaM3
namespace Go.Proofs.Ytnfppiogmcoifaa
open Go Gx
set_option linter.unusedVariables false
theorem en_impl_ElementarySquareX1 : Enters Try.prog 52 := enters_of Try.func52 (by kernel_rfl) (by kernel_rfl)
set_option maxRecDepth 100000 in
theorem w_impl_ElementarySquareX1 {x y : Nat} (hx : x < 8) (hy : y < 8) : CR Try.prog 52 (vals [.int .u8 (x : Int), .int .u8 (y : Int)]) [] (.u8 (elm x y)) := by
  refine CR_intro (rs := [.tmp 4]) tt tok Try.func52 rfl rfl rfl (by first | rfl | assumption) fun w => ?_
  refine W_seq ?_
  refine W_region ?_
  refine Ops_p (p_assign rfl) (lt_dec rfl) ?_
  refine Ops_nil ?_
  refine W_seq ?_
  refine W_region ?_
  refine Ops_p (p_move rfl) (lt_dec rfl) ?_
  refine Ops_p (p_move rfl) (lt_dec rfl) ?_
  refine Ops_p (p_xor rfl rfl (by omega) (by omega) ⟨by omega, by omega⟩ ⟨by omega, by omega⟩ (xor_u8 hx hy)) (lt_dec rfl) ?_
  refine Ops_p (p_assign rfl) (lt_dec rfl) ?_
  refine Ops_nil ?_
  refine W_ret ?_
  refine Exists.intro _ (And.intro (.cons (.tmp rfl) .nil) ?_)
  exact veq_byte (n := x ^^^ y) (Nat.lt_trans (xor_lt8 hx hy) (by omega))
end Go.Proofs.Ytnfppiogmcoifaa
