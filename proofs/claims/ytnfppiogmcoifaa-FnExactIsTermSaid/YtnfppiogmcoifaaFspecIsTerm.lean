/- What the Go function spec.IsTerm does, shown of its loaded text; its conditions stand in the statement. -/
import Derived.Test.YtnfppiogmcoifaaTy
import Derived.Test.YtnfppiogmcoifaaFspecl03Is
import Derived.Test.YtnfppiogmcoifaaM13
namespace Go.Proofs.Ytnfppiogmcoifaa
open Go Gx
set_option linter.unusedVariables false
theorem en_spec_IsTerm : Enters Try.prog 17 := enters_of Try.func17 (by kernel_rfl) (by kernel_rfl)
set_option maxRecDepth 100000 in
theorem w_spec_IsTerm {a : Value} {ha : a.oneCell' = true} {l : List (Fin 256)} (hl : l.length ≤ 1048576) : CR Try.prog 17 (vals [.raw a ha]) [rd a (.u8s l)] (.bool (isTerm l)) := by
  refine CR_intro (rs := [.tmp 2]) tt tok Try.func17 rfl rfl rfl (by first | rfl | assumption) fun w => ?_
  refine W_seq ?_
  refine W_region ?_
  refine Ops_p (p_assign rfl) (lt_dec rfl) ?_
  refine Ops_nil ?_
  refine W_seq ?_
  refine W_region ?_
  refine Ops_p (p_move rfl) (lt_dec rfl) ?_
  refine Ops_q (q_call en_spec_l03Is rfl (w_spec_l03Is (by first | assumption | (first | omega | (dsimp only; omega)) | (simp; done) | decide)) (Vw.rd m0).v) (lt_dec rfl) ?_
  refine Ops_p (p_assign rfl) (lt_dec rfl) ?_
  refine Ops_nil ?_
  refine W_ret ?_
  refine Exists.intro _ (And.intro (.cons (.tmp rfl) .nil) ?_)
  rfl
end Go.Proofs.Ytnfppiogmcoifaa
