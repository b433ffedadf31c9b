/- What the Go function spec.ElementarySquare does, shown of its loaded text; its conditions stand in the statement. -/
import Derived.Test.YtnfppiogmcoifaaTy
import Derived.Test.YtnfppiogmcoifaaFspecl01Elementary
import Derived.Test.YtnfppiogmcoifaaFspecl01In
import Derived.Test.YtnfppiogmcoifaaM3
namespace Go.Proofs.Ytnfppiogmcoifaa
open Go Gx
set_option linter.unusedVariables false
theorem en_spec_ElementarySquare : Enters Try.prog 21 := enters_of Try.func21 (by kernel_rfl) (by kernel_rfl)
set_option maxRecDepth 100000 in
theorem w_spec_ElementarySquare {k : Int}  : CR Try.prog 21 (vals [.int .i64 k]) [] (.tup [.agg [.int .i64 (bif decide (0 ≤ k ∧ k ≤ 3) then (1 * 2 ^ k.toNat : Int) else 0), .arr8 100 (bif decide (0 ≤ k ∧ k ≤ 3) then part ((1 * 2 ^ k.toNat : Int)).toNat elm ((1 * 2 ^ k.toNat : Int)).toNat 0 else fun _ => 0)], .int .i64 (bif decide (0 ≤ k ∧ k ≤ 3) then 0 else 2)]) := by
  refine CR_intro (rs := [.cell 2 35, .tmp 3]) tt tok Try.func21 rfl rfl rfl (by first | rfl | assumption) fun w => ?_
  refine W_seq ?_
  refine W_region ?_
  refine Ops_x rfl (x_alloc rfl (lt_dec rfl) fun b2_1 => ?_)
  refine Ops_p (p_assign rfl) (lt_dec rfl) ?_
  refine Ops_nil ?_
  refine W_seq ?_
  refine W_seq ?_
  refine W_region ?_
  refine Ops_p (p_move rfl) (lt_dec rfl) ?_
  refine Ops_q (q_call en_spec_l01In rfl (w_spec_l01In) (View.none _)) (lt_dec rfl) ?_
  refine Ops_p (p_not rfl) (lt_dec rfl) ?_
  refine Ops_nil ?_
  refine W_cond rfl (fun h1 => ?_) (fun h1 => ?_)
  · try simp only [bs] at h1
    refine W_seq ?_
    refine W_region ?_
    refine Ops_p (p_build rfl rfl rfl rfl (by first | trivial | (first | omega | (dsimp only; omega)) | exact Fin.isLt _ | (dsimp only; omega))) (lt_dec rfl) ?_
    refine Ops_x rfl (x_store rfl rfl rfl rfl rfl HpRep.head rfl (by first | trivial | (first | (first | omega | (dsimp only; omega)) | exact Fin.isLt _)) ?_)
    refine Ops_p (p_assign rfl) (lt_dec rfl) ?_
    refine Ops_nil ?_
    refine W_ret ?_
    refine Exists.intro _ (And.intro (.cons (.cell rfl rfl m0 rfl trivial) (.cons (.tmp rfl) .nil)) ?_)
    first | (rw [decide_eq_true h1]; rfl) | (rw [decide_eq_false h1]; rfl)
  · try simp only [bs] at h1
    refine W_skip ?_
    refine W_seq ?_
    refine W_region ?_
    refine Ops_p (p_move rfl) (lt_dec rfl) ?_
    refine Ops_q (q_call en_spec_l01Elementary rfl (w_spec_l01Elementary h1) (View.none _)) (lt_dec rfl) ?_
    refine Ops_x rfl (x_store rfl rfl rfl rfl rfl HpRep.head rfl (by first | trivial | (first | (first | omega | (dsimp only; omega)) | exact Fin.isLt _)) ?_)
    refine Ops_p (p_assign rfl) (lt_dec rfl) ?_
    refine Ops_nil ?_
    refine W_ret ?_
    refine Exists.intro _ (And.intro (.cons (.cell rfl rfl m0 rfl trivial) (.cons (.tmp rfl) .nil)) ?_)
    first | (rw [decide_eq_true h1]; rfl) | (rw [decide_eq_false h1]; rfl)
end Go.Proofs.Ytnfppiogmcoifaa
