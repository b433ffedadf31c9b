/- What the Go function impl.cyclic does, shown of its loaded text; its conditions stand in the statement. -/
import Derived.Test.YtnfppiogmcoifaaTy
import Derived.Test.YtnfppiogmcoifaaFimplcyclicX1
import Derived.Test.YtnfppiogmcoifaaFimplmade
import Derived.Test.YtnfppiogmcoifaaM3
namespace Go.Proofs.Ytnfppiogmcoifaa
open Go Gx
set_option linter.unusedVariables false
theorem en_impl_cyclic : Enters Try.prog 57 := enters_of Try.func57 (by kernel_rfl) (by kernel_rfl)
set_option maxRecDepth 100000 in
theorem w_impl_cyclic {n : Int} (hn : 1 ≤ n ∧ n ≤ 10) : CR Try.prog 57 (vals [.int .i64 n]) [] (.agg [.int .i64 n, .arr8 100 (part (n).toNat (cyc n) (n).toNat 0)]) := by
  refine CR_intro (rs := [.cell 2 35]) tt tok Try.func57 rfl rfl rfl (by first | rfl | assumption) fun w => ?_
  refine W_seq ?_
  refine W_region ?_
  refine Ops_x rfl (x_box rfl rfl (lt_dec rfl) fun b1_1 => ?_)
  refine Ops_x rfl (x_alloc rfl (lt_dec rfl) fun b2_1 => ?_)
  refine Ops_nil ?_
  refine W_seq ?_
  refine W_region ?_
  refine Ops_q (q_load rfl rfl m1 rfl (by first | trivial | (first | omega | (dsimp only; omega)) | exact Fin.isLt _ | (dsimp only; omega))) (lt_dec rfl) ?_
  refine Ops_p (p_makeFunc rfl rfl) (lt_dec rfl) ?_
  refine Ops_q (q_call en_impl_made rfl (w_impl_made (need := [.rvar b1_1 (.int .i64 n)]) (g := cyc n) (by omega) en_impl_cyclicX1 rfl (fun x y hx hy => w_impl_cyclicX1 hn hx hy)) (View.var m1)) (lt_dec rfl) ?_
  refine Ops_x rfl (x_store rfl rfl rfl rfl rfl HpRep.head rfl (by first | trivial | (first | (first | omega | (dsimp only; omega)) | exact Fin.isLt _)) ?_)
  refine Ops_nil ?_
  refine W_ret ?_
  refine Exists.intro _ (And.intro (.cons (.cell rfl rfl m0 rfl trivial) .nil) ?_)
  rfl
end Go.Proofs.Ytnfppiogmcoifaa
