/- What the Go function (impl.Square).opposite does, shown of its loaded text; its conditions stand in the statement. -/
import Derived.Test.YtebcapplclgaeabTy
import Derived.Test.YtebcapplclgaeabFimplSquareoppositeX1
import Derived.Test.YtebcapplclgaeabFimplmade
import Derived.Test.YtebcapplclgaeabM6
namespace Go.Proofs.Ytebcapplclgaeab
open Go Gx
set_option linter.unusedVariables false
theorem en_impl_Square_opposite : Enters Try.prog 74 := enters_of Try.func74 (by kernel_rfl) (by kernel_rfl)
set_option maxRecDepth 100000 in
theorem w_impl_Square_opposite {t : Nat → Fin 256} {n : Int} (hs : SqP n t) : CR Try.prog 74 (vals [.agg [.int .i64 n, .arr8 100 t]]) [] (.agg [.int .i64 n, .arr8 100 (turned t)]) := by
  refine CR_intro (rs := [.cell 2 31]) tt tok Try.func74 rfl rfl rfl (by first | rfl | assumption) fun w => ?_
  have hn := hs.1
  refine W_seq ?_
  refine W_region ?_
  refine Ops_x rfl (x_box rfl rfl (lt_dec rfl) fun b1_1 => ?_)
  refine Ops_x rfl (x_alloc rfl (lt_dec rfl) fun b2_1 => ?_)
  refine Ops_nil ?_
  refine W_seq ?_
  refine W_region ?_
  refine Ops_p (p_fieldAddr rfl rfl rfl rfl rfl rfl) (lt_dec rfl) ?_
  refine Ops_q (q_load rfl rfl m1 rfl (by first | trivial | (first | omega | (dsimp only; omega)) | exact Fin.isLt _ | (dsimp only; omega))) (lt_dec rfl) ?_
  refine Ops_p (p_makeFunc rfl rfl) (lt_dec rfl) ?_
  refine Ops_q (q_call en_impl_made rfl (w_impl_made (need := [.rvar b1_1 (.agg [.int .i64 n, .arr8 100 t])]) (g := fun x y => t (10 * y + x)) (by omega) en_impl_Square_oppositeX1 rfl (fun x y hx hy => w_impl_Square_oppositeX1 (by omega) (by omega))) (View.var m1)) (lt_dec rfl) ?_
  refine Ops_x rfl (x_store rfl rfl rfl rfl rfl HpRep.head rfl (by first | trivial | (first | (first | omega | (dsimp only; omega)) | exact Fin.isLt _)) ?_)
  refine Ops_nil ?_
  refine W_ret ?_
  refine Exists.intro _ (And.intro (.cons (.cell rfl rfl m0 rfl trivial) .nil) ?_)
  exact veq_agg (ceq_cons rfl (ceq_cons (ceq_arr8 fun k hk => opp_eq hs hk) rfl))
end Go.Proofs.Ytebcapplclgaeab
