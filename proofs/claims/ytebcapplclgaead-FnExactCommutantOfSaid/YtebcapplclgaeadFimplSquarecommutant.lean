/- What the Go function (impl.Square).commutant does, shown of its loaded text; its conditions stand in the statement. -/
import Derived.Test.YtebcapplclgaeadTy
import Derived.Test.YtebcapplclgaeadFimplSquarecommutantX1
import Derived.Test.YtebcapplclgaeadFimplSquarethose
import Derived.Test.YtebcapplclgaeadM14
namespace Go.Proofs.Ytebcapplclgaead
open Go Gx
set_option linter.unusedVariables false
theorem en_impl_Square_commutant : Enters Try.prog 87 := enters_of Try.func87 (by kernel_rfl) (by kernel_rfl)
set_option maxRecDepth 100000 in
theorem w_impl_Square_commutant {t : Nat → Fin 256} {n : Int} (hs : SqP n t) : CR Try.prog 87 (vals [.agg [.int .i64 n, .arr8 100 t]]) [] (.int .i64 ((bsP (comB t n.toNat) n.toNat : Nat) : Int)) := by
  refine CR_intro (rs := [.tmp 2]) tt tok Try.func87 rfl rfl rfl (by first | rfl | assumption) fun w => ?_
  have hn := hs.1
  refine W_seq ?_
  refine W_region ?_
  refine Ops_x rfl (x_box rfl rfl (lt_dec rfl) fun b1_1 => ?_)
  refine Ops_p (p_assign rfl) (lt_dec rfl) ?_
  refine Ops_nil ?_
  refine W_seq ?_
  refine W_region ?_
  refine Ops_q (q_load rfl rfl m0 rfl (by first | trivial | (first | omega | (dsimp only; omega)) | exact Fin.isLt _ | (dsimp only; omega))) (lt_dec rfl) ?_
  refine Ops_p (p_makeFunc rfl rfl) (lt_dec rfl) ?_
  refine Ops_q (q_call en_impl_Square_those rfl (w_impl_Square_those (need := [.rvar b1_1 (.agg [.int .i64 n, .arr8 100 t])]) (P := comB t n.toNat) hn en_impl_Square_commutantX1 rfl (fun a ha => w_impl_Square_commutantX1 (bq := b1_1) hs (by omega))) (View.var m0)) (lt_dec rfl) ?_
  refine Ops_p (p_assign rfl) (lt_dec rfl) ?_
  refine Ops_nil ?_
  refine W_ret ?_
  refine Exists.intro _ (And.intro (.cons (.tmp rfl) .nil) ?_)
  rfl
end Go.Proofs.Ytebcapplclgaead
