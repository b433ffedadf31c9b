/- What the Go function impl.isHomomorphism does, shown of its loaded text; its conditions stand in the statement. -/
import Derived.Test.YtebcapplclgaeacTy
import Derived.Test.YtebcapplclgaeacFimplSquareforPairsVR
import Derived.Test.YtebcapplclgaeacFimplisHomomorphismX1
import Derived.Test.YtebcapplclgaeacM18
namespace Go.Proofs.Ytebcapplclgaeac
open Go Gx
set_option linter.unusedVariables false
theorem en_impl_isHomomorphism : Enters Try.prog 78 := enters_of Try.func78 (by kernel_rfl) (by kernel_rfl)
set_option maxRecDepth 100000 in
theorem w_impl_isHomomorphism {t u : Nat → Fin 256} {n m : Int} {a : Value} {ha : a.oneCell' = true} {l : List Int} (g1 : SqP n t) (g2 : SqP m u) (hk : okI n m l = true) : CR Try.prog 78 (vals [.agg [.int .i64 n, .arr8 100 t], .agg [.int .i64 m, .arr8 100 u], .raw a ha]) [rd a (.ints .i64 l)] (.bool (allP n.toNat (homP t u l))) := by
  refine CR_intro (rs := [.tmp 6]) tt tok Try.func78 rfl rfl rfl (by first | rfl | assumption) fun w => ?_
  refine W_seq ?_
  refine W_region ?_
  refine Ops_x rfl (x_box rfl rfl (lt_dec rfl) fun b3_1 => ?_)
  refine Ops_x rfl (x_box rfl rfl (lt_dec rfl) fun b4_1 => ?_)
  refine Ops_x rfl (x_box rfl rfl (lt_dec rfl) fun b5_1 => ?_)
  refine Ops_p (p_assign rfl) (lt_dec rfl) ?_
  refine Ops_nil ?_
  refine W_seq ?_
  refine W_region ?_
  refine Ops_q (q_load rfl rfl m2 rfl (by first | trivial | (first | omega | (dsimp only; omega)) | exact Fin.isLt _ | (dsimp only; omega))) (lt_dec rfl) ?_
  refine Ops_p (p_makeFunc rfl rfl) (lt_dec rfl) ?_
  refine Ops_q (q_call en_impl_Square_forPairsVR rfl (w_impl_Square_forPairsVR (need := [.rvar b4_1 (.agg [.int .i64 m, .arr8 100 u]), .rvar b5_1 (.raw a ha), .rvar b3_1 (.agg [.int .i64 n, .arr8 100 t]), rd a (.ints .i64 l)]) (p := homP t u l) g1.1 en_impl_isHomomorphismX1 rfl (fun i j hi hj => w_impl_isHomomorphismX1 (br := b4_1) (bl := b5_1) (bq := b3_1) g1 g2 hk (by omega) (by omega))) (Vw.cons (Vw.var m1) (Vw.cons (Vw.var m0) (Vw.cons (Vw.var m2) (Vw.rd m3)))).v) (lt_dec rfl) ?_
  refine Ops_p (p_assign rfl) (lt_dec rfl) ?_
  refine Ops_nil ?_
  refine W_ret ?_
  refine Exists.intro _ (And.intro (.cons (.tmp rfl) .nil) ?_)
  rfl
end Go.Proofs.Ytebcapplclgaeac
