/- What the Go function impl.CommutantOf does, shown of its loaded text; its conditions stand in the statement. -/
import Derived.Test.YtebcapplclgaeadTy
import Derived.Test.YtebcapplclgaeadFimplSquarecommutant
import Derived.Test.YtebcapplclgaeadFimplloopSet
import Derived.Test.YtebcapplclgaeadGx12
import Derived.Test.YtebcapplclgaeadGx17
import Derived.Test.YtebcapplclgaeadM14
namespace Go.Proofs.Ytebcapplclgaead
open Go Gx
set_option linter.unusedVariables false
theorem en_impl_CommutantOf : Enters Try.prog 35 := enters_of Try.func35 (by kernel_rfl) (by kernel_rfl)
set_option maxRecDepth 100000 in
theorem w_impl_CommutantOf {t : Nat → Fin 256} {n : Int}  : CT (X := V1) Try.prog 35 (vals [.agg [.int .i64 n, .arr8 100 t]]) [] [] (fun x => True) (fun x => .tup [.raw x.1 x.2, .int .i64 (bif isLp n t then 0 else 1)]) (fun x => [own x.1 2 (.ints .i64 (cmL n t))]) := by
  refine CT_intro (rs := [.tmp 2, .tmp 3]) tt tok Try.func35 rfl rfl rfl (by first | rfl | assumption) fun w => ?_
  show W _ _ _ ⟨tmOf 0 [.agg [.int .i64 n, .arr8 100 t]], []⟩
  refine W_seq ?_
  refine W_region ?_
  refine Ops_x rfl (x_box rfl rfl (lt_dec rfl) fun b1_1 => ?_)
  refine Ops_p (p_assign rfl) (lt_dec rfl) ?_
  refine Ops_p (p_assign rfl) (lt_dec rfl) ?_
  refine Ops_nil ?_
  refine W_seq ?_
  refine W_region ?_
  refine Ops_q (q_load rfl rfl m0 rfl (by first | trivial | (first | omega | (dsimp only; omega)) | exact Fin.isLt _ | (dsimp only; omega))) (lt_dec rfl) ?_
  refine Ops_x rfl (x_callT en_impl_loopSet rfl (w_impl_loopSet (L := cmL n t) (s := bsP (comB t n.toNat) n.toNat) en_impl_Square_commutant (fun h => bsP_10 (by have := (lp_sq h).1; omega)) (fun h => w_impl_Square_commutant (lp_sq h)) cmL_set cmL_f) HpDels.nil (Vw.none _) (fun _ => (HpDels.cons HpDel.head HpDels.nil)) (lt_dec rfl) fun x5_1 _ => ?_)
  refine Ops_p (p_extract rfl rfl) (lt_dec rfl) ?_
  refine Ops_p (p_extract rfl rfl) (lt_dec rfl) ?_
  refine Ops_p (p_assign rfl) (lt_dec rfl) ?_
  refine Ops_p (p_assign rfl) (lt_dec rfl) ?_
  refine Ops_nil ?_
  refine W_ret ?_
  refine Exists.intro _ (And.intro (.cons (.tmp rfl) (.cons (.tmp rfl) .nil)) (Exists.intro ⟨x5_1.1, x5_1.2⟩ (And.intro ?_ (And.intro ?_ (And.intro (.cons HpDel.head rfl (fun _ h => h) .nil) rfl)))))
  · trivial
  · rfl
end Go.Proofs.Ytebcapplclgaead
