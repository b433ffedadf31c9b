/- What the Go function spec.BackTriple does, shown of its loaded text; its conditions stand in the statement. -/
import Derived.Test.YtebcapplclgaeaaTy
import Derived.Test.YtebcapplclgaeaaFspecl02Back
import Derived.Test.YtebcapplclgaeaaFspecl02Is
import Derived.Test.YtebcapplclgaeaaM2
namespace Go.Proofs.Ytebcapplclgaeaa
open Go Gx
set_option linter.unusedVariables false
theorem en_spec_BackTriple : Enters Try.prog 43 := enters_of Try.func43 (by kernel_rfl) (by kernel_rfl)
set_option maxRecDepth 100000 in
theorem w_spec_BackTriple {a b c : Nat → Fin 256} {n : Int}  : CR Try.prog 43 (vals [.agg [.arr8 10 a, .arr8 10 b, .arr8 10 c], .int .i64 n]) [] (.tup [.agg [.arr8 10 (bif triOk a b c n then backT a n.toNat else fun _ => 0), .arr8 10 (bif triOk a b c n then backT b n.toNat else fun _ => 0), .arr8 10 (bif triOk a b c n then backT c n.toNat else fun _ => 0)], .int .i64 (bif triOk a b c n then 0 else 1)]) := by
  refine CR_intro (rs := [.cell 4 65, .tmp 5]) tt tok Try.func43 rfl rfl rfl (by first | rfl | assumption) fun w => ?_
  refine W_seq ?_
  refine W_region ?_
  refine Ops_x rfl (x_box rfl rfl (lt_dec rfl) fun b2_1 => ?_)
  refine Ops_x rfl (x_alloc rfl (lt_dec rfl) fun b4_1 => ?_)
  refine Ops_p (p_assign rfl) (lt_dec rfl) ?_
  refine Ops_nil ?_
  refine W_seq ?_
  refine W_seq ?_
  refine W_region ?_
  refine Ops_q (q_load rfl rfl m1 rfl (by first | trivial | (first | omega | (dsimp only; omega)) | exact Fin.isLt _ | (dsimp only; omega))) (lt_dec rfl) ?_
  refine Ops_p (p_move rfl) (lt_dec rfl) ?_
  refine Ops_q (q_call en_spec_l02Is rfl (w_spec_l02Is) (View.none _)) (lt_dec rfl) ?_
  refine Ops_p (p_not rfl) (lt_dec rfl) ?_
  refine Ops_nil ?_
  refine W_cond rfl (fun h1 => ?_) (fun h1 => ?_)
  · try simp only [bs] at h1
    refine W_seq ?_
    refine W_region ?_
    refine Ops_p (p_build rfl rfl rfl rfl (by first | trivial | (first | omega | (dsimp only; omega)) | exact Fin.isLt _ | (dsimp only; omega))) (lt_dec rfl) ?_
    refine Ops_x rfl (x_store rfl rfl rfl rfl rfl HpRep.head rfl (by first | trivial | (first | (first | omega | (dsimp only; omega)) | exact Fin.isLt _)) ?_)
    refine Ops_p (p_assign rfl) (lt_dec rfl) ?_
    refine Ops_nil ?_
    refine W_ret ?_
    refine Exists.intro _ (And.intro (.cons (.cell rfl rfl m0 rfl trivial) (.cons (.tmp rfl) .nil)) ?_)
    rw [h1]; rfl
  · try simp only [bs] at h1
    refine W_skip ?_
    refine W_seq ?_
    refine W_region ?_
    refine Ops_q (q_load rfl rfl m1 rfl (by first | trivial | (first | omega | (dsimp only; omega)) | exact Fin.isLt _ | (dsimp only; omega))) (lt_dec rfl) ?_
    refine Ops_p (p_move rfl) (lt_dec rfl) ?_
    refine Ops_q (q_call en_spec_l02Back rfl (w_spec_l02Back (triOk_a h1) (triOk_b h1) (triOk_c h1)) (View.none _)) (lt_dec rfl) ?_
    refine Ops_x rfl (x_store rfl rfl rfl rfl rfl HpRep.head rfl (by first | trivial | (first | (first | omega | (dsimp only; omega)) | exact Fin.isLt _)) ?_)
    refine Ops_p (p_assign rfl) (lt_dec rfl) ?_
    refine Ops_nil ?_
    refine W_ret ?_
    refine Exists.intro _ (And.intro (.cons (.cell rfl rfl m0 rfl trivial) (.cons (.tmp rfl) .nil)) ?_)
    rw [h1]; rfl
end Go.Proofs.Ytebcapplclgaeaa
