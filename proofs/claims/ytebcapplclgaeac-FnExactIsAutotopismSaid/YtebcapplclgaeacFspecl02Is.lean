/- What the Go function spec.l02Is does, shown of its loaded text; its conditions stand in the statement. -/
import Derived.Test.YtebcapplclgaeacTy
import Derived.Test.YtebcapplclgaeacFspecl01Perm
import Derived.Test.YtebcapplclgaeacM2
namespace Go.Proofs.Ytebcapplclgaeac
open Go Gx
set_option linter.unusedVariables false
theorem en_spec_l02Is : Enters Try.prog 104 := enters_of Try.func104 (by kernel_rfl) (by kernel_rfl)
set_option maxRecDepth 100000 in
theorem w_spec_l02Is {a b c : Nat → Fin 256} {n : Int}  : CR Try.prog 104 (vals [.agg [.arr8 10 a, .arr8 10 b, .arr8 10 c], .int .i64 n]) [] (.bool (triOk a b c n)) := by
  refine CR_intro (rs := [.tmp 4]) tt tok Try.func104 rfl rfl rfl (by first | rfl | assumption) fun w => ?_
  refine W_seq ?_
  refine W_region ?_
  refine Ops_x rfl (x_box rfl rfl (lt_dec rfl) fun b2_1 => ?_)
  refine Ops_p (p_assign rfl) (lt_dec rfl) ?_
  refine Ops_nil ?_
  refine W_seq ?_
  refine W_region ?_
  refine Ops_p (p_fieldAddr rfl rfl rfl rfl rfl rfl) (lt_dec rfl) ?_
  refine Ops_q (q_load rfl rfl m0 rfl (by first | trivial | (first | omega | (dsimp only; omega)) | exact Fin.isLt _ | (dsimp only; omega))) (lt_dec rfl) ?_
  refine Ops_p (p_move rfl) (lt_dec rfl) ?_
  refine Ops_q (q_call en_spec_l01Perm rfl (w_spec_l01Perm) (View.none _)) (lt_dec rfl) ?_
  refine Ops_p (p_move rfl) (lt_dec rfl) ?_
  refine Ops_guard rfl rfl (lt_dec rfl) (fun hg1 => ?_) (fun hg1 => ?_)
  · try simp only [bs] at hg1
    refine Ops_p (p_fieldAddr rfl rfl rfl rfl rfl rfl) (lt_dec rfl) ?_
    refine Ops_guard_t rfl rfl (lt_dec rfl) ?_
    refine Ops_q (q_load rfl rfl m0 rfl (by first | trivial | (first | omega | (dsimp only; omega)) | exact Fin.isLt _ | (dsimp only; omega))) (lt_dec rfl) ?_
    refine Ops_guard_t rfl rfl (lt_dec rfl) ?_
    refine Ops_p (p_move rfl) (lt_dec rfl) ?_
    refine Ops_guard_t rfl rfl (lt_dec rfl) ?_
    refine Ops_q (q_call en_spec_l01Perm rfl (w_spec_l01Perm) (View.none _)) (lt_dec rfl) ?_
    refine Ops_p (p_pick_t rfl rfl) (lt_dec rfl) ?_
    refine Ops_p (p_move rfl) (lt_dec rfl) ?_
    refine Ops_guard rfl rfl (lt_dec rfl) (fun hg2 => ?_) (fun hg2 => ?_)
    · try simp only [bs] at hg2
      refine Ops_p (p_fieldAddr rfl rfl rfl rfl rfl rfl) (lt_dec rfl) ?_
      refine Ops_guard_t rfl rfl (lt_dec rfl) ?_
      refine Ops_q (q_load rfl rfl m0 rfl (by first | trivial | (first | omega | (dsimp only; omega)) | exact Fin.isLt _ | (dsimp only; omega))) (lt_dec rfl) ?_
      refine Ops_guard_t rfl rfl (lt_dec rfl) ?_
      refine Ops_p (p_move rfl) (lt_dec rfl) ?_
      refine Ops_guard_t rfl rfl (lt_dec rfl) ?_
      refine Ops_q (q_call en_spec_l01Perm rfl (w_spec_l01Perm) (View.none _)) (lt_dec rfl) ?_
      refine Ops_p (p_pick_t rfl rfl) (lt_dec rfl) ?_
      refine Ops_p (p_assign rfl) (lt_dec rfl) ?_
      refine Ops_nil ?_
      refine W_ret ?_
      refine Exists.intro _ (And.intro (.cons (.tmp rfl) .nil) ?_)
      refine veq_bool ?_; unfold triOk; first | (simp_all; done) | rfl
    · try simp only [bs] at hg2
      refine Ops_guard_f rfl rfl rfl (lt_dec rfl) ?_
      refine Ops_guard_f rfl rfl rfl (lt_dec rfl) ?_
      refine Ops_guard_f rfl rfl rfl (lt_dec rfl) ?_
      refine Ops_p (p_pick_f rfl rfl) (lt_dec rfl) ?_
      refine Ops_p (p_assign rfl) (lt_dec rfl) ?_
      refine Ops_nil ?_
      refine W_ret ?_
      refine Exists.intro _ (And.intro (.cons (.tmp rfl) .nil) ?_)
      refine veq_bool ?_; unfold triOk; first | (simp_all; done) | rfl
  · try simp only [bs] at hg1
    refine Ops_guard_f rfl rfl rfl (lt_dec rfl) ?_
    refine Ops_guard_f rfl rfl rfl (lt_dec rfl) ?_
    refine Ops_guard_f rfl rfl rfl (lt_dec rfl) ?_
    refine Ops_p (p_pick_f rfl rfl) (lt_dec rfl) ?_
    refine Ops_p (p_move rfl) (lt_dec rfl) ?_
    refine Ops_guard_f rfl rfl rfl (lt_dec rfl) ?_
    refine Ops_guard_f rfl rfl rfl (lt_dec rfl) ?_
    refine Ops_guard_f rfl rfl rfl (lt_dec rfl) ?_
    refine Ops_guard_f rfl rfl rfl (lt_dec rfl) ?_
    refine Ops_p (p_pick_f rfl rfl) (lt_dec rfl) ?_
    refine Ops_p (p_assign rfl) (lt_dec rfl) ?_
    refine Ops_nil ?_
    refine W_ret ?_
    refine Exists.intro _ (And.intro (.cons (.tmp rfl) .nil) ?_)
    refine veq_bool ?_; unfold triOk; first | (simp_all; done) | rfl
end Go.Proofs.Ytebcapplclgaeac
