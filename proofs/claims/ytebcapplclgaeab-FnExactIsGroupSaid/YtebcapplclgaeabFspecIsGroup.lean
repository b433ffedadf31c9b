/- What the Go function spec.IsGroup does, shown of its loaded text; its conditions stand in the statement. -/
import Derived.Test.YtebcapplclgaeabTy
import Derived.Test.YtebcapplclgaeabFspecl01Group
import Derived.Test.YtebcapplclgaeabFspecl01Loop
import Derived.Test.YtebcapplclgaeabM6
namespace Go.Proofs.Ytebcapplclgaeab
open Go Gx
set_option linter.unusedVariables false
theorem en_spec_IsGroup : Enters Try.prog 25 := enters_of Try.func25 (by kernel_rfl) (by kernel_rfl)
set_option maxRecDepth 100000 in
theorem w_spec_IsGroup {t : Nat → Fin 256} {n : Int}  : CR Try.prog 25 (vals [.agg [.int .i64 n, .arr8 100 t]]) [] (.bool ((isSq n t && allB n.toNat (unitP t 0)) && allB n.toNat (fun x => ∀ b : Nat, b < n.toNat → ∀ c : Nat, c < n.toNat → asc t x b c))) := by
  refine CR_intro (rs := [.tmp 2]) tt tok Try.func25 rfl rfl rfl (by first | rfl | assumption) fun w => ?_
  refine W_seq ?_
  refine W_region ?_
  refine Ops_x rfl (x_box rfl rfl (lt_dec rfl) fun b1_1 => ?_)
  refine Ops_p (p_assign rfl) (lt_dec rfl) ?_
  refine Ops_nil ?_
  refine W_seq ?_
  refine W_region ?_
  refine Ops_q (q_load rfl rfl m0 rfl (by first | trivial | (first | omega | (dsimp only; omega)) | exact Fin.isLt _ | (dsimp only; omega))) (lt_dec rfl) ?_
  refine Ops_q (q_call en_spec_l01Loop rfl (w_spec_l01Loop) (View.none _)) (lt_dec rfl) ?_
  refine Ops_p (p_move rfl) (lt_dec rfl) ?_
  refine Ops_guard rfl rfl (lt_dec rfl) (fun hg1 => ?_) (fun hg1 => ?_)
  · try simp only [bs] at hg1
    refine Ops_q (q_load rfl rfl m0 rfl (by first | trivial | (first | omega | (dsimp only; omega)) | exact Fin.isLt _ | (dsimp only; omega))) (lt_dec rfl) ?_
    refine Ops_guard_t rfl rfl (lt_dec rfl) ?_
    refine Ops_q (q_call en_spec_l01Group rfl (w_spec_l01Group (of_isSq (Bool.and_eq_true_iff.1 (show (isSq n t && allB n.toNat (unitP t 0)) = true from (by first | assumption | (rw [Bool.and_eq_true]; assumption)))).1)) (View.none _)) (lt_dec rfl) ?_
    refine Ops_p (p_pick_t rfl rfl) (lt_dec rfl) ?_
    refine Ops_p (p_assign rfl) (lt_dec rfl) ?_
    refine Ops_nil ?_
    refine W_ret ?_
    refine Exists.intro _ (And.intro (.cons (.tmp rfl) .nil) ?_)
    first | rfl | (refine veq_bool ?_; simp_all; done) | (refine veq_bool ?_; simp; omega) | (refine veq_bool ?_; rw [eq_comm, decide_eq_false_iff_not]; omega) | (refine veq_bool ?_; rw [eq_comm, decide_eq_true_iff]; omega) | (refine veq_int ?_; omega) | (refine veq_arr8 fun j hj => ?_; (try dsimp only); first | (simp; done) | (simp; omega) | ((repeat' split) <;> first | rfl | (exfalso; omega) | (congr 1; omega) | (simp_all; done))) | ((first | rw [show (isSq n t && allB n.toNat (unitP t 0)) = true from (by first | assumption | (rw [Bool.and_eq_true]; assumption))] | rw [show (isSq n t && allB n.toNat (unitP t 0)) = false from (by first | assumption | (rw [Bool.and_eq_false_iff]; assumption))]); rfl)
  · try simp only [bs] at hg1
    refine Ops_guard_f rfl rfl rfl (lt_dec rfl) ?_
    refine Ops_p (p_pick_f rfl rfl) (lt_dec rfl) ?_
    refine Ops_p (p_assign rfl) (lt_dec rfl) ?_
    refine Ops_nil ?_
    refine W_ret ?_
    refine Exists.intro _ (And.intro (.cons (.tmp rfl) .nil) ?_)
    first | rfl | (refine veq_bool ?_; simp_all; done) | (refine veq_bool ?_; simp; omega) | (refine veq_bool ?_; rw [eq_comm, decide_eq_false_iff_not]; omega) | (refine veq_bool ?_; rw [eq_comm, decide_eq_true_iff]; omega) | (refine veq_int ?_; omega) | (refine veq_arr8 fun j hj => ?_; (try dsimp only); first | (simp; done) | (simp; omega) | ((repeat' split) <;> first | rfl | (exfalso; omega) | (congr 1; omega) | (simp_all; done))) | ((first | rw [show (isSq n t && allB n.toNat (unitP t 0)) = true from (by first | assumption | (rw [Bool.and_eq_true]; assumption))] | rw [show (isSq n t && allB n.toNat (unitP t 0)) = false from (by first | assumption | (rw [Bool.and_eq_false_iff]; assumption))]); rfl)
end Go.Proofs.Ytebcapplclgaeab
