/- What the Go function impl.IsHomomorphism does, shown of its loaded text; its conditions stand in the statement. -/
import Derived.Test.YtebcapplclgaeacTy
import Derived.Test.YtebcapplclgaeacFimplIsSquare
import Derived.Test.YtebcapplclgaeacFimplareImages
import Derived.Test.YtebcapplclgaeacFimplisHomomorphism
import Derived.Test.YtebcapplclgaeacM18
namespace Go.Proofs.Ytebcapplclgaeac
open Go Gx
set_option linter.unusedVariables false
theorem en_impl_IsHomomorphism : Enters Try.prog 33 := enters_of Try.func33 (by kernel_rfl) (by kernel_rfl)
set_option maxRecDepth 100000 in
theorem w_impl_IsHomomorphism {t u : Nat → Fin 256} {n m : Int} {a : Value} {ha : a.oneCell' = true} {l : List Int} (hl : l.length ≤ 1048576) : CR Try.prog 33 (vals [.agg [.int .i64 n, .arr8 100 t], .agg [.int .i64 m, .arr8 100 u], .raw a ha]) [rd a (.ints .i64 l)] (.tup [.bool ((isSq n t && isSq m u) && (okI n m l) && allP n.toNat (homP t u l)), .int .i64 (code2 (isSq n t && isSq m u) (okI n m l))]) := by
  refine CR_intro (rs := [.tmp 6, .tmp 7]) tt tok Try.func33 rfl rfl rfl (by first | rfl | assumption) fun w => ?_
  refine W_seq ?_
  refine W_region ?_
  refine Ops_x rfl (x_box rfl rfl (lt_dec rfl) fun b3_1 => ?_)
  refine Ops_x rfl (x_box rfl rfl (lt_dec rfl) fun b4_1 => ?_)
  refine Ops_p (p_assign rfl) (lt_dec rfl) ?_
  refine Ops_p (p_assign rfl) (lt_dec rfl) ?_
  refine Ops_nil ?_
  refine W_seq ?_
  refine W_block ?_
  refine W_seq ?_
  refine W_region ?_
  refine Ops_q (q_load rfl rfl m1 rfl (by first | trivial | (first | omega | (dsimp only; omega)) | exact Fin.isLt _ | (dsimp only; omega))) (lt_dec rfl) ?_
  refine Ops_q (q_call en_impl_IsSquare rfl (w_impl_IsSquare) (View.none _)) (lt_dec rfl) ?_
  refine Ops_p (p_not rfl) (lt_dec rfl) ?_
  refine Ops_p (p_move rfl) (lt_dec rfl) ?_
  refine Ops_guard rfl rfl (lt_dec rfl) (fun hg1 => ?_) (fun hg1 => ?_)
  · try simp only [bs] at hg1
    refine Ops_q (q_load rfl rfl m0 rfl (by first | trivial | (first | omega | (dsimp only; omega)) | exact Fin.isLt _ | (dsimp only; omega))) (lt_dec rfl) ?_
    refine Ops_guard_t rfl rfl (lt_dec rfl) ?_
    refine Ops_q (q_call en_impl_IsSquare rfl (w_impl_IsSquare) (View.none _)) (lt_dec rfl) ?_
    refine Ops_guard_t rfl rfl (lt_dec rfl) ?_
    refine Ops_p (p_not rfl) (lt_dec rfl) ?_
    refine Ops_p (p_pick_f rfl rfl) (lt_dec rfl) ?_
    refine Ops_p (p_assign rfl) (lt_dec rfl) ?_
    refine Ops_nil ?_
    refine W_cond rfl (fun h1 => ?_) (fun h1 => ?_)
    · try simp only [bs] at h1
      refine W_seq ?_
      have hq : (isSq n t && isSq m u) = false := (by simp_all)
      refine W_region ?_
      refine Ops_p (p_assign rfl) (lt_dec rfl) ?_
      refine Ops_p (p_assign rfl) (lt_dec rfl) ?_
      refine Ops_nil ?_
      refine W_ret ?_
      refine Exists.intro _ (And.intro (.cons (.tmp rfl) (.cons (.tmp rfl) .nil)) ?_)
      first | rfl | (refine veq_bool ?_; simp_all; done) | (refine veq_bool ?_; simp; omega) | (refine veq_bool ?_; rw [eq_comm, decide_eq_false_iff_not]; omega) | (refine veq_bool ?_; rw [eq_comm, decide_eq_true_iff]; omega) | (refine veq_int ?_; omega) | (refine veq_arr8 fun j hj => ?_; (try dsimp only); first | (simp; done) | (simp; omega) | ((repeat' split) <;> first | rfl | (exfalso; omega) | (congr 1; omega) | (simp_all; done))) | ((rw [hq]; rfl)) | ((rw [hq]; simp only [*]; rfl))
    · try simp only [bs] at h1
      refine W_seq ?_
      have hq : (isSq n t && isSq m u) = true := (by simp_all)
      have g1 : SqP n t := of_isSq (by simp_all)
      have g2 : SqP m u := of_isSq (by simp_all)
      refine W_region ?_
      refine Ops_q (q_load rfl rfl m1 rfl (by first | trivial | (first | omega | (dsimp only; omega)) | exact Fin.isLt _ | (dsimp only; omega))) (lt_dec rfl) ?_
      refine Ops_q (q_load rfl rfl m0 rfl (by first | trivial | (first | omega | (dsimp only; omega)) | exact Fin.isLt _ | (dsimp only; omega))) (lt_dec rfl) ?_
      refine Ops_p (p_move rfl) (lt_dec rfl) ?_
      refine Ops_q (q_call en_impl_areImages rfl (w_impl_areImages (by first | assumption | (first | omega | (dsimp only; omega)) | (simp; done) | decide) g2) (Vw.rd m2).v) (lt_dec rfl) ?_
      refine Ops_p (p_not rfl) (lt_dec rfl) ?_
      refine Ops_p (p_assign rfl) (lt_dec rfl) ?_
      refine Ops_nil ?_
      refine W_cond rfl (fun h2 => ?_) (fun h2 => ?_)
      · try simp only [bs] at h2
        refine W_seq ?_
        refine W_region ?_
        refine Ops_p (p_assign rfl) (lt_dec rfl) ?_
        refine Ops_p (p_assign rfl) (lt_dec rfl) ?_
        refine Ops_nil ?_
        refine W_ret ?_
        refine Exists.intro _ (And.intro (.cons (.tmp rfl) (.cons (.tmp rfl) .nil)) ?_)
        first | rfl | (refine veq_bool ?_; simp_all; done) | (refine veq_bool ?_; simp; omega) | (refine veq_bool ?_; rw [eq_comm, decide_eq_false_iff_not]; omega) | (refine veq_bool ?_; rw [eq_comm, decide_eq_true_iff]; omega) | (refine veq_int ?_; omega) | (refine veq_arr8 fun j hj => ?_; (try dsimp only); first | (simp; done) | (simp; omega) | ((repeat' split) <;> first | rfl | (exfalso; omega) | (congr 1; omega) | (simp_all; done))) | ((rw [hq]; rfl)) | ((rw [hq]; simp only [*]; rfl))
      · try simp only [bs] at h2
        refine W_skip ?_
        refine W_seq ?_
        refine W_region ?_
        refine Ops_q (q_load rfl rfl m1 rfl (by first | trivial | (first | omega | (dsimp only; omega)) | exact Fin.isLt _ | (dsimp only; omega))) (lt_dec rfl) ?_
        refine Ops_q (q_load rfl rfl m0 rfl (by first | trivial | (first | omega | (dsimp only; omega)) | exact Fin.isLt _ | (dsimp only; omega))) (lt_dec rfl) ?_
        refine Ops_p (p_move rfl) (lt_dec rfl) ?_
        refine Ops_q (q_call en_impl_isHomomorphism rfl (w_impl_isHomomorphism g1 g2 (by assumption)) (Vw.rd m2).v) (lt_dec rfl) ?_
        refine Ops_p (p_assign rfl) (lt_dec rfl) ?_
        refine Ops_p (p_assign rfl) (lt_dec rfl) ?_
        refine Ops_nil ?_
        refine W_ret ?_
        refine Exists.intro _ (And.intro (.cons (.tmp rfl) (.cons (.tmp rfl) .nil)) ?_)
        first | rfl | (refine veq_bool ?_; simp_all; done) | (refine veq_bool ?_; simp; omega) | (refine veq_bool ?_; rw [eq_comm, decide_eq_false_iff_not]; omega) | (refine veq_bool ?_; rw [eq_comm, decide_eq_true_iff]; omega) | (refine veq_int ?_; omega) | (refine veq_arr8 fun j hj => ?_; (try dsimp only); first | (simp; done) | (simp; omega) | ((repeat' split) <;> first | rfl | (exfalso; omega) | (congr 1; omega) | (simp_all; done))) | ((rw [hq]; rfl)) | ((rw [hq]; simp only [*]; rfl))
  · try simp only [bs] at hg1
    refine Ops_guard_f rfl rfl rfl (lt_dec rfl) ?_
    refine Ops_guard_f rfl rfl rfl (lt_dec rfl) ?_
    refine Ops_p (p_pick_t rfl rfl) (lt_dec rfl) ?_
    refine Ops_p (p_assign rfl) (lt_dec rfl) ?_
    refine Ops_nil ?_
    refine W_true rfl ?_
    refine W_seq ?_
    have hq : (isSq n t && isSq m u) = false := (by simp_all)
    refine W_region ?_
    refine Ops_p (p_assign rfl) (lt_dec rfl) ?_
    refine Ops_p (p_assign rfl) (lt_dec rfl) ?_
    refine Ops_nil ?_
    refine W_ret ?_
    refine Exists.intro _ (And.intro (.cons (.tmp rfl) (.cons (.tmp rfl) .nil)) ?_)
    first | rfl | (refine veq_bool ?_; simp_all; done) | (refine veq_bool ?_; simp; omega) | (refine veq_bool ?_; rw [eq_comm, decide_eq_false_iff_not]; omega) | (refine veq_bool ?_; rw [eq_comm, decide_eq_true_iff]; omega) | (refine veq_int ?_; omega) | (refine veq_arr8 fun j hj => ?_; (try dsimp only); first | (simp; done) | (simp; omega) | ((repeat' split) <;> first | rfl | (exfalso; omega) | (congr 1; omega) | (simp_all; done))) | ((rw [hq]; rfl)) | ((rw [hq]; simp only [*]; rfl))
end Go.Proofs.Ytebcapplclgaeac
