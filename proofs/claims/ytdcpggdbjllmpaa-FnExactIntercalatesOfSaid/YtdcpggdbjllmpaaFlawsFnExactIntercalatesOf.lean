/- What the Go function laws.FnExactIntercalatesOf does, shown of its loaded text; its conditions stand in the statement. -/
import Derived.Test.YtdcpggdbjllmpaaTy
import Derived.Test.YtdcpggdbjllmpaaFimplIntercalatesOf
import Derived.Test.YtdcpggdbjllmpaaFlawseqInt64SS
import Derived.Test.YtdcpggdbjllmpaaFlawsheldInt64SS
import Derived.Test.YtdcpggdbjllmpaaFlawsmarkInt64SS
import Derived.Test.YtdcpggdbjllmpaaFlawstoSquare
import Derived.Test.YtdcpggdbjllmpaaFspecIntercalatesOf
import Derived.Test.YtdcpggdbjllmpaaGx12
import Derived.Test.YtdcpggdbjllmpaaGx20
import Derived.Test.YtdcpggdbjllmpaaGx28
import Derived.Test.YtdcpggdbjllmpaaM17
import Derived.Test.YtdcpggdbjllmpaaM35
namespace Go.Proofs.Ytdcpggdbjllmpaa
open Go Gx
set_option linter.unusedVariables false
theorem en_laws_FnExactIntercalatesOf : Enters Try.prog 8 := enters_of Try.func8 (by kernel_rfl) (by kernel_rfl)
set_option maxRecDepth 100000 in
theorem w_laws_FnExactIntercalatesOf {t : Nat → Fin 256} {n : Int}  : CR Try.prog 8 (vals [.agg [.int .i64 n, .arr8 100 t]]) [] (.bool true) := by
  refine CR_intro (rs := [.tmp 2]) tt tok Try.func8 rfl rfl rfl (by first | rfl | assumption) fun w => ?_
  refine W_seq ?_
  refine W_region ?_
  refine Ops_x rfl (x_box rfl rfl (lt_dec rfl) fun b1_1 => ?_)
  refine Ops_p (p_assign rfl) (lt_dec rfl) ?_
  refine Ops_nil ?_
  refine W_seq ?_
  refine W_region ?_
  refine Ops_q (q_load rfl rfl m0 rfl (by first | trivial | (first | omega | (dsimp only; omega)) | exact Fin.isLt _ | (dsimp only; omega))) (lt_dec rfl) ?_
  refine Ops_q (q_call en_laws_toSquare rfl (w_laws_toSquare) (View.none _)) (lt_dec rfl) ?_
  refine Ops_x rfl (x_callT en_spec_IntercalatesOf rfl (w_spec_IntercalatesOf) HpDels.nil (Vw.none _) (fun _ => (HpDels.cons HpDel.head HpDels.nil)) (lt_dec rfl) fun x14_1 hx1 => ?_)
  refine Ops_p (p_move rfl) (lt_dec rfl) ?_
  refine Ops_p (p_extract rfl rfl) (lt_dec rfl) ?_
  refine Ops_p (p_extract rfl rfl) (lt_dec rfl) ?_
  refine Ops_p (p_assign rfl) (lt_dec rfl) ?_
  refine Ops_p (p_assign rfl) (lt_dec rfl) ?_
  refine Ops_nil ?_
  refine W_seq ?_
  refine W_region ?_
  refine Ops_q (q_load rfl rfl m1 rfl (by first | trivial | (first | omega | (dsimp only; omega)) | exact Fin.isLt _ | (dsimp only; omega))) (lt_dec rfl) ?_
  refine Ops_q (q_call en_laws_toSquare rfl (w_laws_toSquare) (View.none _)) (lt_dec rfl) ?_
  refine Ops_x rfl (x_callT en_impl_IntercalatesOf rfl (w_impl_IntercalatesOf) HpDels.nil (Vw.none _) (fun _ => (HpDels.cons HpDel.head HpDels.nil)) (lt_dec rfl) fun x20_1 hx2 => ?_)
  refine Ops_p (p_move rfl) (lt_dec rfl) ?_
  refine Ops_p (p_extract rfl rfl) (lt_dec rfl) ?_
  refine Ops_p (p_extract rfl rfl) (lt_dec rfl) ?_
  refine Ops_p (p_assign rfl) (lt_dec rfl) ?_
  refine Ops_p (p_assign rfl) (lt_dec rfl) ?_
  refine Ops_nil ?_
  refine W_seq ?_
  refine W_seq ?_
  refine W_region ?_
  refine Ops_p (p_move rfl) (lt_dec rfl) ?_
  refine Ops_p (p_move rfl) (lt_dec rfl) ?_
  refine Ops_q (q_call en_laws_eqInt64SS rfl (w_laws_eqInt64SS (hx2.trans hx1.symm) (by rw [snd_cnt hx2]; exact Nat.le_trans (icS_b n t).1 (by omega)) (fun i => Nat.le_trans (len_getD hx2 (icS_b n t).2 i) (by omega))) (View.cons (Vw.rssO m0).v (Vw.rssO m1).v rfl rfl)) (lt_dec rfl) ?_
  refine Ops_p (p_not rfl) (lt_dec rfl) ?_
  refine Ops_p (p_move rfl) (lt_dec rfl) ?_
  refine Ops_guard_t rfl rfl (lt_dec rfl) ?_
  refine Ops_p (p_move rfl) (lt_dec rfl) ?_
  refine Ops_guard_t rfl rfl (lt_dec rfl) ?_
  refine Ops_p (p_move rfl) (lt_dec rfl) ?_
  refine Ops_guard_t rfl rfl (lt_dec rfl) ?_
  refine Ops_p (p_neq rfl rfl) (lt_dec rfl) ?_
  refine Ops_p (p_pick_f rfl rfl) (lt_dec rfl) ?_
  refine Ops_nil ?_
  refine W_cond rfl (fun h1 => ?_) (fun h1 => ?_)
  · try simp only [bs] at h1
    exfalso; exact h1 (by first | rfl | trivial)
  · try simp only [bs] at h1
    refine W_skip ?_
    refine W_seq ?_
    refine W_region ?_
    refine Ops_p (p_assign rfl) (lt_dec rfl) ?_
    refine Ops_nil ?_
    refine W_seq ?_
    refine W_region ?_
    refine Ops_p (p_move rfl) (lt_dec rfl) ?_
    refine Ops_p (p_move rfl) (lt_dec rfl) ?_
    refine Ops_x rfl (x_callT en_laws_markInt64SS rfl (w_laws_markInt64SS (by rw [snd_cnt hx2]; exact Nat.le_trans (icS_b n t).1 (by omega)) (by have := sum_cnt hx2 (icS_b n t); omega) (by omega)) (HpDels.cons HpDel.head HpDels.nil) (Vw.none _) (fun _ => (HpDels.cons HpDel.head HpDels.nil)) (lt_dec rfl) fun _ _ => ?_)
    refine Ops_p (p_assign rfl) (lt_dec rfl) ?_
    refine Ops_nil ?_
    refine W_seq ?_
    refine W_region ?_
    refine Ops_p (p_assign rfl) (lt_dec rfl) ?_
    refine Ops_nil ?_
    refine W_seq ?_
    refine W_region ?_
    refine Ops_p (p_move rfl) (lt_dec rfl) ?_
    refine Ops_p (p_move rfl) (lt_dec rfl) ?_
    refine Ops_q (q_call en_laws_heldInt64SS rfl (w_laws_heldInt64SS (L := x20_1.2) (by rw [snd_cnt hx2]; exact Nat.le_trans (icS_b n t).1 (by omega)) (by have := sum_cnt hx2 (icS_b n t); omega) (by omega)) (Vw.rssO m0).v) (lt_dec rfl) ?_
    refine Ops_p (p_assign rfl) (lt_dec rfl) ?_
    refine Ops_nil ?_
    refine W_seq ?_
    refine W_seq ?_
    refine W_region ?_
    refine Ops_p (p_move rfl) (lt_dec rfl) ?_
    refine Ops_p (p_lss rfl rfl) (lt_dec rfl) ?_
    refine Ops_nil ?_
    refine W_cond rfl (fun h2 => ?_) (fun h2 => ?_)
    · try simp only [bs] at h2
      exfalso; have h99 := sumL_nn x20_1.2 (List.length x20_1.2); omega
    · try simp only [bs] at h2
      refine W_skip ?_
      refine W_seq ?_
      refine W_seq ?_
      refine W_region ?_
      refine Ops_p (p_move rfl) (lt_dec rfl) ?_
      refine Ops_p (p_move rfl) (lt_dec rfl) ?_
      refine Ops_p (p_neq rfl rfl) (lt_dec rfl) ?_
      refine Ops_nil ?_
      refine W_cond rfl (fun h3 => ?_) (fun h3 => ?_)
      · try simp only [bs] at h3
        refine W_seq ?_
        refine W_region ?_
        refine Ops_p (p_assign rfl) (lt_dec rfl) ?_
        refine Ops_nil ?_
        refine W_ret ?_
        refine Exists.intro _ (And.intro (.cons (.tmp rfl) .nil) ?_)
        first | rfl | (refine veq_bool ?_; simp_all; done) | (refine veq_bool ?_; simp; omega) | (refine veq_bool ?_; rw [eq_comm, decide_eq_false_iff_not]; omega) | (refine veq_bool ?_; rw [eq_comm, decide_eq_true_iff]; omega) | (refine veq_int ?_; omega) | (refine veq_arr8 fun j hj => ?_; (try dsimp only); first | (simp; done) | (simp; omega) | ((repeat' split) <;> first | rfl | (exfalso; omega) | (congr 1; omega) | (simp_all; done)))
      · try simp only [bs] at h3
        refine W_skip ?_
        refine W_seq ?_
        refine W_region ?_
        refine Ops_q (q_load rfl rfl m2 rfl (by first | trivial | (first | omega | (dsimp only; omega)) | exact Fin.isLt _ | (dsimp only; omega))) (lt_dec rfl) ?_
        refine Ops_q (q_call en_laws_toSquare rfl (w_laws_toSquare) (View.none _)) (lt_dec rfl) ?_
        refine Ops_x rfl (x_callT en_impl_IntercalatesOf rfl (w_impl_IntercalatesOf) HpDels.nil (Vw.none _) (fun _ => (HpDels.cons HpDel.head HpDels.nil)) (lt_dec rfl) fun x46_1 hx3 => ?_)
        refine Ops_p (p_move rfl) (lt_dec rfl) ?_
        refine Ops_p (p_extract rfl rfl) (lt_dec rfl) ?_
        refine Ops_p (p_extract rfl rfl) (lt_dec rfl) ?_
        refine Ops_p (p_assign rfl) (lt_dec rfl) ?_
        refine Ops_p (p_assign rfl) (lt_dec rfl) ?_
        refine Ops_nil ?_
        refine W_seq ?_
        refine W_seq ?_
        refine W_region ?_
        refine Ops_p (p_move rfl) (lt_dec rfl) ?_
        refine Ops_p (p_move rfl) (lt_dec rfl) ?_
        refine Ops_q (q_call en_laws_eqInt64SS rfl (w_laws_eqInt64SS (hx3.trans hx1.symm) (by rw [snd_cnt hx3]; exact Nat.le_trans (icS_b n t).1 (by omega)) (fun i => Nat.le_trans (len_getD hx3 (icS_b n t).2 i) (by omega))) (View.cons (Vw.rssO m0).v (Vw.rssO m2).v rfl rfl)) (lt_dec rfl) ?_
        refine Ops_p (p_not rfl) (lt_dec rfl) ?_
        refine Ops_p (p_move rfl) (lt_dec rfl) ?_
        refine Ops_guard_t rfl rfl (lt_dec rfl) ?_
        refine Ops_p (p_move rfl) (lt_dec rfl) ?_
        refine Ops_guard_t rfl rfl (lt_dec rfl) ?_
        refine Ops_p (p_move rfl) (lt_dec rfl) ?_
        refine Ops_guard_t rfl rfl (lt_dec rfl) ?_
        refine Ops_p (p_neq rfl rfl) (lt_dec rfl) ?_
        refine Ops_p (p_pick_f rfl rfl) (lt_dec rfl) ?_
        refine Ops_nil ?_
        refine W_cond rfl (fun h4 => ?_) (fun h4 => ?_)
        · try simp only [bs] at h4
          exfalso; exact h4 (by first | rfl | trivial)
        · try simp only [bs] at h4
          refine W_skip ?_
          refine W_seq ?_
          refine W_region ?_
          refine Ops_p (p_assign rfl) (lt_dec rfl) ?_
          refine Ops_nil ?_
          refine W_seq ?_
          refine W_region ?_
          refine Ops_p (p_move rfl) (lt_dec rfl) ?_
          refine Ops_p (p_move rfl) (lt_dec rfl) ?_
          refine Ops_q (q_call en_laws_heldInt64SS rfl (w_laws_heldInt64SS (L := x20_1.2) (by rw [snd_cnt hx2]; exact Nat.le_trans (icS_b n t).1 (by omega)) (by have := sum_cnt hx2 (icS_b n t); omega) (by omega)) (Vw.rssO m1).v) (lt_dec rfl) ?_
          refine Ops_p (p_assign rfl) (lt_dec rfl) ?_
          refine Ops_nil ?_
          refine W_seq ?_
          refine W_seq ?_
          refine W_region ?_
          refine Ops_p (p_move rfl) (lt_dec rfl) ?_
          refine Ops_p (p_lss rfl rfl) (lt_dec rfl) ?_
          refine Ops_nil ?_
          refine W_cond rfl (fun h5 => ?_) (fun h5 => ?_)
          · try simp only [bs] at h5
            exfalso; have h99 := sumL_nn x20_1.2 (List.length x20_1.2); omega
          · try simp only [bs] at h5
            refine W_skip ?_
            refine W_seq ?_
            refine W_seq ?_
            refine W_region ?_
            refine Ops_p (p_move rfl) (lt_dec rfl) ?_
            refine Ops_p (p_move rfl) (lt_dec rfl) ?_
            refine Ops_p (p_neq rfl rfl) (lt_dec rfl) ?_
            refine Ops_nil ?_
            refine W_cond rfl (fun h6 => ?_) (fun h6 => ?_)
            · try simp only [bs] at h6
              refine W_seq ?_
              refine W_region ?_
              refine Ops_p (p_assign rfl) (lt_dec rfl) ?_
              refine Ops_nil ?_
              refine W_ret ?_
              refine Exists.intro _ (And.intro (.cons (.tmp rfl) .nil) ?_)
              first | rfl | (refine veq_bool ?_; simp_all; done) | (refine veq_bool ?_; simp; omega) | (refine veq_bool ?_; rw [eq_comm, decide_eq_false_iff_not]; omega) | (refine veq_bool ?_; rw [eq_comm, decide_eq_true_iff]; omega) | (refine veq_int ?_; omega) | (refine veq_arr8 fun j hj => ?_; (try dsimp only); first | (simp; done) | (simp; omega) | ((repeat' split) <;> first | rfl | (exfalso; omega) | (congr 1; omega) | (simp_all; done)))
            · try simp only [bs] at h6
              refine W_skip ?_
              refine W_seq ?_
              refine W_region ?_
              refine Ops_p (p_assign rfl) (lt_dec rfl) ?_
              refine Ops_nil ?_
              refine W_ret ?_
              refine Exists.intro _ (And.intro (.cons (.tmp rfl) .nil) ?_)
              first | rfl | (refine veq_bool ?_; simp_all; done) | (refine veq_bool ?_; simp; omega) | (refine veq_bool ?_; rw [eq_comm, decide_eq_false_iff_not]; omega) | (refine veq_bool ?_; rw [eq_comm, decide_eq_true_iff]; omega) | (refine veq_int ?_; omega) | (refine veq_arr8 fun j hj => ?_; (try dsimp only); first | (simp; done) | (simp; omega) | ((repeat' split) <;> first | rfl | (exfalso; omega) | (congr 1; omega) | (simp_all; done)))
end Go.Proofs.Ytdcpggdbjllmpaa
