/- What the Go function laws.FnExactTermText does, shown of its loaded text; its conditions stand in the statement. -/
import Derived.Test.YtdcpggdbjllmpaaTy
import Derived.Test.YtdcpggdbjllmpaaFimplTermText
import Derived.Test.YtdcpggdbjllmpaaFlawseqByteS
import Derived.Test.YtdcpggdbjllmpaaFlawstoByteS
import Derived.Test.YtdcpggdbjllmpaaFspecTermText
import Derived.Test.YtdcpggdbjllmpaaGx12
import Derived.Test.YtdcpggdbjllmpaaGx14
import Derived.Test.YtdcpggdbjllmpaaGx20
import Derived.Test.YtdcpggdbjllmpaaGx24
import Derived.Test.YtdcpggdbjllmpaaGx27
import Derived.Test.YtdcpggdbjllmpaaM33
namespace Go.Proofs.Ytdcpggdbjllmpaa
open Go Gx
set_option linter.unusedVariables false
theorem en_laws_FnExactTermText : Enters Try.prog 3 := enters_of Try.func3 (by kernel_rfl) (by kernel_rfl)
set_option maxRecDepth 100000 in
theorem w_laws_FnExactTermText {a : Value} {ha : a.oneCell' = true} {l : List (Fin 256)} (hl0 : l.length ≤ maxLen) : CR Try.prog 3 (vals [.raw a ha]) [rd a (.u8s l)] (.bool true) := by
  refine CR_intro (rs := [.tmp 2]) tt tok Try.func3 rfl rfl rfl (by first | rfl | assumption) fun w => ?_
  refine W_seq ?_
  refine W_region ?_
  refine Ops_p (p_assign rfl) (lt_dec rfl) ?_
  refine Ops_nil ?_
  refine W_seq ?_
  refine W_seq ?_
  refine W_region ?_
  refine Ops_p (p_move rfl) (lt_dec rfl) ?_
  refine Ops_q ((q_lenR rfl rfl rfl (Rds.rd m0)).eq (d' := .int .i64 ((l.length : Nat) : Int)) rfl) (lt_dec rfl) ?_
  refine Ops_p (p_gtr rfl rfl) (lt_dec rfl) ?_
  refine Ops_nil ?_
  refine W_cond rfl (fun h1 => ?_) (fun h1 => ?_)
  · try simp only [bs] at h1
    refine W_seq ?_
    refine W_region ?_
    refine Ops_p (p_assign rfl) (lt_dec rfl) ?_
    refine Ops_nil ?_
    refine W_ret ?_
    refine Exists.intro _ (And.intro (.cons (.tmp rfl) .nil) ?_)
    first | rfl | (refine veq_bool ?_; simp_all; done) | (refine veq_bool ?_; simp; omega) | (refine veq_bool ?_; rw [eq_comm, decide_eq_false_iff_not]; omega) | (refine veq_bool ?_; rw [eq_comm, decide_eq_true_iff]; omega) | (refine veq_int ?_; omega) | (refine veq_arr8 fun j hj => ?_; (try dsimp only); first | (simp; done) | (simp; omega) | ((repeat' split) <;> first | rfl | (exfalso; omega) | (congr 1; omega) | (simp_all; done)))
  · try simp only [bs] at h1
    have hl : l.length ≤ 1048576 := (by omega)
    refine W_skip ?_
    refine W_seq ?_
    refine W_region ?_
    refine Ops_p (p_move rfl) (lt_dec rfl) ?_
    refine Ops_x rfl (x_callT en_laws_toByteS rfl (w_laws_toByteS (by first | assumption | (first | omega | (dsimp only; omega)) | (simp; done) | decide)) HpDels.nil (Vw.rd m0) (fun _ => (HpDels.cons HpDel.head HpDels.nil)) (lt_dec rfl) fun x13_1 _ => ?_)
    refine Ops_q (q_call en_spec_TermText rfl (w_spec_TermText (by first | assumption | (first | omega | (dsimp only; omega)) | (simp; done) | decide)) (Vw.rdO m0).v) (lt_dec rfl) ?_
    refine Ops_p (p_move rfl) (lt_dec rfl) ?_
    refine Ops_p (p_extract rfl rfl) (lt_dec rfl) ?_
    refine Ops_p (p_extract rfl rfl) (lt_dec rfl) ?_
    refine Ops_p (p_assign rfl) (lt_dec rfl) ?_
    refine Ops_p (p_assign rfl) (lt_dec rfl) ?_
    refine Ops_nil ?_
    refine W_seq ?_
    refine W_region ?_
    refine Ops_p (p_move rfl) (lt_dec rfl) ?_
    refine Ops_x rfl (x_callT en_laws_toByteS rfl (w_laws_toByteS (by first | assumption | (first | omega | (dsimp only; omega)) | (simp; done) | decide)) HpDels.nil (Vw.rd m1) (fun _ => (HpDels.cons HpDel.head HpDels.nil)) (lt_dec rfl) fun x18_1 _ => ?_)
    refine Ops_p (p_assign rfl) (lt_dec rfl) ?_
    refine Ops_nil ?_
    refine W_seq ?_
    refine W_region ?_
    refine Ops_p (p_move rfl) (lt_dec rfl) ?_
    refine Ops_q (q_call en_impl_TermText rfl (w_impl_TermText (by first | assumption | (first | omega | (dsimp only; omega)) | (simp; done) | decide)) (Vw.rdO m0).v) (lt_dec rfl) ?_
    refine Ops_p (p_move rfl) (lt_dec rfl) ?_
    refine Ops_p (p_extract rfl rfl) (lt_dec rfl) ?_
    refine Ops_p (p_extract rfl rfl) (lt_dec rfl) ?_
    refine Ops_p (p_assign rfl) (lt_dec rfl) ?_
    refine Ops_p (p_assign rfl) (lt_dec rfl) ?_
    refine Ops_nil ?_
    refine W_seq ?_
    refine W_seq ?_
    refine W_region ?_
    refine Ops_p (p_move rfl) (lt_dec rfl) ?_
    refine Ops_p (p_move rfl) (lt_dec rfl) ?_
    refine Ops_p (p_neq_s rfl rfl) (lt_dec rfl) ?_
    refine Ops_p (p_move rfl) (lt_dec rfl) ?_
    refine Ops_guard rfl rfl (lt_dec rfl) (fun hg1 => ?_) (fun hg1 => ?_)
    · try simp only [bs] at hg1
      refine Ops_p (p_move rfl) (lt_dec rfl) ?_
      refine Ops_guard_t rfl rfl (lt_dec rfl) ?_
      refine Ops_p (p_move rfl) (lt_dec rfl) ?_
      refine Ops_guard_t rfl rfl (lt_dec rfl) ?_
      refine Ops_p (p_neq rfl rfl) (lt_dec rfl) ?_
      refine Ops_p (p_pick_f rfl rfl) (lt_dec rfl) ?_
      refine Ops_nil ?_
      refine W_cond rfl (fun h2 => ?_) (fun h2 => ?_)
      · try simp only [bs] at h2
        exfalso; exact h2 (by first | rfl | trivial)
      · try simp only [bs] at h2
        refine W_skip ?_
        refine W_seq ?_
        refine W_seq ?_
        refine W_region ?_
        refine Ops_p (p_move rfl) (lt_dec rfl) ?_
        refine Ops_p (p_move rfl) (lt_dec rfl) ?_
        refine Ops_x rfl (x_callT en_laws_toByteS rfl (w_laws_toByteS (by first | assumption | (first | omega | (dsimp only; omega)) | (simp; done) | decide)) HpDels.nil (Vw.rd m2) (fun _ => (HpDels.cons HpDel.head HpDels.nil)) (lt_dec rfl) fun x34_1 _ => ?_)
        refine Ops_q (q_call en_laws_eqByteS rfl (w_laws_eqByteS (by first | assumption | (first | omega | (dsimp only; omega)) | (simp; done) | decide)) (View.cons (Vw.rdO m1).v (Vw.rdO m0).v rfl rfl)) (lt_dec rfl) ?_
        refine Ops_p (p_not rfl) (lt_dec rfl) ?_
        refine Ops_nil ?_
        refine W_false rfl ?_
        refine W_skip ?_
        refine W_seq ?_
        refine W_region ?_
        refine Ops_p (p_assign rfl) (lt_dec rfl) ?_
        refine Ops_nil ?_
        refine W_ret ?_
        refine Exists.intro _ (And.intro (.cons (.tmp rfl) .nil) ?_)
        first | rfl | (refine veq_bool ?_; simp_all; done) | (refine veq_bool ?_; simp; omega) | (refine veq_bool ?_; rw [eq_comm, decide_eq_false_iff_not]; omega) | (refine veq_bool ?_; rw [eq_comm, decide_eq_true_iff]; omega) | (refine veq_int ?_; omega) | (refine veq_arr8 fun j hj => ?_; (try dsimp only); first | (simp; done) | (simp; omega) | ((repeat' split) <;> first | rfl | (exfalso; omega) | (congr 1; omega) | (simp_all; done)))
    · try simp only [bs] at hg1
      refine Ops_guard_f rfl rfl rfl (lt_dec rfl) ?_
      refine Ops_guard_f rfl rfl rfl (lt_dec rfl) ?_
      refine Ops_p (p_pick_t rfl rfl) (lt_dec rfl) ?_
      refine Ops_nil ?_
      refine W_true rfl ?_
      refine W_seq ?_
      refine W_region ?_
      refine Ops_p (p_assign rfl) (lt_dec rfl) ?_
      refine Ops_nil ?_
      refine W_ret ?_
      refine Exists.intro _ (And.intro (.cons (.tmp rfl) .nil) ?_)
      first | rfl | (refine veq_bool ?_; simp_all; done) | (refine veq_bool ?_; simp; omega) | (refine veq_bool ?_; rw [eq_comm, decide_eq_false_iff_not]; omega) | (refine veq_bool ?_; rw [eq_comm, decide_eq_true_iff]; omega) | (refine veq_int ?_; omega) | (refine veq_arr8 fun j hj => ?_; (try dsimp only); first | (simp; done) | (simp; omega) | ((repeat' split) <;> first | rfl | (exfalso; omega) | (congr 1; omega) | (simp_all; done)))
end Go.Proofs.Ytdcpggdbjllmpaa
