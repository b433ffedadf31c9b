/- What the Go function spec.CountCompletions does, shown of its loaded text; its conditions stand in the statement. -/
import Derived.Test.YtdcpggdbjllmpabTy
import Derived.Test.YtdcpggdbjllmpabFspecl09Copy
import Derived.Test.YtdcpggdbjllmpabFspecl09Go
import Derived.Test.YtdcpggdbjllmpabFspecl09Is
import Derived.Test.YtdcpggdbjllmpabGx12
import Derived.Test.YtdcpggdbjllmpabGx20
import Derived.Test.YtdcpggdbjllmpabGx28
import Derived.Test.YtdcpggdbjllmpabM24
import Derived.Test.YtdcpggdbjllmpabM34
namespace Go.Proofs.Ytdcpggdbjllmpab
open Go Gx
set_option linter.unusedVariables false
theorem en_spec_CountCompletions : Enters Try.prog 20 := enters_of Try.func20 (by kernel_rfl) (by kernel_rfl)
set_option maxRecDepth 100000 in
theorem w_spec_CountCompletions {a : Value} {ha : a.oneCell' = true} {L : SL}  : CR Try.prog 20 (vals [.raw a ha]) [rss a L] (.tup [.int .i64 (ccN L), .int .i64 (ccC L)]) := by
  refine CR_intro (rs := [.tmp 2, .tmp 3]) tt tok Try.func20 rfl rfl rfl (by first | rfl | assumption) fun w => ?_
  refine W_seq ?_
  refine W_region ?_
  refine Ops_p (p_assign rfl) (lt_dec rfl) ?_
  refine Ops_p (p_assign rfl) (lt_dec rfl) ?_
  refine Ops_nil ?_
  refine W_seq ?_
  refine W_seq ?_
  refine W_region ?_
  refine Ops_p (p_move rfl) (lt_dec rfl) ?_
  refine Ops_q (q_call en_spec_l09Is rfl (w_spec_l09Is) (Vw.rss m0).v) (lt_dec rfl) ?_
  refine Ops_p (p_not rfl) (lt_dec rfl) ?_
  refine Ops_nil ?_
  refine W_cond rfl (fun h1 => ?_) (fun h1 => ?_)
  · try simp only [bs] at h1
    have hp : isPar L = false := (by simp_all)
    refine W_seq ?_
    refine W_region ?_
    refine Ops_p (p_assign rfl) (lt_dec rfl) ?_
    refine Ops_p (p_assign rfl) (lt_dec rfl) ?_
    refine Ops_nil ?_
    refine W_ret ?_
    refine Exists.intro _ (And.intro (.cons (.tmp rfl) (.cons (.tmp rfl) .nil)) ?_)
    first | rfl | (refine veq_bool ?_; simp_all; done) | (refine veq_bool ?_; simp; omega) | (refine veq_bool ?_; rw [eq_comm, decide_eq_false_iff_not]; omega) | (refine veq_bool ?_; rw [eq_comm, decide_eq_true_iff]; omega) | (refine veq_int ?_; omega) | (refine veq_arr8 fun j hj => ?_; (try dsimp only); first | (simp; done) | (simp; omega) | ((repeat' split) <;> first | rfl | (exfalso; omega) | (congr 1; omega) | (simp_all; done))) | (exact veq_tup2 (veq_int (cc_n hp).1.symm) (veq_int (cc_n hp).2.symm)) | (exact veq_tup2 (veq_int (cc_over hp (by omega)).1.symm) (veq_int (cc_over hp (by omega)).2.symm)) | ((have h9 := cc_ok hp (by omega); exact veq_tup2 (veq_int (by rw [h9.1, goP_eq hx1]; rfl)) (veq_int h9.2.symm)))
  · try simp only [bs] at h1
    have hp : isPar L = true := (by simp_all); have hP := of_isPar hp
    refine W_skip ?_
    refine W_seq ?_
    refine W_region ?_
    refine Ops_p (p_move rfl) (lt_dec rfl) ?_
    refine Ops_x rfl (x_callT en_spec_l09Copy rfl (w_spec_l09Copy (by first | assumption | (first | omega | (dsimp only; omega)) | (simp; done) | decide)) HpDels.nil (Vw.rss m0) (fun _ => (HpDels.cons HpDel.head HpDels.nil)) (lt_dec rfl) fun x9_1 hx1 => ?_)
    refine Ops_p (p_build rfl rfl rfl rfl (by first | trivial | (first | omega | (dsimp only; omega)) | exact Fin.isLt _ | (dsimp only; omega))) (lt_dec rfl) ?_
    refine Ops_x rfl (x_box rfl rfl (lt_dec rfl) fun b11_1 => ?_)
    refine Ops_p (p_assign rfl) (lt_dec rfl) ?_
    refine Ops_nil ?_
    refine W_seq ?_
    refine W_region ?_
    refine Ops_p (p_move rfl) (lt_dec rfl) ?_
    refine Ops_x rfl (x_callT en_spec_l09Go rfl (w_spec_l09Go (one := false) (bw := b11_1) (v := x9_1.1.1) (hv := x9_1.1.2) (p := 0) (M := x9_1.2) (t := 0) (f := 0) (sn := 0) (sq := fun _ => 0) (of_isPar ((isPar_eq hx1).trans hp)) (Nat.zero_le _) FillP.zero (Nat.le_refl _) (by omega)) (HpDels.cons HpDel.head (HpDels.cons HpDel.head HpDels.nil)) (Vw.none _) (fun _ => (HpDels.cons HpDel.head (HpDels.cons HpDel.head HpDels.nil))) (lt_dec rfl) fun _ _ => ?_)
    refine Ops_nil ?_
    refine W_seq ?_
    refine W_seq ?_
    refine W_region ?_
    refine Ops_p (p_move rfl) (lt_dec rfl) ?_
    refine Ops_p (p_nilCheck rfl) (lt_dec rfl) ?_
    refine Ops_p (p_fieldAddr rfl rfl rfl rfl rfl rfl) (lt_dec rfl) ?_
    refine Ops_q (q_load rfl rfl m0 rfl (by first | trivial | (first | omega | (dsimp only; omega)) | exact Fin.isLt _ | (dsimp only; omega))) (lt_dec rfl) ?_
    refine Ops_p (p_gtr rfl rfl) (lt_dec rfl) ?_
    refine Ops_nil ?_
    refine W_cond rfl (fun h2 => ?_) (fun h2 => ?_)
    · try simp only [bs] at h2
      rw [goP_eq hx1] at h2; have hz9 : (20000 : Int) < ((goP false 0 L (0, 0, z0S)).1 : Nat) := h2
      refine W_seq ?_
      refine W_region ?_
      refine Ops_p (p_assign rfl) (lt_dec rfl) ?_
      refine Ops_p (p_assign rfl) (lt_dec rfl) ?_
      refine Ops_nil ?_
      refine W_ret ?_
      refine Exists.intro _ (And.intro (.cons (.tmp rfl) (.cons (.tmp rfl) .nil)) ?_)
      first | rfl | (refine veq_bool ?_; simp_all; done) | (refine veq_bool ?_; simp; omega) | (refine veq_bool ?_; rw [eq_comm, decide_eq_false_iff_not]; omega) | (refine veq_bool ?_; rw [eq_comm, decide_eq_true_iff]; omega) | (refine veq_int ?_; omega) | (refine veq_arr8 fun j hj => ?_; (try dsimp only); first | (simp; done) | (simp; omega) | ((repeat' split) <;> first | rfl | (exfalso; omega) | (congr 1; omega) | (simp_all; done))) | (exact veq_tup2 (veq_int (cc_n hp).1.symm) (veq_int (cc_n hp).2.symm)) | (exact veq_tup2 (veq_int (cc_over hp (by omega)).1.symm) (veq_int (cc_over hp (by omega)).2.symm)) | ((have h9 := cc_ok hp (by omega); exact veq_tup2 (veq_int (by rw [h9.1, goP_eq hx1]; rfl)) (veq_int h9.2.symm)))
    · try simp only [bs] at h2
      rw [goP_eq hx1] at h2; have hz9 : ((goP false 0 L (0, 0, z0S)).1 : Int) ≤ 20000 := h2
      refine W_skip ?_
      refine W_seq ?_
      refine W_region ?_
      refine Ops_p (p_move rfl) (lt_dec rfl) ?_
      refine Ops_p (p_nilCheck rfl) (lt_dec rfl) ?_
      refine Ops_p (p_fieldAddr rfl rfl rfl rfl rfl rfl) (lt_dec rfl) ?_
      refine Ops_q (q_load rfl rfl m0 rfl (by first | trivial | (first | omega | (dsimp only; omega)) | exact Fin.isLt _ | (dsimp only; omega))) (lt_dec rfl) ?_
      refine Ops_p (p_assign rfl) (lt_dec rfl) ?_
      refine Ops_p (p_assign rfl) (lt_dec rfl) ?_
      refine Ops_nil ?_
      refine W_ret ?_
      refine Exists.intro _ (And.intro (.cons (.tmp rfl) (.cons (.tmp rfl) .nil)) ?_)
      first | rfl | (refine veq_bool ?_; simp_all; done) | (refine veq_bool ?_; simp; omega) | (refine veq_bool ?_; rw [eq_comm, decide_eq_false_iff_not]; omega) | (refine veq_bool ?_; rw [eq_comm, decide_eq_true_iff]; omega) | (refine veq_int ?_; omega) | (refine veq_arr8 fun j hj => ?_; (try dsimp only); first | (simp; done) | (simp; omega) | ((repeat' split) <;> first | rfl | (exfalso; omega) | (congr 1; omega) | (simp_all; done))) | (exact veq_tup2 (veq_int (cc_n hp).1.symm) (veq_int (cc_n hp).2.symm)) | (exact veq_tup2 (veq_int (cc_over hp (by omega)).1.symm) (veq_int (cc_over hp (by omega)).2.symm)) | ((have h9 := cc_ok hp (by omega); exact veq_tup2 (veq_int (by rw [h9.1, goP_eq hx1]; rfl)) (veq_int h9.2.symm)))
end Go.Proofs.Ytdcpggdbjllmpab
