/- What the Go function spec.CompleteSquare does, shown of its loaded text; its conditions stand in the statement. -/
import Derived.Test.YtdcpggdbjllmpabTy
import Derived.Test.YtdcpggdbjllmpabFspecl09Copy
import Derived.Test.YtdcpggdbjllmpabFspecl09Go
import Derived.Test.YtdcpggdbjllmpabFspecl09Is
import Derived.Test.YtdcpggdbjllmpabGx12
import Derived.Test.YtdcpggdbjllmpabGx20
import Derived.Test.YtdcpggdbjllmpabGx28
import Derived.Test.YtdcpggdbjllmpabM24
import Derived.Test.YtdcpggdbjllmpabM34
namespace Go.Proofs.Ytdcpggdbjllmpab
open Go Gx
set_option linter.unusedVariables false
theorem en_spec_CompleteSquare : Enters Try.prog 24 := enters_of Try.func24 (by kernel_rfl) (by kernel_rfl)
set_option maxRecDepth 100000 in
theorem w_spec_CompleteSquare {a : Value} {ha : a.oneCell' = true} {L : SL}  : CR Try.prog 24 (vals [.raw a ha]) [rss a L] (.tup [.agg [.int .i64 (cqS L).1, .arr8 100 (cqS L).2], .int .i64 (cqC L)]) := by
  refine CR_intro (rs := [.cell 2 45, .tmp 3]) tt tok Try.func24 rfl rfl rfl (by first | rfl | assumption) fun w => ?_
  refine W_seq ?_
  refine W_region ?_
  refine Ops_x rfl (x_alloc rfl (lt_dec rfl) fun b2_1 => ?_)
  refine Ops_p (p_assign rfl) (lt_dec rfl) ?_
  refine Ops_nil ?_
  refine W_seq ?_
  refine W_seq ?_
  refine W_region ?_
  refine Ops_p (p_move rfl) (lt_dec rfl) ?_
  refine Ops_q (q_call en_spec_l09Is rfl (w_spec_l09Is) (Vw.rss m1).v) (lt_dec rfl) ?_
  refine Ops_p (p_not rfl) (lt_dec rfl) ?_
  refine Ops_nil ?_
  refine W_cond rfl (fun h1 => ?_) (fun h1 => ?_)
  · try simp only [bs] at h1
    have hp : isPar L = false := (by simp_all)
    refine W_seq ?_
    refine W_region ?_
    refine Ops_p (p_build rfl rfl rfl rfl (by first | trivial | (first | omega | (dsimp only; omega)) | exact Fin.isLt _ | (dsimp only; omega))) (lt_dec rfl) ?_
    refine Ops_x rfl (x_store rfl rfl rfl rfl rfl HpRep.head rfl (by first | trivial | (first | (first | omega | (dsimp only; omega)) | exact Fin.isLt _)) ?_)
    refine Ops_p (p_assign rfl) (lt_dec rfl) ?_
    refine Ops_nil ?_
    refine W_ret ?_
    refine Exists.intro _ (And.intro (.cons (.cell rfl rfl m0 rfl trivial) (.cons (.tmp rfl) .nil)) ?_)
    first | rfl | (refine veq_bool ?_; simp_all; done) | (refine veq_bool ?_; simp; omega) | (refine veq_bool ?_; rw [eq_comm, decide_eq_false_iff_not]; omega) | (refine veq_bool ?_; rw [eq_comm, decide_eq_true_iff]; omega) | (refine veq_int ?_; omega) | (refine veq_arr8 fun j hj => ?_; (try dsimp only); first | (simp; done) | (simp; omega) | ((repeat' split) <;> first | rfl | (exfalso; omega) | (congr 1; omega) | (simp_all; done))) | ((rw [cqS_n (cq_1 hp) (by decide), cq_1 hp]; rfl)) | ((rw [cqS_0 h0, h0, goP_eq hx1]; rfl)) | ((rw [cqS_n h3 (by decide), h3]; rfl)) | ((rw [cqS_n h4 (by decide), h4]; rfl))
  · try simp only [bs] at h1
    have hp : isPar L = true := (by simp_all); have hP := of_isPar hp
    refine W_skip ?_
    refine W_seq ?_
    refine W_region ?_
    refine Ops_p (p_move rfl) (lt_dec rfl) ?_
    refine Ops_x rfl (x_callT en_spec_l09Copy rfl (w_spec_l09Copy (by first | assumption | (first | omega | (dsimp only; omega)) | (simp; done) | decide)) HpDels.nil (Vw.rss m1) (fun _ => (HpDels.cons HpDel.head HpDels.nil)) (lt_dec rfl) fun x10_1 hx1 => ?_)
    refine Ops_p (p_build rfl rfl rfl rfl (by first | trivial | (first | omega | (dsimp only; omega)) | exact Fin.isLt _ | (dsimp only; omega))) (lt_dec rfl) ?_
    refine Ops_x rfl (x_box rfl rfl (lt_dec rfl) fun b12_1 => ?_)
    refine Ops_p (p_assign rfl) (lt_dec rfl) ?_
    refine Ops_nil ?_
    refine W_seq ?_
    refine W_region ?_
    refine Ops_p (p_move rfl) (lt_dec rfl) ?_
    refine Ops_x rfl (x_callT en_spec_l09Go rfl (w_spec_l09Go (one := true) (bw := b12_1) (v := x10_1.1.1) (hv := x10_1.1.2) (p := 0) (M := x10_1.2) (t := 0) (f := 0) (sn := 0) (sq := fun _ => 0) (of_isPar ((isPar_eq hx1).trans hp)) (Nat.zero_le _) FillP.zero (Nat.le_refl _) (by omega)) (HpDels.cons HpDel.head (HpDels.cons HpDel.head HpDels.nil)) (Vw.none _) (fun _ => (HpDels.cons HpDel.head (HpDels.cons HpDel.head HpDels.nil))) (lt_dec rfl) fun _ _ => ?_)
    refine Ops_nil ?_
    refine W_seq ?_
    refine W_block ?_
    refine W_seq ?_
    refine W_region ?_
    refine Ops_p (p_move rfl) (lt_dec rfl) ?_
    refine Ops_p (p_nilCheck rfl) (lt_dec rfl) ?_
    refine Ops_p (p_fieldAddr rfl rfl rfl rfl rfl rfl) (lt_dec rfl) ?_
    refine Ops_q (q_load rfl rfl m0 rfl (by first | trivial | (first | omega | (dsimp only; omega)) | exact Fin.isLt _ | (dsimp only; omega))) (lt_dec rfl) ?_
    refine Ops_p (p_gtr rfl rfl) (lt_dec rfl) ?_
    refine Ops_p (p_assign rfl) (lt_dec rfl) ?_
    refine Ops_nil ?_
    refine W_cond rfl (fun h2 => ?_) (fun h2 => ?_)
    · try simp only [bs] at h2
      rw [goP_eq hx1] at h2; have hz9 : (0 : Int) < ((goP true 0 L (0, 0, z0S)).2.1 : Nat) := h2; have h0 := cq_0 hp (by omega)
      refine W_seq ?_
      refine W_region ?_
      refine Ops_p (p_move rfl) (lt_dec rfl) ?_
      refine Ops_p (p_nilCheck rfl) (lt_dec rfl) ?_
      refine Ops_p (p_fieldAddr rfl rfl rfl rfl rfl rfl) (lt_dec rfl) ?_
      refine Ops_q (q_load rfl rfl m0 rfl (by first | trivial | (first | omega | (dsimp only; omega)) | exact Fin.isLt _ | (dsimp only; omega))) (lt_dec rfl) ?_
      refine Ops_x rfl (x_store rfl rfl rfl rfl rfl (((HpRep.head).tail).tail) rfl (by first | trivial | (first | (first | omega | (dsimp only; omega)) | exact Fin.isLt _)) ?_)
      refine Ops_p (p_assign rfl) (lt_dec rfl) ?_
      refine Ops_nil ?_
      refine W_ret ?_
      refine Exists.intro _ (And.intro (.cons (.cell rfl rfl m2 rfl trivial) (.cons (.tmp rfl) .nil)) ?_)
      first | rfl | (refine veq_bool ?_; simp_all; done) | (refine veq_bool ?_; simp; omega) | (refine veq_bool ?_; rw [eq_comm, decide_eq_false_iff_not]; omega) | (refine veq_bool ?_; rw [eq_comm, decide_eq_true_iff]; omega) | (refine veq_int ?_; omega) | (refine veq_arr8 fun j hj => ?_; (try dsimp only); first | (simp; done) | (simp; omega) | ((repeat' split) <;> first | rfl | (exfalso; omega) | (congr 1; omega) | (simp_all; done))) | ((rw [cqS_n (cq_1 hp) (by decide), cq_1 hp]; rfl)) | ((rw [cqS_0 h0, h0, goP_eq hx1]; rfl)) | ((rw [cqS_n h3 (by decide), h3]; rfl)) | ((rw [cqS_n h4 (by decide), h4]; rfl))
    · try simp only [bs] at h2
      rw [goP_eq hx1] at h2; have hz9 : ((goP true 0 L (0, 0, z0S)).2.1 : Int) ≤ 0 := h2
      refine W_seq ?_
      refine W_region ?_
      refine Ops_p (p_move rfl) (lt_dec rfl) ?_
      refine Ops_p (p_nilCheck rfl) (lt_dec rfl) ?_
      refine Ops_p (p_fieldAddr rfl rfl rfl rfl rfl rfl) (lt_dec rfl) ?_
      refine Ops_q (q_load rfl rfl m0 rfl (by first | trivial | (first | omega | (dsimp only; omega)) | exact Fin.isLt _ | (dsimp only; omega))) (lt_dec rfl) ?_
      refine Ops_p (p_geq rfl rfl) (lt_dec rfl) ?_
      refine Ops_p (p_assign rfl) (lt_dec rfl) ?_
      refine Ops_nil ?_
      refine W_cond rfl (fun h3 => ?_) (fun h3 => ?_)
      · try simp only [bs] at h3
        rw [goP_eq hx1] at h3; have hz8 : (20000 : Int) ≤ ((goP true 0 L (0, 0, z0S)).1 : Nat) := h3; have h3 := cq_3 hp (by omega) (by omega)
        refine W_seq ?_
        refine W_region ?_
        refine Ops_p (p_build rfl rfl rfl rfl (by first | trivial | (first | omega | (dsimp only; omega)) | exact Fin.isLt _ | (dsimp only; omega))) (lt_dec rfl) ?_
        refine Ops_x rfl (x_store rfl rfl rfl rfl rfl (((HpRep.head).tail).tail) rfl (by first | trivial | (first | (first | omega | (dsimp only; omega)) | exact Fin.isLt _)) ?_)
        refine Ops_p (p_assign rfl) (lt_dec rfl) ?_
        refine Ops_nil ?_
        refine W_ret ?_
        refine Exists.intro _ (And.intro (.cons (.cell rfl rfl m2 rfl trivial) (.cons (.tmp rfl) .nil)) ?_)
        first | rfl | (refine veq_bool ?_; simp_all; done) | (refine veq_bool ?_; simp; omega) | (refine veq_bool ?_; rw [eq_comm, decide_eq_false_iff_not]; omega) | (refine veq_bool ?_; rw [eq_comm, decide_eq_true_iff]; omega) | (refine veq_int ?_; omega) | (refine veq_arr8 fun j hj => ?_; (try dsimp only); first | (simp; done) | (simp; omega) | ((repeat' split) <;> first | rfl | (exfalso; omega) | (congr 1; omega) | (simp_all; done))) | ((rw [cqS_n (cq_1 hp) (by decide), cq_1 hp]; rfl)) | ((rw [cqS_0 h0, h0, goP_eq hx1]; rfl)) | ((rw [cqS_n h3 (by decide), h3]; rfl)) | ((rw [cqS_n h4 (by decide), h4]; rfl))
      · try simp only [bs] at h3
        rw [goP_eq hx1] at h3; have hz8 : ((goP true 0 L (0, 0, z0S)).1 : Int) < 20000 := h3; have h4 := cq_4 hp (by omega) (by omega)
        refine W_skip ?_
        refine W_seq ?_
        refine W_region ?_
        refine Ops_p (p_build rfl rfl rfl rfl (by first | trivial | (first | omega | (dsimp only; omega)) | exact Fin.isLt _ | (dsimp only; omega))) (lt_dec rfl) ?_
        refine Ops_x rfl (x_store rfl rfl rfl rfl rfl (((HpRep.head).tail).tail) rfl (by first | trivial | (first | (first | omega | (dsimp only; omega)) | exact Fin.isLt _)) ?_)
        refine Ops_p (p_assign rfl) (lt_dec rfl) ?_
        refine Ops_nil ?_
        refine W_ret ?_
        refine Exists.intro _ (And.intro (.cons (.cell rfl rfl m2 rfl trivial) (.cons (.tmp rfl) .nil)) ?_)
        first | rfl | (refine veq_bool ?_; simp_all; done) | (refine veq_bool ?_; simp; omega) | (refine veq_bool ?_; rw [eq_comm, decide_eq_false_iff_not]; omega) | (refine veq_bool ?_; rw [eq_comm, decide_eq_true_iff]; omega) | (refine veq_int ?_; omega) | (refine veq_arr8 fun j hj => ?_; (try dsimp only); first | (simp; done) | (simp; omega) | ((repeat' split) <;> first | rfl | (exfalso; omega) | (congr 1; omega) | (simp_all; done))) | ((rw [cqS_n (cq_1 hp) (by decide), cq_1 hp]; rfl)) | ((rw [cqS_0 h0, h0, goP_eq hx1]; rfl)) | ((rw [cqS_n h3 (by decide), h3]; rfl)) | ((rw [cqS_n h4 (by decide), h4]; rfl))
end Go.Proofs.Ytdcpggdbjllmpab
