/- What the Go function impl.CountCompletions does, shown of its loaded text; its conditions stand in the statement. -/
import Derived.Test.YtdcpggdbjllmpabTy
import Derived.Test.YtdcpggdbjllmpabFimplcellscomplete
import Derived.Test.YtdcpggdbjllmpabFimplCountCompletionsX1
import Derived.Test.YtdcpggdbjllmpabFimplCountCompletionsX2
import Derived.Test.YtdcpggdbjllmpabFimplcellsOf
import Derived.Test.YtdcpggdbjllmpabGx12
import Derived.Test.YtdcpggdbjllmpabGx20
import Derived.Test.YtdcpggdbjllmpabGx28
import Derived.Test.YtdcpggdbjllmpabM24
import Derived.Test.YtdcpggdbjllmpabM34
namespace Go.Proofs.Ytdcpggdbjllmpab
open Go Gx
set_option linter.unusedVariables false
theorem en_impl_CountCompletions : Enters Try.prog 22 := enters_of Try.func22 (by kernel_rfl) (by kernel_rfl)
set_option maxRecDepth 100000 in
set_option maxHeartbeats 1000000 in
theorem w_impl_CountCompletions {a : Value} {ha : a.oneCell' = true} {L : SL}  : CR Try.prog 22 (vals [.raw a ha]) [rss a L] (.tup [.int .i64 (ccN L), .int .i64 (ccC L)]) := by
  refine CR_intro (rs := [.tmp 2, .tmp 3]) tt tok Try.func22 rfl rfl rfl (by first | rfl | assumption) fun w => ?_
  refine W_seq ?_
  refine W_region ?_
  refine Ops_p (p_assign rfl) (lt_dec rfl) ?_
  refine Ops_p (p_assign rfl) (lt_dec rfl) ?_
  refine Ops_nil ?_
  refine W_seq ?_
  refine W_region ?_
  refine Ops_p (p_move rfl) (lt_dec rfl) ?_
  refine Ops_x rfl (x_callT en_impl_cellsOf rfl (w_impl_cellsOf) HpDels.nil (Vw.rss m0) (fun _ => HpDels.nil) (lt_dec rfl) fun x11_1 hx1 => ?_)
  refine Ops_p (p_move rfl) (lt_dec rfl) ?_
  refine Ops_p (p_extract rfl rfl) (lt_dec rfl) ?_
  refine Ops_p (p_extract rfl rfl) (lt_dec rfl) ?_
  refine Ops_x rfl (x_alloc rfl (lt_dec rfl) fun b4_1 => ?_)
  refine Ops_x rfl (x_store rfl rfl rfl rfl rfl HpRep.head rfl (by first | trivial | (first | (first | omega | (dsimp only; omega)) | exact Fin.isLt _)) ?_)
  refine Ops_p (p_assign rfl) (lt_dec rfl) ?_
  refine Ops_nil ?_
  refine W_seq ?_
  refine W_seq ?_
  refine W_region ?_
  refine Ops_p (p_move rfl) (lt_dec rfl) ?_
  refine Ops_p (p_not rfl) (lt_dec rfl) ?_
  refine Ops_nil ?_
  refine W_cond rfl (fun h1 => ?_) (fun h1 => ?_)
  · try simp only [bs] at h1
    have hp : isPar L = false := (by simp_all)
    refine W_seq ?_
    refine W_region ?_
    refine Ops_p (p_assign rfl) (lt_dec rfl) ?_
    refine Ops_p (p_assign rfl) (lt_dec rfl) ?_
    refine Ops_nil ?_
    refine W_ret ?_
    refine Exists.intro _ (And.intro (.cons (.tmp rfl) (.cons (.tmp rfl) .nil)) ?_)
    first | rfl | (refine veq_bool ?_; simp_all; done) | (refine veq_bool ?_; simp; omega) | (refine veq_bool ?_; rw [eq_comm, decide_eq_false_iff_not]; omega) | (refine veq_bool ?_; rw [eq_comm, decide_eq_true_iff]; omega) | (refine veq_int ?_; omega) | (refine veq_arr8 fun j hj => ?_; (try dsimp only); first | (simp; done) | (simp; omega) | ((repeat' split) <;> first | rfl | (exfalso; omega) | (congr 1; omega) | (simp_all; done))) | (exact veq_tup2 (veq_int (cc_n hp).1.symm) (veq_int (cc_n hp).2.symm)) | (exact veq_tup2 (veq_int (cc_impl_f hp hb).1.symm) (veq_int (cc_impl_f hp hb).2.symm)) | (exact veq_tup2 (veq_int (cc_impl_t hp hb).1.symm) (veq_int (cc_impl_t hp hb).2.symm))
  · try simp only [bs] at h1
    have hp : isPar L = true := (by simp_all); have hP := of_isPar hp; have e12 := hx1 hp; subst e12
    refine W_skip ?_
    refine W_seq ?_
    refine W_region ?_
    refine Ops_x rfl (x_alloc rfl (lt_dec rfl) fun b6_1 => ?_)
    refine Ops_x rfl (x_alloc rfl (lt_dec rfl) fun b7_1 => ?_)
    refine Ops_x rfl (x_store rfl rfl rfl rfl rfl ((HpRep.head).tail) rfl (by first | trivial | (first | (first | omega | (dsimp only; omega)) | exact Fin.isLt _)) ?_)
    refine Ops_x rfl (x_store rfl rfl rfl rfl rfl HpRep.head rfl (by first | trivial | (first | (first | omega | (dsimp only; omega)) | exact Fin.isLt _)) ?_)
    refine Ops_nil ?_
    refine W_seq ?_
    refine W_region ?_
    refine Ops_q (q_load rfl rfl m2 rfl (by first | trivial | (first | omega | (dsimp only; omega)) | exact Fin.isLt _ | (dsimp only; omega))) (lt_dec rfl) ?_
    refine Ops_p (p_makeFunc rfl rfl) (lt_dec rfl) ?_
    refine Ops_p (p_makeFunc rfl rfl) (lt_dec rfl) ?_
    refine Ops_x rfl (x_callT en_impl_cells_complete rfl (w_impl_cells_complete (Z := Nat) (S := fun z => .var b6_1 (.int .i64 (z : Int))) (vis := visC) (okz := fun t z => z ≤ t) (bt := b7_1) (cf := #[(D.ptr b7_1 0 none).val]) (cg := #[(D.ptr b6_1 0 none).val]) en_impl_CountCompletionsX1 en_impl_CountCompletionsX2 (fun t ht => w_impl_CountCompletionsX1 ht) (fun M t z _ _ hz ht => w_impl_CountCompletionsX2 (Nat.le_trans hz ht)) (fun _ => rfl) (fun t z h => Nat.le_succ_of_le h) (fun M t z h => visC_ok h) (p := 0) (M := L) (t := 0) (z := 0) hP (Nat.zero_le _) FillP.zero (Nat.le_refl _) (by omega)) (HpDels.cons HpDel.head (HpDels.cons HpDel.head HpDels.nil)) (Vw.none _) (fun _ => (HpDels.cons HpDel.head (HpDels.cons HpDel.head HpDels.nil))) (lt_dec rfl) fun _ _ => ?_)
    refine Ops_p (p_assign rfl) (lt_dec rfl) ?_
    refine Ops_nil ?_
    refine W_seq ?_
    refine W_seq ?_
    refine W_region ?_
    refine Ops_p (p_move rfl) (lt_dec rfl) ?_
    refine Ops_p (p_not rfl) (lt_dec rfl) ?_
    refine Ops_nil ?_
    refine W_cond rfl (fun h2 => ?_) (fun h2 => ?_)
    · try simp only [bs] at h2
      have hb := h2
      refine W_seq ?_
      refine W_region ?_
      refine Ops_p (p_assign rfl) (lt_dec rfl) ?_
      refine Ops_p (p_assign rfl) (lt_dec rfl) ?_
      refine Ops_nil ?_
      refine W_ret ?_
      refine Exists.intro _ (And.intro (.cons (.tmp rfl) (.cons (.tmp rfl) .nil)) ?_)
      first | rfl | (refine veq_bool ?_; simp_all; done) | (refine veq_bool ?_; simp; omega) | (refine veq_bool ?_; rw [eq_comm, decide_eq_false_iff_not]; omega) | (refine veq_bool ?_; rw [eq_comm, decide_eq_true_iff]; omega) | (refine veq_int ?_; omega) | (refine veq_arr8 fun j hj => ?_; (try dsimp only); first | (simp; done) | (simp; omega) | ((repeat' split) <;> first | rfl | (exfalso; omega) | (congr 1; omega) | (simp_all; done))) | (exact veq_tup2 (veq_int (cc_n hp).1.symm) (veq_int (cc_n hp).2.symm)) | (exact veq_tup2 (veq_int (cc_impl_f hp hb).1.symm) (veq_int (cc_impl_f hp hb).2.symm)) | (exact veq_tup2 (veq_int (cc_impl_t hp hb).1.symm) (veq_int (cc_impl_t hp hb).2.symm))
    · try simp only [bs] at h2
      have hb := h2
      refine W_skip ?_
      refine W_seq ?_
      refine W_region ?_
      refine Ops_q (q_load rfl rfl m1 rfl (by first | trivial | (first | omega | (dsimp only; omega)) | exact Fin.isLt _ | (dsimp only; omega))) (lt_dec rfl) ?_
      refine Ops_p (p_assign rfl) (lt_dec rfl) ?_
      refine Ops_p (p_assign rfl) (lt_dec rfl) ?_
      refine Ops_nil ?_
      refine W_ret ?_
      refine Exists.intro _ (And.intro (.cons (.tmp rfl) (.cons (.tmp rfl) .nil)) ?_)
      first | rfl | (refine veq_bool ?_; simp_all; done) | (refine veq_bool ?_; simp; omega) | (refine veq_bool ?_; rw [eq_comm, decide_eq_false_iff_not]; omega) | (refine veq_bool ?_; rw [eq_comm, decide_eq_true_iff]; omega) | (refine veq_int ?_; omega) | (refine veq_arr8 fun j hj => ?_; (try dsimp only); first | (simp; done) | (simp; omega) | ((repeat' split) <;> first | rfl | (exfalso; omega) | (congr 1; omega) | (simp_all; done))) | (exact veq_tup2 (veq_int (cc_n hp).1.symm) (veq_int (cc_n hp).2.symm)) | (exact veq_tup2 (veq_int (cc_impl_f hp hb).1.symm) (veq_int (cc_impl_f hp hb).2.symm)) | (exact veq_tup2 (veq_int (cc_impl_t hp hb).1.symm) (veq_int (cc_impl_t hp hb).2.symm))
end Go.Proofs.Ytdcpggdbjllmpab
