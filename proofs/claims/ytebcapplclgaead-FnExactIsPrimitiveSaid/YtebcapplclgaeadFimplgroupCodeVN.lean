/- What the Go function impl.groupCode@N does, shown of its loaded text; its conditions stand in the statement. -/
import Derived.Test.YtebcapplclgaeadTy
import Derived.Test.YtebcapplclgaeadFimplarePermutationsVR
import Derived.Test.YtebcapplclgaeadFimplwithin
import Derived.Test.YtebcapplclgaeadGx12
import Derived.Test.YtebcapplclgaeadM26
namespace Go.Proofs.Ytebcapplclgaead
open Go Gx
set_option linter.unusedVariables false
theorem en_impl_groupCodeVN : Enters Try.prog 112 := enters_of Try.func112 (by kernel_rfl) (by kernel_rfl)
set_option maxRecDepth 100000 in
theorem w_impl_groupCodeVN {a : Value} {ha : a.oneCell' = true} {l : List (Nat → Fin 256)} {n : Int} (hl : l.length ≤ 1048576) : CR Try.prog 112 (vals [.raw a ha, .int .i64 n, .raw (.slice none 0 0) rfl]) [rd a (.arrs 10 l)] (.int .i64 (psC l n)) := by
  refine CR_intro (rs := [.tmp 6]) tt tok Try.func112 rfl rfl rfl (by first | rfl | assumption) fun w => ?_
  refine W_seq ?_
  refine W_region ?_
  refine Ops_p (p_assign rfl) (lt_dec rfl) ?_
  refine Ops_nil ?_
  refine W_seq ?_
  refine W_block ?_
  refine W_seq ?_
  refine W_region ?_
  refine Ops_p (p_move rfl) (lt_dec rfl) ?_
  refine Ops_q (q_call en_impl_within rfl (w_impl_within) (View.none _)) (lt_dec rfl) ?_
  refine Ops_p (p_not rfl) (lt_dec rfl) ?_
  refine Ops_p (p_assign rfl) (lt_dec rfl) ?_
  refine Ops_nil ?_
  refine W_cond rfl (fun h1 => ?_) (fun h1 => ?_)
  · try simp only [bs] at h1
    refine W_seq ?_
    refine W_region ?_
    refine Ops_p (p_assign rfl) (lt_dec rfl) ?_
    refine Ops_nil ?_
    refine W_ret ?_
    refine Exists.intro _ (And.intro (.cons (.tmp rfl) .nil) ?_)
    first | rfl | (refine veq_bool ?_; simp_all; done) | (refine veq_bool ?_; simp; omega) | (refine veq_bool ?_; rw [eq_comm, decide_eq_false_iff_not]; omega) | (refine veq_bool ?_; rw [eq_comm, decide_eq_true_iff]; omega) | (refine veq_int ?_; omega) | (refine veq_arr8 fun j hj => ?_; (try dsimp only); first | (simp; done) | (simp; omega) | ((repeat' split) <;> first | rfl | (exfalso; omega) | (congr 1; omega) | (simp_all; done))) | (exact veq_int (psC_n (by assumption)).symm) | (exact veq_int (psC_1 (by assumption) (by assumption)).symm) | (exact veq_int (psC_2 (by assumption) (by assumption) (by omega)).symm) | (exact veq_int (psC_0 (by assumption) (by assumption) (by omega)).symm)
  · try simp only [bs] at h1
    refine W_seq ?_
    refine W_region ?_
    refine Ops_p (p_move rfl) (lt_dec rfl) ?_
    refine Ops_p (p_move rfl) (lt_dec rfl) ?_
    refine Ops_q (q_call en_impl_arePermutationsVR rfl (w_impl_arePermutationsVR (by first | assumption | (first | omega | (dsimp only; omega)) | (simp; done) | decide) (by first | assumption | (first | omega | (dsimp only; omega)) | (simp; done) | decide)) (Vw.rd m0).v) (lt_dec rfl) ?_
    refine Ops_p (p_not rfl) (lt_dec rfl) ?_
    refine Ops_p (p_assign rfl) (lt_dec rfl) ?_
    refine Ops_nil ?_
    refine W_cond rfl (fun h2 => ?_) (fun h2 => ?_)
    · try simp only [bs] at h2
      refine W_seq ?_
      refine W_region ?_
      refine Ops_p (p_assign rfl) (lt_dec rfl) ?_
      refine Ops_nil ?_
      refine W_ret ?_
      refine Exists.intro _ (And.intro (.cons (.tmp rfl) .nil) ?_)
      first | rfl | (refine veq_bool ?_; simp_all; done) | (refine veq_bool ?_; simp; omega) | (refine veq_bool ?_; rw [eq_comm, decide_eq_false_iff_not]; omega) | (refine veq_bool ?_; rw [eq_comm, decide_eq_true_iff]; omega) | (refine veq_int ?_; omega) | (refine veq_arr8 fun j hj => ?_; (try dsimp only); first | (simp; done) | (simp; omega) | ((repeat' split) <;> first | rfl | (exfalso; omega) | (congr 1; omega) | (simp_all; done))) | (exact veq_int (psC_n (by assumption)).symm) | (exact veq_int (psC_1 (by assumption) (by assumption)).symm) | (exact veq_int (psC_2 (by assumption) (by assumption) (by omega)).symm) | (exact veq_int (psC_0 (by assumption) (by assumption) (by omega)).symm)
    · try simp only [bs] at h2
      refine W_seq ?_
      refine W_region ?_
      refine Ops_p (p_move rfl) (lt_dec rfl) ?_
      refine Ops_q ((q_lenR rfl rfl rfl (Rds.rd m0)).eq (d' := .int .i64 ((l.length : Nat) : Int)) rfl) (lt_dec rfl) ?_
      refine Ops_p (p_gtr rfl rfl) (lt_dec rfl) ?_
      refine Ops_p (p_assign rfl) (lt_dec rfl) ?_
      refine Ops_nil ?_
      refine W_cond rfl (fun h3 => ?_) (fun h3 => ?_)
      · try simp only [bs] at h3
        refine W_seq ?_
        refine W_region ?_
        refine Ops_p (p_assign rfl) (lt_dec rfl) ?_
        refine Ops_nil ?_
        refine W_ret ?_
        refine Exists.intro _ (And.intro (.cons (.tmp rfl) .nil) ?_)
        first | rfl | (refine veq_bool ?_; simp_all; done) | (refine veq_bool ?_; simp; omega) | (refine veq_bool ?_; rw [eq_comm, decide_eq_false_iff_not]; omega) | (refine veq_bool ?_; rw [eq_comm, decide_eq_true_iff]; omega) | (refine veq_int ?_; omega) | (refine veq_arr8 fun j hj => ?_; (try dsimp only); first | (simp; done) | (simp; omega) | ((repeat' split) <;> first | rfl | (exfalso; omega) | (congr 1; omega) | (simp_all; done))) | (exact veq_int (psC_n (by assumption)).symm) | (exact veq_int (psC_1 (by assumption) (by assumption)).symm) | (exact veq_int (psC_2 (by assumption) (by assumption) (by omega)).symm) | (exact veq_int (psC_0 (by assumption) (by assumption) (by omega)).symm)
      · try simp only [bs] at h3
        refine W_skip ?_
        refine W_seq ?_
        refine W_seq ?_
        refine W_region ?_
        refine Ops_p (p_move rfl) (lt_dec rfl) ?_
        refine Ops_p (p_len_nil rfl rfl rfl) (lt_dec rfl) ?_
        refine Ops_p (p_move rfl) (lt_dec rfl) ?_
        refine Ops_nil ?_
        refine W_block ?_
        refine W_loop (α := Nat) (fun i => ⟨[(0, .raw a ha), (1, .int .i64 n), (2, .raw (.slice none 0 0) rfl), (10, .int .i64 n), (14, .int .i64 n), (15, .raw a ha), (16, .bool (psB l n)), (19, .raw a ha), (20, .int .i64 (l.length : Int)), (22, .raw (.slice none 0 0) rfl), (23, .int .i64 0), (24, .int .i64 (i : Int))], [rd a (.arrs 10 l)]⟩) (fun i => i ≤ 0) (fun i => 0 - i) 0 ?_ ?_ ?_
        · show _ ≤ _; omega
        · exact Wk.intro (.cons rfl (by first | rfl | exact veq_int (by first | omega | (dsimp only; omega))) (.cons rfl (by first | rfl | exact veq_int (by first | omega | (dsimp only; omega))) (.cons rfl (by first | rfl | exact veq_int (by first | omega | (dsimp only; omega))) (.cons rfl (by first | rfl | exact veq_int (by first | omega | (dsimp only; omega))) (.cons rfl (by first | rfl | exact veq_int (by first | omega | (dsimp only; omega))) (.cons rfl (by first | rfl | exact veq_int (by first | omega | (dsimp only; omega))) (.cons rfl (by first | rfl | exact veq_int (by first | omega | (dsimp only; omega))) (.cons rfl (by first | rfl | exact veq_int (by first | omega | (dsimp only; omega))) (.cons rfl (by first | rfl | exact veq_int (by first | omega | (dsimp only; omega))) (.cons rfl (by first | rfl | exact veq_int (by first | omega | (dsimp only; omega))) (.cons rfl (by first | rfl | exact veq_int (by first | omega | (dsimp only; omega))) (.cons rfl (by first | rfl | exact veq_int (by first | omega | (dsimp only; omega))) .nil)))))))))))) (.keep rfl rfl (fun _ h => h) .nil)
        · rintro i hR
          refine W_seq ?_
          refine W_region ?_
          refine Ops_p (p_lss rfl rfl) (lt_dec rfl) ?_
          refine Ops_nil ?_
          refine W_seq ?_
          refine W_cond rfl (fun h4 => ?_) (fun h4 => ?_)
          · try simp only [bs] at h4
            exfalso; omega
          · try simp only [bs] at h4
            refine W_exit ?_
            refine W_seq ?_
            refine W_region ?_
            refine Ops_p (p_assign rfl) (lt_dec rfl) ?_
            refine Ops_nil ?_
            refine W_ret ?_
            refine Exists.intro _ (And.intro (.cons (.tmp rfl) .nil) ?_)
            first | rfl | (refine veq_bool ?_; simp_all; done) | (refine veq_bool ?_; simp; omega) | (refine veq_bool ?_; rw [eq_comm, decide_eq_false_iff_not]; omega) | (refine veq_bool ?_; rw [eq_comm, decide_eq_true_iff]; omega) | (refine veq_int ?_; omega) | (refine veq_arr8 fun j hj => ?_; (try dsimp only); first | (simp; done) | (simp; omega) | ((repeat' split) <;> first | rfl | (exfalso; omega) | (congr 1; omega) | (simp_all; done))) | (exact veq_int (psC_n (by assumption)).symm) | (exact veq_int (psC_1 (by assumption) (by assumption)).symm) | (exact veq_int (psC_2 (by assumption) (by assumption) (by omega)).symm) | (exact veq_int (psC_0 (by assumption) (by assumption) (by omega)).symm)
end Go.Proofs.Ytebcapplclgaead
