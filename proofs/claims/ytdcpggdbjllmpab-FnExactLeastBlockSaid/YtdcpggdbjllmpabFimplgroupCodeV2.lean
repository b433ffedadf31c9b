/- What the Go function impl.groupCode@2 does, shown of its loaded text; its conditions stand in the statement. -/
import Derived.Test.YtdcpggdbjllmpabTy
import Derived.Test.YtdcpggdbjllmpabFimplarePermutationsVR
import Derived.Test.YtdcpggdbjllmpabFimplwithin
import Derived.Test.YtdcpggdbjllmpabGx12
import Derived.Test.YtdcpggdbjllmpabGx20
import Derived.Test.YtdcpggdbjllmpabGx26
import Derived.Test.YtdcpggdbjllmpabM32
namespace Go.Proofs.Ytdcpggdbjllmpab
open Go Gx
set_option linter.unusedVariables false
theorem en_impl_groupCodeV2 : Enters Try.prog 49 := enters_of Try.func49 (by kernel_rfl) (by kernel_rfl)
set_option maxRecDepth 100000 in
theorem w_impl_groupCodeV2 {a : Value} {ha : a.oneCell' = true} {l : List (Nat → Fin 256)} {n x y : Int} {b c : Nat} (hl : l.length ≤ 1048576) : CR Try.prog 49 (vals [.raw a ha, .int .i64 n, .sl b 0 2 c]) [rd a (.arrs 10 l), .ro b 0 (.ints .i64 [x, y])] (.int .i64 (psD l n x y)) := by
  refine CR_intro (rs := [.tmp 6]) tt tok Try.func49 rfl rfl rfl (by first | rfl | assumption) fun w => ?_
  refine W_seq ?_
  refine W_region ?_
  refine Ops_p (p_assign rfl) (lt_dec rfl) ?_
  refine Ops_nil ?_
  refine W_seq ?_
  refine W_block ?_
  refine W_seq ?_
  refine W_region ?_
  refine Ops_p (p_move rfl) (lt_dec rfl) ?_
  refine Ops_q (q_call en_impl_within rfl (w_impl_within) (View.none _)) (lt_dec rfl) ?_
  refine Ops_p (p_not rfl) (lt_dec rfl) ?_
  refine Ops_p (p_assign rfl) (lt_dec rfl) ?_
  refine Ops_nil ?_
  refine W_cond rfl (fun h1 => ?_) (fun h1 => ?_)
  · try simp only [bs] at h1
    refine W_seq ?_
    refine W_region ?_
    refine Ops_p (p_assign rfl) (lt_dec rfl) ?_
    refine Ops_nil ?_
    refine W_ret ?_
    refine Exists.intro _ (And.intro (.cons (.tmp rfl) .nil) ?_)
    first | rfl | (refine veq_bool ?_; simp_all; done) | (refine veq_bool ?_; simp; omega) | (refine veq_bool ?_; rw [eq_comm, decide_eq_false_iff_not]; omega) | (refine veq_bool ?_; rw [eq_comm, decide_eq_true_iff]; omega) | (refine veq_int ?_; omega) | (refine veq_arr8 fun j hj => ?_; (try dsimp only); first | (simp; done) | (simp; omega) | ((repeat' split) <;> first | rfl | (exfalso; omega) | (congr 1; omega) | (simp_all; done))) | (exact veq_int ((psD_c (by rw [psC_n (by assumption)]; decide)).trans (psC_n (by assumption))).symm) | (exact veq_int ((psD_c (by rw [psC_1 (by assumption) (by assumption)]; decide)).trans (psC_1 (by assumption) (by assumption))).symm) | (exact veq_int ((psD_c (by rw [psC_2 (by assumption) (by assumption) (by omega)]; decide)).trans (psC_2 (by assumption) (by assumption) (by omega))).symm) | (exact veq_int (psD_2 (i := 0) (psC_0 (by assumption) (by assumption) (by omega)) (inN_f (i := i) (by omega) (by assumption))).symm) | (exact veq_int (psD_0 (psC_0 (by assumption) (by assumption) (by omega)) (inN_t hR)).symm) | (exact veq_int (psD_2 (psC_0 (by assumption) (by assumption) (by omega)) (inN_f (i := i) (by omega) (by assumption))).symm)
  · try simp only [bs] at h1
    refine W_seq ?_
    refine W_region ?_
    refine Ops_p (p_move rfl) (lt_dec rfl) ?_
    refine Ops_p (p_move rfl) (lt_dec rfl) ?_
    refine Ops_q (q_call en_impl_arePermutationsVR rfl (w_impl_arePermutationsVR (by first | assumption | (first | omega | (dsimp only; omega)) | (simp; done) | decide) (by first | assumption | (first | omega | (dsimp only; omega)) | (simp; done) | decide)) (Vw.rd m0).v) (lt_dec rfl) ?_
    refine Ops_p (p_not rfl) (lt_dec rfl) ?_
    refine Ops_p (p_assign rfl) (lt_dec rfl) ?_
    refine Ops_nil ?_
    refine W_cond rfl (fun h2 => ?_) (fun h2 => ?_)
    · try simp only [bs] at h2
      refine W_seq ?_
      refine W_region ?_
      refine Ops_p (p_assign rfl) (lt_dec rfl) ?_
      refine Ops_nil ?_
      refine W_ret ?_
      refine Exists.intro _ (And.intro (.cons (.tmp rfl) .nil) ?_)
      first | rfl | (refine veq_bool ?_; simp_all; done) | (refine veq_bool ?_; simp; omega) | (refine veq_bool ?_; rw [eq_comm, decide_eq_false_iff_not]; omega) | (refine veq_bool ?_; rw [eq_comm, decide_eq_true_iff]; omega) | (refine veq_int ?_; omega) | (refine veq_arr8 fun j hj => ?_; (try dsimp only); first | (simp; done) | (simp; omega) | ((repeat' split) <;> first | rfl | (exfalso; omega) | (congr 1; omega) | (simp_all; done))) | (exact veq_int ((psD_c (by rw [psC_n (by assumption)]; decide)).trans (psC_n (by assumption))).symm) | (exact veq_int ((psD_c (by rw [psC_1 (by assumption) (by assumption)]; decide)).trans (psC_1 (by assumption) (by assumption))).symm) | (exact veq_int ((psD_c (by rw [psC_2 (by assumption) (by assumption) (by omega)]; decide)).trans (psC_2 (by assumption) (by assumption) (by omega))).symm) | (exact veq_int (psD_2 (i := 0) (psC_0 (by assumption) (by assumption) (by omega)) (inN_f (i := i) (by omega) (by assumption))).symm) | (exact veq_int (psD_0 (psC_0 (by assumption) (by assumption) (by omega)) (inN_t hR)).symm) | (exact veq_int (psD_2 (psC_0 (by assumption) (by assumption) (by omega)) (inN_f (i := i) (by omega) (by assumption))).symm)
    · try simp only [bs] at h2
      refine W_seq ?_
      refine W_region ?_
      refine Ops_p (p_move rfl) (lt_dec rfl) ?_
      refine Ops_q ((q_lenR rfl rfl rfl (Rds.rd m0)).eq (d' := .int .i64 ((l.length : Nat) : Int)) rfl) (lt_dec rfl) ?_
      refine Ops_p (p_gtr rfl rfl) (lt_dec rfl) ?_
      refine Ops_p (p_assign rfl) (lt_dec rfl) ?_
      refine Ops_nil ?_
      refine W_cond rfl (fun h3 => ?_) (fun h3 => ?_)
      · try simp only [bs] at h3
        refine W_seq ?_
        refine W_region ?_
        refine Ops_p (p_assign rfl) (lt_dec rfl) ?_
        refine Ops_nil ?_
        refine W_ret ?_
        refine Exists.intro _ (And.intro (.cons (.tmp rfl) .nil) ?_)
        first | rfl | (refine veq_bool ?_; simp_all; done) | (refine veq_bool ?_; simp; omega) | (refine veq_bool ?_; rw [eq_comm, decide_eq_false_iff_not]; omega) | (refine veq_bool ?_; rw [eq_comm, decide_eq_true_iff]; omega) | (refine veq_int ?_; omega) | (refine veq_arr8 fun j hj => ?_; (try dsimp only); first | (simp; done) | (simp; omega) | ((repeat' split) <;> first | rfl | (exfalso; omega) | (congr 1; omega) | (simp_all; done))) | (exact veq_int ((psD_c (by rw [psC_n (by assumption)]; decide)).trans (psC_n (by assumption))).symm) | (exact veq_int ((psD_c (by rw [psC_1 (by assumption) (by assumption)]; decide)).trans (psC_1 (by assumption) (by assumption))).symm) | (exact veq_int ((psD_c (by rw [psC_2 (by assumption) (by assumption) (by omega)]; decide)).trans (psC_2 (by assumption) (by assumption) (by omega))).symm) | (exact veq_int (psD_2 (i := 0) (psC_0 (by assumption) (by assumption) (by omega)) (inN_f (i := i) (by omega) (by assumption))).symm) | (exact veq_int (psD_0 (psC_0 (by assumption) (by assumption) (by omega)) (inN_t hR)).symm) | (exact veq_int (psD_2 (psC_0 (by assumption) (by assumption) (by omega)) (inN_f (i := i) (by omega) (by assumption))).symm)
      · try simp only [bs] at h3
        refine W_skip ?_
        refine W_seq ?_
        refine W_seq ?_
        refine W_region ?_
        refine Ops_p (p_move rfl) (lt_dec rfl) ?_
        refine Ops_p (p_len rfl rfl rfl) (lt_dec rfl) ?_
        refine Ops_p (p_move rfl) (lt_dec rfl) ?_
        refine Ops_nil ?_
        refine W_block ?_
        refine W_loop (α := Nat) (fun i => ⟨[(0, .raw a ha), (1, .int .i64 n), (2, .sl b 0 2 c), (10, .int .i64 n), (14, .int .i64 n), (15, .raw a ha), (16, .bool (psB l n)), (19, .raw a ha), (20, .int .i64 (l.length : Int)), (22, .sl b 0 2 c), (23, .int .i64 2), (24, .int .i64 (i : Int))], [rd a (.arrs 10 l), .ro b 0 (.ints .i64 [x, y])]⟩) (fun i => i ≤ 2 ∧ ∀ j : Nat, j < i → 0 ≤ [x, y].getD j 0 ∧ [x, y].getD j 0 ≤ n - 1) (fun i => 2 - i) 0 ?_ ?_ ?_
        · exact ⟨by omega, fun j h => by omega⟩
        · exact Wk.intro (.cons rfl (by first | rfl | exact veq_int (by first | omega | (dsimp only; omega))) (.cons rfl (by first | rfl | exact veq_int (by first | omega | (dsimp only; omega))) (.cons rfl (by first | rfl | exact veq_int (by first | omega | (dsimp only; omega))) (.cons rfl (by first | rfl | exact veq_int (by first | omega | (dsimp only; omega))) (.cons rfl (by first | rfl | exact veq_int (by first | omega | (dsimp only; omega))) (.cons rfl (by first | rfl | exact veq_int (by first | omega | (dsimp only; omega))) (.cons rfl (by first | rfl | exact veq_int (by first | omega | (dsimp only; omega))) (.cons rfl (by first | rfl | exact veq_int (by first | omega | (dsimp only; omega))) (.cons rfl (by first | rfl | exact veq_int (by first | omega | (dsimp only; omega))) (.cons rfl (by first | rfl | exact veq_int (by first | omega | (dsimp only; omega))) (.cons rfl (by first | rfl | exact veq_int (by first | omega | (dsimp only; omega))) (.cons rfl (by first | rfl | exact veq_int (by first | omega | (dsimp only; omega))) .nil)))))))))))) (.keep rfl rfl (fun _ h => h) (.keep rfl rfl (fun _ h => h) .nil))
        · rintro i ⟨hi, hR⟩
          refine W_seq ?_
          refine W_region ?_
          refine Ops_p (p_lss rfl rfl) (lt_dec rfl) ?_
          refine Ops_nil ?_
          refine W_seq ?_
          refine W_cond rfl (fun h4 => ?_) (fun h4 => ?_)
          · try simp only [bs] at h4
            refine W_skip ?_
            refine W_seq ?_
            refine W_block ?_
            refine W_seq ?_
            refine W_region ?_
            refine Ops_p (p_ixl1 _ rfl rfl rfl rfl rfl rfl (by first | (first | omega | (dsimp only; omega)) | exact Fin.isLt _)) (lt_dec rfl) ?_
            refine Ops_q (q_load_ro rfl rfl m1 rfl rfl (by first | omega | (show _ < 2; omega)) rfl rfl) (lt_dec rfl) ?_
            refine Ops_p (p_assign rfl) (lt_dec rfl) ?_
            refine Ops_nil ?_
            refine W_seq ?_
            refine W_region ?_
            refine Ops_p (p_move rfl) (lt_dec rfl) ?_
            refine Ops_p (p_move rfl) (lt_dec rfl) ?_
            refine Ops_p (p_sub rfl rfl (by exact ⟨(by first | omega | (dsimp only; omega)), (by first | omega | (dsimp only; omega))⟩)) (lt_dec rfl) ?_
            refine Ops_q (q_call en_impl_within rfl (w_impl_within) (View.none _)) (lt_dec rfl) ?_
            refine Ops_p (p_not rfl) (lt_dec rfl) ?_
            refine Ops_nil ?_
            refine W_cond rfl (fun h5 => ?_) (fun h5 => ?_)
            · try simp only [bs] at h5
              refine W_seq ?_
              refine W_region ?_
              refine Ops_p (p_assign rfl) (lt_dec rfl) ?_
              refine Ops_nil ?_
              refine W_ret ?_
              refine Exists.intro _ (And.intro (.cons (.tmp rfl) .nil) ?_)
              first | rfl | (refine veq_bool ?_; simp_all; done) | (refine veq_bool ?_; simp; omega) | (refine veq_bool ?_; rw [eq_comm, decide_eq_false_iff_not]; omega) | (refine veq_bool ?_; rw [eq_comm, decide_eq_true_iff]; omega) | (refine veq_int ?_; omega) | (refine veq_arr8 fun j hj => ?_; (try dsimp only); first | (simp; done) | (simp; omega) | ((repeat' split) <;> first | rfl | (exfalso; omega) | (congr 1; omega) | (simp_all; done))) | (exact veq_int ((psD_c (by rw [psC_n (by assumption)]; decide)).trans (psC_n (by assumption))).symm) | (exact veq_int ((psD_c (by rw [psC_1 (by assumption) (by assumption)]; decide)).trans (psC_1 (by assumption) (by assumption))).symm) | (exact veq_int ((psD_c (by rw [psC_2 (by assumption) (by assumption) (by omega)]; decide)).trans (psC_2 (by assumption) (by assumption) (by omega))).symm) | (exact veq_int (psD_2 (i := 0) (psC_0 (by assumption) (by assumption) (by omega)) (inN_f (i := i) (by omega) (by assumption))).symm) | (exact veq_int (psD_0 (psC_0 (by assumption) (by assumption) (by omega)) (inN_t hR)).symm) | (exact veq_int (psD_2 (psC_0 (by assumption) (by assumption) (by omega)) (inN_f (i := i) (by omega) (by assumption))).symm)
            · try simp only [bs] at h5
              refine W_skip ?_
              refine W_region ?_
              refine Ops_p (p_add rfl rfl (by exact ⟨(by first | omega | (dsimp only; omega)), (by first | omega | (dsimp only; omega))⟩)) (lt_dec rfl) ?_
              refine Ops_p (p_move rfl) (lt_dec rfl) ?_
              refine Ops_nil ?_
              refine Exists.intro (i + 1) (And.intro ?_ (And.intro ?_ ?_))
              · exact ⟨by omega, fun j h => if e : j = i then by subst e; assumption else hR j (by omega)⟩
              · show _ < _; omega
              · exact Wk.intro (.cons rfl (by first | rfl | exact veq_int (by first | omega | (dsimp only; omega))) (.cons rfl (by first | rfl | exact veq_int (by first | omega | (dsimp only; omega))) (.cons rfl (by first | rfl | exact veq_int (by first | omega | (dsimp only; omega))) (.cons rfl (by first | rfl | exact veq_int (by first | omega | (dsimp only; omega))) (.cons rfl (by first | rfl | exact veq_int (by first | omega | (dsimp only; omega))) (.cons rfl (by first | rfl | exact veq_int (by first | omega | (dsimp only; omega))) (.cons rfl (by first | rfl | exact veq_int (by first | omega | (dsimp only; omega))) (.cons rfl (by first | rfl | exact veq_int (by first | omega | (dsimp only; omega))) (.cons rfl (by first | rfl | exact veq_int (by first | omega | (dsimp only; omega))) (.cons rfl (by first | rfl | exact veq_int (by first | omega | (dsimp only; omega))) (.cons rfl (by first | rfl | exact veq_int (by first | omega | (dsimp only; omega))) (.cons rfl (by first | rfl | exact veq_int (by first | omega | (dsimp only; omega))) .nil)))))))))))) (.keep rfl rfl (fun _ h => h) (.keep rfl rfl (fun _ h => h) .nil))
          · try simp only [bs] at h4
            obtain rfl : i = 2 := (by omega)
            refine W_exit ?_
            refine W_seq ?_
            refine W_region ?_
            refine Ops_p (p_assign rfl) (lt_dec rfl) ?_
            refine Ops_nil ?_
            refine W_ret ?_
            refine Exists.intro _ (And.intro (.cons (.tmp rfl) .nil) ?_)
            first | rfl | (refine veq_bool ?_; simp_all; done) | (refine veq_bool ?_; simp; omega) | (refine veq_bool ?_; rw [eq_comm, decide_eq_false_iff_not]; omega) | (refine veq_bool ?_; rw [eq_comm, decide_eq_true_iff]; omega) | (refine veq_int ?_; omega) | (refine veq_arr8 fun j hj => ?_; (try dsimp only); first | (simp; done) | (simp; omega) | ((repeat' split) <;> first | rfl | (exfalso; omega) | (congr 1; omega) | (simp_all; done))) | (exact veq_int ((psD_c (by rw [psC_n (by assumption)]; decide)).trans (psC_n (by assumption))).symm) | (exact veq_int ((psD_c (by rw [psC_1 (by assumption) (by assumption)]; decide)).trans (psC_1 (by assumption) (by assumption))).symm) | (exact veq_int ((psD_c (by rw [psC_2 (by assumption) (by assumption) (by omega)]; decide)).trans (psC_2 (by assumption) (by assumption) (by omega))).symm) | (exact veq_int (psD_2 (i := 0) (psC_0 (by assumption) (by assumption) (by omega)) (inN_f (i := i) (by omega) (by assumption))).symm) | (exact veq_int (psD_0 (psC_0 (by assumption) (by assumption) (by omega)) (inN_t hR)).symm) | (exact veq_int (psD_2 (psC_0 (by assumption) (by assumption) (by omega)) (inN_f (i := i) (by omega) (by assumption))).symm)
end Go.Proofs.Ytdcpggdbjllmpab
