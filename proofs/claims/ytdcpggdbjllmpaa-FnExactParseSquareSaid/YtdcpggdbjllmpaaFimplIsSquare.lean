/- What the Go function impl.IsSquare does, shown of its loaded text; its conditions stand in the statement. -/
import Derived.Test.YtdcpggdbjllmpaaTy
import Derived.Test.YtdcpggdbjllmpaaFimplwithin
import Derived.Test.YtdcpggdbjllmpaaM7
namespace Go.Proofs.Ytdcpggdbjllmpaa
open Go Gx
set_option linter.unusedVariables false
theorem en_impl_IsSquare : Enters Try.prog 54 := enters_of Try.func54 (by kernel_rfl) (by kernel_rfl)
set_option maxRecDepth 100000 in
set_option maxHeartbeats 1000000 in
theorem w_impl_IsSquare {t : Nat → Fin 256} {n : Int}  : CR Try.prog 54 (vals [.agg [.int .i64 n, .arr8 100 t]]) [] (.bool (isSq n t)) := by
  refine CR_intro (rs := [.tmp 2]) tt tok Try.func54 rfl rfl rfl (by first | rfl | assumption) fun w => ?_
  refine W_seq ?_
  refine W_region ?_
  refine Ops_x rfl (x_box rfl rfl (lt_dec rfl) fun b1_1 => ?_)
  refine Ops_p (p_assign rfl) (lt_dec rfl) ?_
  refine Ops_nil ?_
  refine W_seq ?_
  refine W_seq ?_
  refine W_region ?_
  refine Ops_p (p_fieldAddr rfl rfl rfl rfl rfl rfl) (lt_dec rfl) ?_
  refine Ops_q (q_load rfl rfl m0 rfl (by first | exact True.intro | trivial | (first | omega | (dsimp only; omega)) | exact Fin.isLt _ | (dsimp only; omega))) (lt_dec rfl) ?_
  refine Ops_q (q_call en_impl_within rfl (w_impl_within) (View.none _)) (lt_dec rfl) ?_
  refine Ops_p (p_not rfl) (lt_dec rfl) ?_
  refine Ops_nil ?_
  refine W_cond rfl (fun h1 => ?_) (fun h1 => ?_)
  · try simp only [bs] at h1
    refine W_seq ?_
    refine W_region ?_
    refine Ops_p (p_assign rfl) (lt_dec rfl) ?_
    refine Ops_nil ?_
    refine W_ret ?_
    refine Exists.intro _ (And.intro (.cons (.tmp rfl) .nil) ?_)
    first | rfl | (refine veq_bool ?_; simp_all; done) | (refine veq_bool ?_; simp; omega) | (refine veq_bool ?_; rw [eq_comm, decide_eq_false_iff_not]; omega) | (refine veq_bool ?_; rw [eq_comm, decide_eq_true_iff]; omega) | (refine veq_int ?_; omega) | (refine veq_arr8 fun j hj => ?_; (try dsimp only); first | (simp; done) | (simp; omega) | ((repeat' split) <;> first | rfl | (exfalso; omega) | (congr 1; omega) | (simp_all; done))) | (exact veq_bool (isSq_f (not_sq_n (by first | omega | (simp_all; omega))))) | (exact veq_bool (isSq_f (not_sq_zero (x := x) (y := y) (by omega) (by omega) (by omega) (by assumption)))) | (exact veq_bool (isSq_f (not_sq_row (x := x) (y := y) (by omega) (by omega) (by omega) (by omega) (by omega)))) | (exact veq_bool (isSq_f (not_sq_col (x := x) (y := y) (by omega) (by omega) (by omega) (by omega) (by omega)))) | (exact veq_bool (isSq_f (not_sq_full (x := x) (by omega) hA (by omega) (by obtain ⟨e1, e2⟩ := hB (by omega); subst e1; subst e2; first | exact .inl (by assumption) | exact .inr (by assumption))))) | (obtain rfl : x = 10 := (by omega); exact veq_bool (isSq_t (sq_of_XP h1 hX)))
  · try simp only [bs] at h1
    refine W_skip ?_
    refine W_seq ?_
    refine W_region ?_
    refine Ops_p (p_fieldAddr rfl rfl rfl rfl rfl rfl) (lt_dec rfl) ?_
    refine Ops_q (q_load rfl rfl m0 rfl (by first | exact True.intro | trivial | (first | omega | (dsimp only; omega)) | exact Fin.isLt _ | (dsimp only; omega))) (lt_dec rfl) ?_
    refine Ops_p (p_assign rfl) (lt_dec rfl) ?_
    refine Ops_nil ?_
    refine W_seq ?_
    refine W_seq ?_
    refine W_region ?_
    refine Ops_p (p_move rfl) (lt_dec rfl) ?_
    refine Ops_nil ?_
    refine W_block ?_
    refine W_loop (α := Nat) (fun x => ⟨[(0, .agg [.int .i64 n, .arr8 100 t]), (1, .ptr b1_1 0 none), (3, .int .i64 n), (9, .int .i64 n), (10, .bool (decide (1 ≤ n ∧ n ≤ 10))), (13, .int .i64 n), (14, .int .i64 (x : Int))], [.var b1_1 (.agg [.int .i64 n, .arr8 100 t])]⟩) (fun x => x ≤ 10 ∧ ∀ z, z < x → XP t n z) (fun x => 10 - x) 0 ?_ ?_ ?_
    · exact ⟨by omega, fun z h => by omega⟩
    · exact Wk.intro (.cons rfl (by first | rfl | exact veq_int (by first | omega | (dsimp only; omega))) (.cons rfl (by first | rfl | exact veq_int (by first | omega | (dsimp only; omega))) (.cons rfl (by first | rfl | exact veq_int (by first | omega | (dsimp only; omega))) (.cons rfl (by first | rfl | exact veq_int (by first | omega | (dsimp only; omega))) (.cons rfl (by first | rfl | exact veq_int (by first | omega | (dsimp only; omega))) (.cons rfl (by first | rfl | exact veq_int (by first | omega | (dsimp only; omega))) (.cons rfl (by first | rfl | exact veq_int (by first | omega | (dsimp only; omega))) .nil))))))) (.keep rfl rfl (fun _ h => h) .nil)
    · rintro x ⟨hx, hX⟩
      refine W_seq ?_
      refine W_region ?_
      refine Ops_p (p_lss rfl rfl) (lt_dec rfl) ?_
      refine Ops_nil ?_
      refine W_seq ?_
      refine W_cond rfl (fun h2 => ?_) (fun h2 => ?_)
      · try simp only [bs] at h2
        refine W_skip ?_
        refine W_seq ?_
        refine W_block ?_
        refine W_seq ?_
        refine W_region ?_
        refine Ops_p (p_move rfl) (lt_dec rfl) ?_
        refine Ops_p (p_assign rfl) (lt_dec rfl) ?_
        refine Ops_nil ?_
        refine W_seq ?_
        refine W_region ?_
        refine Ops_p (p_assign rfl) (lt_dec rfl) ?_
        refine Ops_p (p_assign rfl) (lt_dec rfl) ?_
        refine Ops_nil ?_
        refine W_seq ?_
        refine W_seq ?_
        refine W_region ?_
        refine Ops_p (p_move rfl) (lt_dec rfl) ?_
        refine Ops_nil ?_
        refine W_block ?_
        refine W_loop (α := Nat × Nat × Nat) (fun zz1 => ⟨[(0, .agg [.int .i64 n, .arr8 100 t]), (1, .ptr b1_1 0 none), (3, .int .i64 n), (4, .int .i64 (x : Int)), (5, .int .i64 ((zz1.2.1) : Int)), (6, .int .i64 ((zz1.2.2) : Int)), (9, .int .i64 n), (10, .bool (decide (1 ≤ n ∧ n ≤ 10))), (13, .int .i64 n), (14, .int .i64 (x : Int)), (16, .int .i64 (x : Int)), (17, .int .i64 ((zz1.1) : Int))], [.var b1_1 (.agg [.int .i64 n, .arr8 100 t])]⟩) (fun zz1 => (zz1.1) ≤ 10 ∧ XA t n x (zz1.1) ∧ ((x : Int) < n → (zz1.2.1) = bits (rowOf t x) n (zz1.1) ∧ (zz1.2.2) = bits (colOf t x) n (zz1.1))) (fun zz1 => 10 - (zz1.1)) (0, 0, 0) ?_ ?_ ?_
        · exact ⟨by show 0 ≤ 10; omega, XA.zero, fun _ => ⟨rfl, rfl⟩⟩
        · exact Wk.intro (.cons rfl (by first | rfl | exact veq_int (by first | omega | (dsimp only; omega))) (.cons rfl (by first | rfl | exact veq_int (by first | omega | (dsimp only; omega))) (.cons rfl (by first | rfl | exact veq_int (by first | omega | (dsimp only; omega))) (.cons rfl (by first | rfl | exact veq_int (by first | omega | (dsimp only; omega))) (.cons rfl (by first | rfl | exact veq_int (by first | omega | (dsimp only; omega))) (.cons rfl (by first | rfl | exact veq_int (by first | omega | (dsimp only; omega))) (.cons rfl (by first | rfl | exact veq_int (by first | omega | (dsimp only; omega))) (.cons rfl (by first | rfl | exact veq_int (by first | omega | (dsimp only; omega))) (.cons rfl (by first | rfl | exact veq_int (by first | omega | (dsimp only; omega))) (.cons rfl (by first | rfl | exact veq_int (by first | omega | (dsimp only; omega))) (.cons rfl (by first | rfl | exact veq_int (by first | omega | (dsimp only; omega))) (.cons rfl (by first | rfl | exact veq_int (by first | omega | (dsimp only; omega))) .nil)))))))))))) (.keep rfl rfl (fun _ h => h) .nil)
        · rintro ⟨y, s5, s6⟩ ⟨hy, hA, hB⟩
          try dsimp only at *
          refine W_seq ?_
          refine W_region ?_
          refine Ops_p (p_lss rfl rfl) (lt_dec rfl) ?_
          refine Ops_nil ?_
          refine W_seq ?_
          refine W_cond rfl (fun h3 => ?_) (fun h3 => ?_)
          · try simp only [bs] at h3
            refine W_skip ?_
            refine W_seq ?_
            refine W_block ?_
            refine W_seq ?_
            refine W_region ?_
            refine Ops_p (p_move rfl) (lt_dec rfl) ?_
            refine Ops_p (p_assign rfl) (lt_dec rfl) ?_
            refine Ops_nil ?_
            refine W_seq ?_
            refine W_seq ?_
            refine W_region ?_
            refine Ops_p (p_move rfl) (lt_dec rfl) ?_
            refine Ops_p (p_move rfl) (lt_dec rfl) ?_
            refine Ops_p (p_geq rfl rfl) (lt_dec rfl) ?_
            refine Ops_p (p_move rfl) (lt_dec rfl) ?_
            refine Ops_guard rfl rfl (lt_dec rfl) (fun hg1 => ?_) (fun hg1 => ?_)
            · try simp only [bs] at hg1
              refine Ops_p (p_move rfl) (lt_dec rfl) ?_
              refine Ops_guard_t rfl rfl (lt_dec rfl) ?_
              refine Ops_p (p_move rfl) (lt_dec rfl) ?_
              refine Ops_guard_t rfl rfl (lt_dec rfl) ?_
              refine Ops_p (p_geq rfl rfl) (lt_dec rfl) ?_
              refine Ops_p (p_pick_f rfl rfl) (lt_dec rfl) ?_
              refine Ops_p (p_move rfl) (lt_dec rfl) ?_
              refine Ops_guard rfl rfl (lt_dec rfl) (fun hg2 => ?_) (fun hg2 => ?_)
              · try simp only [bs] at hg2
                refine Ops_p (p_move rfl) (lt_dec rfl) ?_
                refine Ops_guard_t rfl rfl (lt_dec rfl) ?_
                refine Ops_p (p_move rfl) (lt_dec rfl) ?_
                refine Ops_guard_t rfl rfl (lt_dec rfl) ?_
                refine Ops_p (p_fieldAddr rfl rfl rfl rfl rfl rfl) (lt_dec rfl) ?_
                refine Ops_guard_t rfl rfl (lt_dec rfl) ?_
                refine Ops_p (p_ixN 10 _ rfl rfl rfl rfl rfl rfl (by first | (first | omega | (dsimp only; omega)) | exact Fin.isLt _)) (lt_dec rfl) ?_
                refine Ops_guard_t rfl rfl (lt_dec rfl) ?_
                first | refine Ops_p (p_ix1 _ rfl rfl rfl rfl rfl rfl (by first | (first | omega | (dsimp only; omega)) | exact Fin.isLt _)) (lt_dec rfl) ?_ | refine Ops_p (p_ix1s _ rfl rfl rfl rfl rfl rfl (by first | (first | omega | (dsimp only; omega)) | exact Fin.isLt _)) (lt_dec rfl) ?_
                refine Ops_guard_t rfl rfl (lt_dec rfl) ?_
                refine Ops_q (q_load rfl rfl m0 rfl (by first | exact True.intro | trivial | (first | omega | (dsimp only; omega)) | exact Fin.isLt _ | (dsimp only; omega))) (lt_dec rfl) ?_
                refine Ops_guard_t rfl rfl (lt_dec rfl) ?_
                first | refine Ops_p (p_neq_8 rfl rfl) (lt_dec rfl) ?_ | refine Ops_p (p_neq rfl rfl) (lt_dec rfl) ?_
                refine Ops_p (p_pick_t rfl rfl) (lt_dec rfl) ?_
                refine Ops_nil ?_
                refine W_cond rfl (fun h4 => ?_) (fun h4 => ?_)
                · try simp only [bs] at h4
                  refine W_seq ?_
                  refine W_region ?_
                  refine Ops_p (p_assign rfl) (lt_dec rfl) ?_
                  refine Ops_nil ?_
                  refine W_ret ?_
                  refine Exists.intro _ (And.intro (.cons (.tmp rfl) .nil) ?_)
                  first | rfl | (refine veq_bool ?_; simp_all; done) | (refine veq_bool ?_; simp; omega) | (refine veq_bool ?_; rw [eq_comm, decide_eq_false_iff_not]; omega) | (refine veq_bool ?_; rw [eq_comm, decide_eq_true_iff]; omega) | (refine veq_int ?_; omega) | (refine veq_arr8 fun j hj => ?_; (try dsimp only); first | (simp; done) | (simp; omega) | ((repeat' split) <;> first | rfl | (exfalso; omega) | (congr 1; omega) | (simp_all; done))) | (exact veq_bool (isSq_f (not_sq_n (by first | omega | (simp_all; omega))))) | (exact veq_bool (isSq_f (not_sq_zero (x := x) (y := y) (by omega) (by omega) (by omega) (by assumption)))) | (exact veq_bool (isSq_f (not_sq_row (x := x) (y := y) (by omega) (by omega) (by omega) (by omega) (by omega)))) | (exact veq_bool (isSq_f (not_sq_col (x := x) (y := y) (by omega) (by omega) (by omega) (by omega) (by omega)))) | (exact veq_bool (isSq_f (not_sq_full (x := x) (by omega) hA (by omega) (by obtain ⟨e1, e2⟩ := hB (by omega); subst e1; subst e2; first | exact .inl (by assumption) | exact .inr (by assumption))))) | (obtain rfl : x = 10 := (by omega); exact veq_bool (isSq_t (sq_of_XP h1 hX)))
                · try simp only [bs] at h4
                  refine W_skip ?_
                  refine W_seq ?_
                  refine W_region ?_
                  refine Ops_p (p_move rfl) (lt_dec rfl) ?_
                  refine Ops_p (p_move rfl) (lt_dec rfl) ?_
                  refine Ops_p (p_lss rfl rfl) (lt_dec rfl) ?_
                  refine Ops_p (p_move rfl) (lt_dec rfl) ?_
                  refine Ops_guard rfl rfl (lt_dec rfl) (fun hg3 => ?_) (fun hg3 => ?_)
                  · try simp only [bs] at hg3
                    refine Ops_p (p_move rfl) (lt_dec rfl) ?_
                    refine Ops_guard_t rfl rfl (lt_dec rfl) ?_
                    refine Ops_p (p_move rfl) (lt_dec rfl) ?_
                    refine Ops_guard_t rfl rfl (lt_dec rfl) ?_
                    refine Ops_p (p_lss rfl rfl) (lt_dec rfl) ?_
                    refine Ops_p (p_pick_t rfl rfl) (lt_dec rfl) ?_
                    refine Ops_nil ?_
                    refine W_cond rfl (fun h5 => ?_) (fun h5 => ?_)
                    · try simp only [bs] at h5
                      obtain ⟨rfl, rfl⟩ := hB (by omega)
                      refine W_seq ?_
                      refine W_seq ?_
                      refine W_region ?_
                      refine Ops_p (p_move rfl) (lt_dec rfl) ?_
                      refine Ops_p (p_move rfl) (lt_dec rfl) ?_
                      refine Ops_p (p_fieldAddr rfl rfl rfl rfl rfl rfl) (lt_dec rfl) ?_
                      refine Ops_p (p_ixN 10 _ rfl rfl rfl rfl rfl rfl (by first | (first | omega | (dsimp only; omega)) | exact Fin.isLt _)) (lt_dec rfl) ?_
                      first | refine Ops_p (p_ix1 _ rfl rfl rfl rfl rfl rfl (by first | (first | omega | (dsimp only; omega)) | exact Fin.isLt _)) (lt_dec rfl) ?_ | refine Ops_p (p_ix1s _ rfl rfl rfl rfl rfl rfl (by first | (first | omega | (dsimp only; omega)) | exact Fin.isLt _)) (lt_dec rfl) ?_
                      refine Ops_q (q_load rfl rfl m0 rfl (by first | exact True.intro | trivial | (first | omega | (dsimp only; omega)) | exact Fin.isLt _ | (dsimp only; omega))) (lt_dec rfl) ?_
                      first | refine Ops_p (p_conv8 rfl rfl rfl (by decide)) (lt_dec rfl) ?_ | refine Ops_p (p_conv rfl rfl rfl (by exact ⟨(by first | omega | (dsimp only; omega)), (by first | omega | (dsimp only; omega))⟩)) (lt_dec rfl) ?_
                      refine Ops_p (p_move rfl) (lt_dec rfl) ?_
                      refine Ops_p (p_geq rfl rfl) (lt_dec rfl) ?_
                      refine Ops_p (p_move rfl) (lt_dec rfl) ?_
                      refine Ops_guard rfl rfl (lt_dec rfl) (fun hg4 => ?_) (fun hg4 => ?_)
                      · try simp only [bs] at hg4
                        refine Ops_p (p_move rfl) (lt_dec rfl) ?_
                        refine Ops_guard_t rfl rfl (lt_dec rfl) ?_
                        refine Ops_p (p_move rfl) (lt_dec rfl) ?_
                        refine Ops_guard_t rfl rfl (lt_dec rfl) ?_
                        refine Ops_p (p_fieldAddr rfl rfl rfl rfl rfl rfl) (lt_dec rfl) ?_
                        refine Ops_guard_t rfl rfl (lt_dec rfl) ?_
                        refine Ops_p (p_ixN 10 _ rfl rfl rfl rfl rfl rfl (by first | (first | omega | (dsimp only; omega)) | exact Fin.isLt _)) (lt_dec rfl) ?_
                        refine Ops_guard_t rfl rfl (lt_dec rfl) ?_
                        first | refine Ops_p (p_ix1 _ rfl rfl rfl rfl rfl rfl (by first | (first | omega | (dsimp only; omega)) | exact Fin.isLt _)) (lt_dec rfl) ?_ | refine Ops_p (p_ix1s _ rfl rfl rfl rfl rfl rfl (by first | (first | omega | (dsimp only; omega)) | exact Fin.isLt _)) (lt_dec rfl) ?_
                        refine Ops_guard_t rfl rfl (lt_dec rfl) ?_
                        refine Ops_q (q_load rfl rfl m0 rfl (by first | exact True.intro | trivial | (first | omega | (dsimp only; omega)) | exact Fin.isLt _ | (dsimp only; omega))) (lt_dec rfl) ?_
                        refine Ops_guard_t rfl rfl (lt_dec rfl) ?_
                        first | refine Ops_p (p_conv8 rfl rfl rfl (by decide)) (lt_dec rfl) ?_ | refine Ops_p (p_conv rfl rfl rfl (by exact ⟨(by first | omega | (dsimp only; omega)), (by first | omega | (dsimp only; omega))⟩)) (lt_dec rfl) ?_
                        refine Ops_guard_t rfl rfl (lt_dec rfl) ?_
                        refine Ops_p (p_move rfl) (lt_dec rfl) ?_
                        refine Ops_guard_t rfl rfl (lt_dec rfl) ?_
                        refine Ops_p (p_geq rfl rfl) (lt_dec rfl) ?_
                        refine Ops_p (p_pick_f rfl rfl) (lt_dec rfl) ?_
                        refine Ops_nil ?_
                        refine W_cond rfl (fun h6 => ?_) (fun h6 => ?_)
                        · try simp only [bs] at h6
                          refine W_seq ?_
                          refine W_region ?_
                          refine Ops_p (p_assign rfl) (lt_dec rfl) ?_
                          refine Ops_nil ?_
                          refine W_ret ?_
                          refine Exists.intro _ (And.intro (.cons (.tmp rfl) .nil) ?_)
                          first | rfl | (refine veq_bool ?_; simp_all; done) | (refine veq_bool ?_; simp; omega) | (refine veq_bool ?_; rw [eq_comm, decide_eq_false_iff_not]; omega) | (refine veq_bool ?_; rw [eq_comm, decide_eq_true_iff]; omega) | (refine veq_int ?_; omega) | (refine veq_arr8 fun j hj => ?_; (try dsimp only); first | (simp; done) | (simp; omega) | ((repeat' split) <;> first | rfl | (exfalso; omega) | (congr 1; omega) | (simp_all; done))) | (exact veq_bool (isSq_f (not_sq_n (by first | omega | (simp_all; omega))))) | (exact veq_bool (isSq_f (not_sq_zero (x := x) (y := y) (by omega) (by omega) (by omega) (by assumption)))) | (exact veq_bool (isSq_f (not_sq_row (x := x) (y := y) (by omega) (by omega) (by omega) (by omega) (by omega)))) | (exact veq_bool (isSq_f (not_sq_col (x := x) (y := y) (by omega) (by omega) (by omega) (by omega) (by omega)))) | (exact veq_bool (isSq_f (not_sq_full (x := x) (by omega) hA (by omega) (by obtain ⟨e1, e2⟩ := hB (by omega); subst e1; subst e2; first | exact .inl (by assumption) | exact .inr (by assumption))))) | (obtain rfl : x = 10 := (by omega); exact veq_bool (isSq_t (sq_of_XP h1 hX)))
                        · try simp only [bs] at h6
                          refine W_skip ?_
                          refine W_seq ?_
                          refine W_region ?_
                          refine Ops_p (p_move rfl) (lt_dec rfl) ?_
                          refine Ops_p (p_move rfl) (lt_dec rfl) ?_
                          refine Ops_p (p_move rfl) (lt_dec rfl) ?_
                          refine Ops_p (p_fieldAddr rfl rfl rfl rfl rfl rfl) (lt_dec rfl) ?_
                          refine Ops_p (p_ixN 10 _ rfl rfl rfl rfl rfl rfl (by first | (first | omega | (dsimp only; omega)) | exact Fin.isLt _)) (lt_dec rfl) ?_
                          first | refine Ops_p (p_ix1 _ rfl rfl rfl rfl rfl rfl (by first | (first | omega | (dsimp only; omega)) | exact Fin.isLt _)) (lt_dec rfl) ?_ | refine Ops_p (p_ix1s _ rfl rfl rfl rfl rfl rfl (by first | (first | omega | (dsimp only; omega)) | exact Fin.isLt _)) (lt_dec rfl) ?_
                          refine Ops_q (q_load rfl rfl m0 rfl (by first | exact True.intro | trivial | (first | omega | (dsimp only; omega)) | exact Fin.isLt _ | (dsimp only; omega))) (lt_dec rfl) ?_
                          refine Ops_p (p_shl rfl rfl (by omega) (by simp only [IntKind.bits]; omega) (shl_in (by omega) (by omega))) (lt_dec rfl) ?_
                          refine Ops_p (p_or_bits (p := rowOf t x) rfl rfl ((hA.1 (by omega)).1) (by omega) (by omega) (by unfold rowOf; omega)) (lt_dec rfl) ?_
                          refine Ops_p (p_assign rfl) (lt_dec rfl) ?_
                          refine Ops_nil ?_
                          refine W_region ?_
                          refine Ops_p (p_move rfl) (lt_dec rfl) ?_
                          refine Ops_p (p_move rfl) (lt_dec rfl) ?_
                          refine Ops_p (p_move rfl) (lt_dec rfl) ?_
                          refine Ops_p (p_fieldAddr rfl rfl rfl rfl rfl rfl) (lt_dec rfl) ?_
                          refine Ops_p (p_ixN 10 _ rfl rfl rfl rfl rfl rfl (by first | (first | omega | (dsimp only; omega)) | exact Fin.isLt _)) (lt_dec rfl) ?_
                          first | refine Ops_p (p_ix1 _ rfl rfl rfl rfl rfl rfl (by first | (first | omega | (dsimp only; omega)) | exact Fin.isLt _)) (lt_dec rfl) ?_ | refine Ops_p (p_ix1s _ rfl rfl rfl rfl rfl rfl (by first | (first | omega | (dsimp only; omega)) | exact Fin.isLt _)) (lt_dec rfl) ?_
                          refine Ops_q (q_load rfl rfl m0 rfl (by first | exact True.intro | trivial | (first | omega | (dsimp only; omega)) | exact Fin.isLt _ | (dsimp only; omega))) (lt_dec rfl) ?_
                          refine Ops_p (p_shl rfl rfl (by omega) (by simp only [IntKind.bits]; omega) (shl_in (by omega) (by omega))) (lt_dec rfl) ?_
                          refine Ops_p (p_or_col (p := colOf t x) rfl rfl ((hA.1 (by omega)).2) (by omega) (by omega) (by unfold colOf; omega)) (lt_dec rfl) ?_
                          refine Ops_p (p_assign rfl) (lt_dec rfl) ?_
                          refine Ops_nil ?_
                          refine W_region ?_
                          refine Ops_p (p_add rfl rfl (by exact ⟨(by first | omega | (dsimp only; omega)), (by first | omega | (dsimp only; omega))⟩)) (lt_dec rfl) ?_
                          refine Ops_p (p_move rfl) (lt_dec rfl) ?_
                          refine Ops_nil ?_
                          refine Exists.intro (y + 1, ?n1u1, ?n2u1) (And.intro ?hru1 (And.intro ?hmu1 ?hwu1))
                          case hwu1 => exact Wk.intro (.cons rfl (by first | rfl | exact veq_int (by first | omega | (dsimp only; omega))) (.cons rfl (by first | rfl | exact veq_int (by first | omega | (dsimp only; omega))) (.cons rfl (by first | rfl | exact veq_int (by first | omega | (dsimp only; omega))) (.cons rfl (by first | rfl | exact veq_int (by first | omega | (dsimp only; omega))) (.cons rfl (by first | rfl | exact veq_int (by first | omega | (dsimp only; omega))) (.cons rfl (by first | rfl | exact veq_int (by first | omega | (dsimp only; omega))) (.cons rfl (by first | rfl | exact veq_int (by first | omega | (dsimp only; omega))) (.cons rfl (by first | rfl | exact veq_int (by first | omega | (dsimp only; omega))) (.cons rfl (by first | rfl | exact veq_int (by first | omega | (dsimp only; omega))) (.cons rfl (by first | rfl | exact veq_int (by first | omega | (dsimp only; omega))) (.cons rfl (by first | rfl | exact veq_int (by first | omega | (dsimp only; omega))) (.cons rfl (by first | rfl | exact veq_int (by first | omega | (dsimp only; omega))) .nil)))))))))))) (.keep rfl rfl (fun _ h => h) .nil)
                          case hru1 => first | (exfalso; omega) | (exact ⟨by show y + 1 ≤ 10; omega, hA.step_lo (by omega) (by omega) (by omega) (by omega), fun _ => ⟨rfl, rfl⟩⟩) | (exact ⟨by show y + 1 ≤ 10; omega, hA.step_hi (by omega) (by assumption), fun hh => ⟨(hB hh).1.trans (bits_hiN (by omega)), (hB hh).2.trans (bits_hiN (by omega))⟩⟩)
                          case hmu1 => show _ < _; omega
                      · try simp only [bs] at hg4
                        refine Ops_guard_f rfl rfl rfl (lt_dec rfl) ?_
                        refine Ops_guard_f rfl rfl rfl (lt_dec rfl) ?_
                        refine Ops_guard_f rfl rfl rfl (lt_dec rfl) ?_
                        refine Ops_guard_f rfl rfl rfl (lt_dec rfl) ?_
                        refine Ops_guard_f rfl rfl rfl (lt_dec rfl) ?_
                        refine Ops_guard_f rfl rfl rfl (lt_dec rfl) ?_
                        refine Ops_guard_f rfl rfl rfl (lt_dec rfl) ?_
                        refine Ops_guard_f rfl rfl rfl (lt_dec rfl) ?_
                        refine Ops_p (p_pick_t rfl rfl) (lt_dec rfl) ?_
                        refine Ops_nil ?_
                        refine W_true rfl ?_
                        refine W_seq ?_
                        refine W_region ?_
                        refine Ops_p (p_assign rfl) (lt_dec rfl) ?_
                        refine Ops_nil ?_
                        refine W_ret ?_
                        refine Exists.intro _ (And.intro (.cons (.tmp rfl) .nil) ?_)
                        first | rfl | (refine veq_bool ?_; simp_all; done) | (refine veq_bool ?_; simp; omega) | (refine veq_bool ?_; rw [eq_comm, decide_eq_false_iff_not]; omega) | (refine veq_bool ?_; rw [eq_comm, decide_eq_true_iff]; omega) | (refine veq_int ?_; omega) | (refine veq_arr8 fun j hj => ?_; (try dsimp only); first | (simp; done) | (simp; omega) | ((repeat' split) <;> first | rfl | (exfalso; omega) | (congr 1; omega) | (simp_all; done))) | (exact veq_bool (isSq_f (not_sq_n (by first | omega | (simp_all; omega))))) | (exact veq_bool (isSq_f (not_sq_zero (x := x) (y := y) (by omega) (by omega) (by omega) (by assumption)))) | (exact veq_bool (isSq_f (not_sq_row (x := x) (y := y) (by omega) (by omega) (by omega) (by omega) (by omega)))) | (exact veq_bool (isSq_f (not_sq_col (x := x) (y := y) (by omega) (by omega) (by omega) (by omega) (by omega)))) | (exact veq_bool (isSq_f (not_sq_full (x := x) (by omega) hA (by omega) (by obtain ⟨e1, e2⟩ := hB (by omega); subst e1; subst e2; first | exact .inl (by assumption) | exact .inr (by assumption))))) | (obtain rfl : x = 10 := (by omega); exact veq_bool (isSq_t (sq_of_XP h1 hX)))
                    · try simp only [bs] at h5
                      refine W_skip ?_
                      refine W_region ?_
                      refine Ops_p (p_add rfl rfl (by exact ⟨(by first | omega | (dsimp only; omega)), (by first | omega | (dsimp only; omega))⟩)) (lt_dec rfl) ?_
                      refine Ops_p (p_move rfl) (lt_dec rfl) ?_
                      refine Ops_nil ?_
                      refine Exists.intro (y + 1, ?n1u2, ?n2u2) (And.intro ?hru2 (And.intro ?hmu2 ?hwu2))
                      case hwu2 => exact Wk.intro (.cons rfl (by first | rfl | exact veq_int (by first | omega | (dsimp only; omega))) (.cons rfl (by first | rfl | exact veq_int (by first | omega | (dsimp only; omega))) (.cons rfl (by first | rfl | exact veq_int (by first | omega | (dsimp only; omega))) (.cons rfl (by first | rfl | exact veq_int (by first | omega | (dsimp only; omega))) (.cons rfl (by first | rfl | exact veq_int (by first | omega | (dsimp only; omega))) (.cons rfl (by first | rfl | exact veq_int (by first | omega | (dsimp only; omega))) (.cons rfl (by first | rfl | exact veq_int (by first | omega | (dsimp only; omega))) (.cons rfl (by first | rfl | exact veq_int (by first | omega | (dsimp only; omega))) (.cons rfl (by first | rfl | exact veq_int (by first | omega | (dsimp only; omega))) (.cons rfl (by first | rfl | exact veq_int (by first | omega | (dsimp only; omega))) (.cons rfl (by first | rfl | exact veq_int (by first | omega | (dsimp only; omega))) (.cons rfl (by first | rfl | exact veq_int (by first | omega | (dsimp only; omega))) .nil)))))))))))) (.keep rfl rfl (fun _ h => h) .nil)
                      case hru2 => first | (exfalso; omega) | (exact ⟨by show y + 1 ≤ 10; omega, hA.step_lo (by omega) (by omega) (by omega) (by omega), fun _ => ⟨rfl, rfl⟩⟩) | (exact ⟨by show y + 1 ≤ 10; omega, hA.step_hi (by omega) (by assumption), fun hh => ⟨(hB hh).1.trans (bits_hiN (by omega)), (hB hh).2.trans (bits_hiN (by omega))⟩⟩)
                      case hmu2 => show _ < _; omega
                  · try simp only [bs] at hg3
                    refine Ops_guard_f rfl rfl rfl (lt_dec rfl) ?_
                    refine Ops_guard_f rfl rfl rfl (lt_dec rfl) ?_
                    refine Ops_p (p_pick_f rfl rfl) (lt_dec rfl) ?_
                    refine Ops_nil ?_
                    refine W_false rfl ?_
                    refine W_skip ?_
                    refine W_region ?_
                    refine Ops_p (p_add rfl rfl (by exact ⟨(by first | omega | (dsimp only; omega)), (by first | omega | (dsimp only; omega))⟩)) (lt_dec rfl) ?_
                    refine Ops_p (p_move rfl) (lt_dec rfl) ?_
                    refine Ops_nil ?_
                    refine Exists.intro (y + 1, ?n1u3, ?n2u3) (And.intro ?hru3 (And.intro ?hmu3 ?hwu3))
                    case hwu3 => exact Wk.intro (.cons rfl (by first | rfl | exact veq_int (by first | omega | (dsimp only; omega))) (.cons rfl (by first | rfl | exact veq_int (by first | omega | (dsimp only; omega))) (.cons rfl (by first | rfl | exact veq_int (by first | omega | (dsimp only; omega))) (.cons rfl (by first | rfl | exact veq_int (by first | omega | (dsimp only; omega))) (.cons rfl (by first | rfl | exact veq_int (by first | omega | (dsimp only; omega))) (.cons rfl (by first | rfl | exact veq_int (by first | omega | (dsimp only; omega))) (.cons rfl (by first | rfl | exact veq_int (by first | omega | (dsimp only; omega))) (.cons rfl (by first | rfl | exact veq_int (by first | omega | (dsimp only; omega))) (.cons rfl (by first | rfl | exact veq_int (by first | omega | (dsimp only; omega))) (.cons rfl (by first | rfl | exact veq_int (by first | omega | (dsimp only; omega))) (.cons rfl (by first | rfl | exact veq_int (by first | omega | (dsimp only; omega))) (.cons rfl (by first | rfl | exact veq_int (by first | omega | (dsimp only; omega))) .nil)))))))))))) (.keep rfl rfl (fun _ h => h) .nil)
                    case hru3 => first | (exfalso; omega) | (exact ⟨by show y + 1 ≤ 10; omega, hA.step_lo (by omega) (by omega) (by omega) (by omega), fun _ => ⟨rfl, rfl⟩⟩) | (exact ⟨by show y + 1 ≤ 10; omega, hA.step_hi (by omega) (by assumption), fun hh => ⟨(hB hh).1.trans (bits_hiN (by omega)), (hB hh).2.trans (bits_hiN (by omega))⟩⟩)
                    case hmu3 => show _ < _; omega
              · try simp only [bs] at hg2
                refine Ops_guard_f rfl rfl rfl (lt_dec rfl) ?_
                refine Ops_guard_f rfl rfl rfl (lt_dec rfl) ?_
                refine Ops_guard_f rfl rfl rfl (lt_dec rfl) ?_
                refine Ops_guard_f rfl rfl rfl (lt_dec rfl) ?_
                refine Ops_guard_f rfl rfl rfl (lt_dec rfl) ?_
                refine Ops_guard_f rfl rfl rfl (lt_dec rfl) ?_
                refine Ops_p (p_pick_f rfl rfl) (lt_dec rfl) ?_
                refine Ops_nil ?_
                refine W_false rfl ?_
                refine W_skip ?_
                refine W_seq ?_
                refine W_region ?_
                refine Ops_p (p_move rfl) (lt_dec rfl) ?_
                refine Ops_p (p_move rfl) (lt_dec rfl) ?_
                refine Ops_p (p_lss rfl rfl) (lt_dec rfl) ?_
                refine Ops_p (p_move rfl) (lt_dec rfl) ?_
                refine Ops_guard rfl rfl (lt_dec rfl) (fun hg5 => ?_) (fun hg5 => ?_)
                · try simp only [bs] at hg5
                  refine Ops_p (p_move rfl) (lt_dec rfl) ?_
                  refine Ops_guard_t rfl rfl (lt_dec rfl) ?_
                  refine Ops_p (p_move rfl) (lt_dec rfl) ?_
                  refine Ops_guard_t rfl rfl (lt_dec rfl) ?_
                  refine Ops_p (p_lss rfl rfl) (lt_dec rfl) ?_
                  refine Ops_p (p_pick_t rfl rfl) (lt_dec rfl) ?_
                  refine Ops_nil ?_
                  refine W_cond rfl (fun h7 => ?_) (fun h7 => ?_)
                  · try simp only [bs] at h7
                    obtain ⟨rfl, rfl⟩ := hB (by omega)
                    refine W_seq ?_
                    refine W_seq ?_
                    refine W_region ?_
                    refine Ops_p (p_move rfl) (lt_dec rfl) ?_
                    refine Ops_p (p_move rfl) (lt_dec rfl) ?_
                    refine Ops_p (p_fieldAddr rfl rfl rfl rfl rfl rfl) (lt_dec rfl) ?_
                    refine Ops_p (p_ixN 10 _ rfl rfl rfl rfl rfl rfl (by first | (first | omega | (dsimp only; omega)) | exact Fin.isLt _)) (lt_dec rfl) ?_
                    first | refine Ops_p (p_ix1 _ rfl rfl rfl rfl rfl rfl (by first | (first | omega | (dsimp only; omega)) | exact Fin.isLt _)) (lt_dec rfl) ?_ | refine Ops_p (p_ix1s _ rfl rfl rfl rfl rfl rfl (by first | (first | omega | (dsimp only; omega)) | exact Fin.isLt _)) (lt_dec rfl) ?_
                    refine Ops_q (q_load rfl rfl m0 rfl (by first | exact True.intro | trivial | (first | omega | (dsimp only; omega)) | exact Fin.isLt _ | (dsimp only; omega))) (lt_dec rfl) ?_
                    first | refine Ops_p (p_conv8 rfl rfl rfl (by decide)) (lt_dec rfl) ?_ | refine Ops_p (p_conv rfl rfl rfl (by exact ⟨(by first | omega | (dsimp only; omega)), (by first | omega | (dsimp only; omega))⟩)) (lt_dec rfl) ?_
                    refine Ops_p (p_move rfl) (lt_dec rfl) ?_
                    refine Ops_p (p_geq rfl rfl) (lt_dec rfl) ?_
                    refine Ops_p (p_move rfl) (lt_dec rfl) ?_
                    refine Ops_guard rfl rfl (lt_dec rfl) (fun hg6 => ?_) (fun hg6 => ?_)
                    · try simp only [bs] at hg6
                      refine Ops_p (p_move rfl) (lt_dec rfl) ?_
                      refine Ops_guard_t rfl rfl (lt_dec rfl) ?_
                      refine Ops_p (p_move rfl) (lt_dec rfl) ?_
                      refine Ops_guard_t rfl rfl (lt_dec rfl) ?_
                      refine Ops_p (p_fieldAddr rfl rfl rfl rfl rfl rfl) (lt_dec rfl) ?_
                      refine Ops_guard_t rfl rfl (lt_dec rfl) ?_
                      refine Ops_p (p_ixN 10 _ rfl rfl rfl rfl rfl rfl (by first | (first | omega | (dsimp only; omega)) | exact Fin.isLt _)) (lt_dec rfl) ?_
                      refine Ops_guard_t rfl rfl (lt_dec rfl) ?_
                      first | refine Ops_p (p_ix1 _ rfl rfl rfl rfl rfl rfl (by first | (first | omega | (dsimp only; omega)) | exact Fin.isLt _)) (lt_dec rfl) ?_ | refine Ops_p (p_ix1s _ rfl rfl rfl rfl rfl rfl (by first | (first | omega | (dsimp only; omega)) | exact Fin.isLt _)) (lt_dec rfl) ?_
                      refine Ops_guard_t rfl rfl (lt_dec rfl) ?_
                      refine Ops_q (q_load rfl rfl m0 rfl (by first | exact True.intro | trivial | (first | omega | (dsimp only; omega)) | exact Fin.isLt _ | (dsimp only; omega))) (lt_dec rfl) ?_
                      refine Ops_guard_t rfl rfl (lt_dec rfl) ?_
                      first | refine Ops_p (p_conv8 rfl rfl rfl (by decide)) (lt_dec rfl) ?_ | refine Ops_p (p_conv rfl rfl rfl (by exact ⟨(by first | omega | (dsimp only; omega)), (by first | omega | (dsimp only; omega))⟩)) (lt_dec rfl) ?_
                      refine Ops_guard_t rfl rfl (lt_dec rfl) ?_
                      refine Ops_p (p_move rfl) (lt_dec rfl) ?_
                      refine Ops_guard_t rfl rfl (lt_dec rfl) ?_
                      refine Ops_p (p_geq rfl rfl) (lt_dec rfl) ?_
                      refine Ops_p (p_pick_f rfl rfl) (lt_dec rfl) ?_
                      refine Ops_nil ?_
                      refine W_cond rfl (fun h8 => ?_) (fun h8 => ?_)
                      · try simp only [bs] at h8
                        refine W_seq ?_
                        refine W_region ?_
                        refine Ops_p (p_assign rfl) (lt_dec rfl) ?_
                        refine Ops_nil ?_
                        refine W_ret ?_
                        refine Exists.intro _ (And.intro (.cons (.tmp rfl) .nil) ?_)
                        first | rfl | (refine veq_bool ?_; simp_all; done) | (refine veq_bool ?_; simp; omega) | (refine veq_bool ?_; rw [eq_comm, decide_eq_false_iff_not]; omega) | (refine veq_bool ?_; rw [eq_comm, decide_eq_true_iff]; omega) | (refine veq_int ?_; omega) | (refine veq_arr8 fun j hj => ?_; (try dsimp only); first | (simp; done) | (simp; omega) | ((repeat' split) <;> first | rfl | (exfalso; omega) | (congr 1; omega) | (simp_all; done))) | (exact veq_bool (isSq_f (not_sq_n (by first | omega | (simp_all; omega))))) | (exact veq_bool (isSq_f (not_sq_zero (x := x) (y := y) (by omega) (by omega) (by omega) (by assumption)))) | (exact veq_bool (isSq_f (not_sq_row (x := x) (y := y) (by omega) (by omega) (by omega) (by omega) (by omega)))) | (exact veq_bool (isSq_f (not_sq_col (x := x) (y := y) (by omega) (by omega) (by omega) (by omega) (by omega)))) | (exact veq_bool (isSq_f (not_sq_full (x := x) (by omega) hA (by omega) (by obtain ⟨e1, e2⟩ := hB (by omega); subst e1; subst e2; first | exact .inl (by assumption) | exact .inr (by assumption))))) | (obtain rfl : x = 10 := (by omega); exact veq_bool (isSq_t (sq_of_XP h1 hX)))
                      · try simp only [bs] at h8
                        refine W_skip ?_
                        refine W_seq ?_
                        refine W_region ?_
                        refine Ops_p (p_move rfl) (lt_dec rfl) ?_
                        refine Ops_p (p_move rfl) (lt_dec rfl) ?_
                        refine Ops_p (p_move rfl) (lt_dec rfl) ?_
                        refine Ops_p (p_fieldAddr rfl rfl rfl rfl rfl rfl) (lt_dec rfl) ?_
                        refine Ops_p (p_ixN 10 _ rfl rfl rfl rfl rfl rfl (by first | (first | omega | (dsimp only; omega)) | exact Fin.isLt _)) (lt_dec rfl) ?_
                        first | refine Ops_p (p_ix1 _ rfl rfl rfl rfl rfl rfl (by first | (first | omega | (dsimp only; omega)) | exact Fin.isLt _)) (lt_dec rfl) ?_ | refine Ops_p (p_ix1s _ rfl rfl rfl rfl rfl rfl (by first | (first | omega | (dsimp only; omega)) | exact Fin.isLt _)) (lt_dec rfl) ?_
                        refine Ops_q (q_load rfl rfl m0 rfl (by first | exact True.intro | trivial | (first | omega | (dsimp only; omega)) | exact Fin.isLt _ | (dsimp only; omega))) (lt_dec rfl) ?_
                        refine Ops_p (p_shl rfl rfl (by omega) (by simp only [IntKind.bits]; omega) (shl_in (by omega) (by omega))) (lt_dec rfl) ?_
                        refine Ops_p (p_or_bits (p := rowOf t x) rfl rfl ((hA.1 (by omega)).1) (by omega) (by omega) (by unfold rowOf; omega)) (lt_dec rfl) ?_
                        refine Ops_p (p_assign rfl) (lt_dec rfl) ?_
                        refine Ops_nil ?_
                        refine W_region ?_
                        refine Ops_p (p_move rfl) (lt_dec rfl) ?_
                        refine Ops_p (p_move rfl) (lt_dec rfl) ?_
                        refine Ops_p (p_move rfl) (lt_dec rfl) ?_
                        refine Ops_p (p_fieldAddr rfl rfl rfl rfl rfl rfl) (lt_dec rfl) ?_
                        refine Ops_p (p_ixN 10 _ rfl rfl rfl rfl rfl rfl (by first | (first | omega | (dsimp only; omega)) | exact Fin.isLt _)) (lt_dec rfl) ?_
                        first | refine Ops_p (p_ix1 _ rfl rfl rfl rfl rfl rfl (by first | (first | omega | (dsimp only; omega)) | exact Fin.isLt _)) (lt_dec rfl) ?_ | refine Ops_p (p_ix1s _ rfl rfl rfl rfl rfl rfl (by first | (first | omega | (dsimp only; omega)) | exact Fin.isLt _)) (lt_dec rfl) ?_
                        refine Ops_q (q_load rfl rfl m0 rfl (by first | exact True.intro | trivial | (first | omega | (dsimp only; omega)) | exact Fin.isLt _ | (dsimp only; omega))) (lt_dec rfl) ?_
                        refine Ops_p (p_shl rfl rfl (by omega) (by simp only [IntKind.bits]; omega) (shl_in (by omega) (by omega))) (lt_dec rfl) ?_
                        refine Ops_p (p_or_col (p := colOf t x) rfl rfl ((hA.1 (by omega)).2) (by omega) (by omega) (by unfold colOf; omega)) (lt_dec rfl) ?_
                        refine Ops_p (p_assign rfl) (lt_dec rfl) ?_
                        refine Ops_nil ?_
                        refine W_region ?_
                        refine Ops_p (p_add rfl rfl (by exact ⟨(by first | omega | (dsimp only; omega)), (by first | omega | (dsimp only; omega))⟩)) (lt_dec rfl) ?_
                        refine Ops_p (p_move rfl) (lt_dec rfl) ?_
                        refine Ops_nil ?_
                        refine Exists.intro (y + 1, ?n1u4, ?n2u4) (And.intro ?hru4 (And.intro ?hmu4 ?hwu4))
                        case hwu4 => exact Wk.intro (.cons rfl (by first | rfl | exact veq_int (by first | omega | (dsimp only; omega))) (.cons rfl (by first | rfl | exact veq_int (by first | omega | (dsimp only; omega))) (.cons rfl (by first | rfl | exact veq_int (by first | omega | (dsimp only; omega))) (.cons rfl (by first | rfl | exact veq_int (by first | omega | (dsimp only; omega))) (.cons rfl (by first | rfl | exact veq_int (by first | omega | (dsimp only; omega))) (.cons rfl (by first | rfl | exact veq_int (by first | omega | (dsimp only; omega))) (.cons rfl (by first | rfl | exact veq_int (by first | omega | (dsimp only; omega))) (.cons rfl (by first | rfl | exact veq_int (by first | omega | (dsimp only; omega))) (.cons rfl (by first | rfl | exact veq_int (by first | omega | (dsimp only; omega))) (.cons rfl (by first | rfl | exact veq_int (by first | omega | (dsimp only; omega))) (.cons rfl (by first | rfl | exact veq_int (by first | omega | (dsimp only; omega))) (.cons rfl (by first | rfl | exact veq_int (by first | omega | (dsimp only; omega))) .nil)))))))))))) (.keep rfl rfl (fun _ h => h) .nil)
                        case hru4 => first | (exfalso; omega) | (exact ⟨by show y + 1 ≤ 10; omega, hA.step_lo (by omega) (by omega) (by omega) (by omega), fun _ => ⟨rfl, rfl⟩⟩) | (exact ⟨by show y + 1 ≤ 10; omega, hA.step_hi (by omega) (by assumption), fun hh => ⟨(hB hh).1.trans (bits_hiN (by omega)), (hB hh).2.trans (bits_hiN (by omega))⟩⟩)
                        case hmu4 => show _ < _; omega
                    · try simp only [bs] at hg6
                      refine Ops_guard_f rfl rfl rfl (lt_dec rfl) ?_
                      refine Ops_guard_f rfl rfl rfl (lt_dec rfl) ?_
                      refine Ops_guard_f rfl rfl rfl (lt_dec rfl) ?_
                      refine Ops_guard_f rfl rfl rfl (lt_dec rfl) ?_
                      refine Ops_guard_f rfl rfl rfl (lt_dec rfl) ?_
                      refine Ops_guard_f rfl rfl rfl (lt_dec rfl) ?_
                      refine Ops_guard_f rfl rfl rfl (lt_dec rfl) ?_
                      refine Ops_guard_f rfl rfl rfl (lt_dec rfl) ?_
                      refine Ops_p (p_pick_t rfl rfl) (lt_dec rfl) ?_
                      refine Ops_nil ?_
                      refine W_true rfl ?_
                      refine W_seq ?_
                      refine W_region ?_
                      refine Ops_p (p_assign rfl) (lt_dec rfl) ?_
                      refine Ops_nil ?_
                      refine W_ret ?_
                      refine Exists.intro _ (And.intro (.cons (.tmp rfl) .nil) ?_)
                      first | rfl | (refine veq_bool ?_; simp_all; done) | (refine veq_bool ?_; simp; omega) | (refine veq_bool ?_; rw [eq_comm, decide_eq_false_iff_not]; omega) | (refine veq_bool ?_; rw [eq_comm, decide_eq_true_iff]; omega) | (refine veq_int ?_; omega) | (refine veq_arr8 fun j hj => ?_; (try dsimp only); first | (simp; done) | (simp; omega) | ((repeat' split) <;> first | rfl | (exfalso; omega) | (congr 1; omega) | (simp_all; done))) | (exact veq_bool (isSq_f (not_sq_n (by first | omega | (simp_all; omega))))) | (exact veq_bool (isSq_f (not_sq_zero (x := x) (y := y) (by omega) (by omega) (by omega) (by assumption)))) | (exact veq_bool (isSq_f (not_sq_row (x := x) (y := y) (by omega) (by omega) (by omega) (by omega) (by omega)))) | (exact veq_bool (isSq_f (not_sq_col (x := x) (y := y) (by omega) (by omega) (by omega) (by omega) (by omega)))) | (exact veq_bool (isSq_f (not_sq_full (x := x) (by omega) hA (by omega) (by obtain ⟨e1, e2⟩ := hB (by omega); subst e1; subst e2; first | exact .inl (by assumption) | exact .inr (by assumption))))) | (obtain rfl : x = 10 := (by omega); exact veq_bool (isSq_t (sq_of_XP h1 hX)))
                  · try simp only [bs] at h7
                    refine W_skip ?_
                    refine W_region ?_
                    refine Ops_p (p_add rfl rfl (by exact ⟨(by first | omega | (dsimp only; omega)), (by first | omega | (dsimp only; omega))⟩)) (lt_dec rfl) ?_
                    refine Ops_p (p_move rfl) (lt_dec rfl) ?_
                    refine Ops_nil ?_
                    refine Exists.intro (y + 1, ?n1u5, ?n2u5) (And.intro ?hru5 (And.intro ?hmu5 ?hwu5))
                    case hwu5 => exact Wk.intro (.cons rfl (by first | rfl | exact veq_int (by first | omega | (dsimp only; omega))) (.cons rfl (by first | rfl | exact veq_int (by first | omega | (dsimp only; omega))) (.cons rfl (by first | rfl | exact veq_int (by first | omega | (dsimp only; omega))) (.cons rfl (by first | rfl | exact veq_int (by first | omega | (dsimp only; omega))) (.cons rfl (by first | rfl | exact veq_int (by first | omega | (dsimp only; omega))) (.cons rfl (by first | rfl | exact veq_int (by first | omega | (dsimp only; omega))) (.cons rfl (by first | rfl | exact veq_int (by first | omega | (dsimp only; omega))) (.cons rfl (by first | rfl | exact veq_int (by first | omega | (dsimp only; omega))) (.cons rfl (by first | rfl | exact veq_int (by first | omega | (dsimp only; omega))) (.cons rfl (by first | rfl | exact veq_int (by first | omega | (dsimp only; omega))) (.cons rfl (by first | rfl | exact veq_int (by first | omega | (dsimp only; omega))) (.cons rfl (by first | rfl | exact veq_int (by first | omega | (dsimp only; omega))) .nil)))))))))))) (.keep rfl rfl (fun _ h => h) .nil)
                    case hru5 => first | (exfalso; omega) | (exact ⟨by show y + 1 ≤ 10; omega, hA.step_lo (by omega) (by omega) (by omega) (by omega), fun _ => ⟨rfl, rfl⟩⟩) | (exact ⟨by show y + 1 ≤ 10; omega, hA.step_hi (by omega) (by assumption), fun hh => ⟨(hB hh).1.trans (bits_hiN (by omega)), (hB hh).2.trans (bits_hiN (by omega))⟩⟩)
                    case hmu5 => show _ < _; omega
                · try simp only [bs] at hg5
                  refine Ops_guard_f rfl rfl rfl (lt_dec rfl) ?_
                  refine Ops_guard_f rfl rfl rfl (lt_dec rfl) ?_
                  refine Ops_p (p_pick_f rfl rfl) (lt_dec rfl) ?_
                  refine Ops_nil ?_
                  refine W_false rfl ?_
                  refine W_skip ?_
                  refine W_region ?_
                  refine Ops_p (p_add rfl rfl (by exact ⟨(by first | omega | (dsimp only; omega)), (by first | omega | (dsimp only; omega))⟩)) (lt_dec rfl) ?_
                  refine Ops_p (p_move rfl) (lt_dec rfl) ?_
                  refine Ops_nil ?_
                  refine Exists.intro (y + 1, ?n1u6, ?n2u6) (And.intro ?hru6 (And.intro ?hmu6 ?hwu6))
                  case hwu6 => exact Wk.intro (.cons rfl (by first | rfl | exact veq_int (by first | omega | (dsimp only; omega))) (.cons rfl (by first | rfl | exact veq_int (by first | omega | (dsimp only; omega))) (.cons rfl (by first | rfl | exact veq_int (by first | omega | (dsimp only; omega))) (.cons rfl (by first | rfl | exact veq_int (by first | omega | (dsimp only; omega))) (.cons rfl (by first | rfl | exact veq_int (by first | omega | (dsimp only; omega))) (.cons rfl (by first | rfl | exact veq_int (by first | omega | (dsimp only; omega))) (.cons rfl (by first | rfl | exact veq_int (by first | omega | (dsimp only; omega))) (.cons rfl (by first | rfl | exact veq_int (by first | omega | (dsimp only; omega))) (.cons rfl (by first | rfl | exact veq_int (by first | omega | (dsimp only; omega))) (.cons rfl (by first | rfl | exact veq_int (by first | omega | (dsimp only; omega))) (.cons rfl (by first | rfl | exact veq_int (by first | omega | (dsimp only; omega))) (.cons rfl (by first | rfl | exact veq_int (by first | omega | (dsimp only; omega))) .nil)))))))))))) (.keep rfl rfl (fun _ h => h) .nil)
                  case hru6 => first | (exfalso; omega) | (exact ⟨by show y + 1 ≤ 10; omega, hA.step_lo (by omega) (by omega) (by omega) (by omega), fun _ => ⟨rfl, rfl⟩⟩) | (exact ⟨by show y + 1 ≤ 10; omega, hA.step_hi (by omega) (by assumption), fun hh => ⟨(hB hh).1.trans (bits_hiN (by omega)), (hB hh).2.trans (bits_hiN (by omega))⟩⟩)
                  case hmu6 => show _ < _; omega
            · try simp only [bs] at hg1
              refine Ops_guard_f rfl rfl rfl (lt_dec rfl) ?_
              refine Ops_guard_f rfl rfl rfl (lt_dec rfl) ?_
              refine Ops_p (p_pick_t rfl rfl) (lt_dec rfl) ?_
              refine Ops_p (p_move rfl) (lt_dec rfl) ?_
              refine Ops_guard_t rfl rfl (lt_dec rfl) ?_
              refine Ops_p (p_move rfl) (lt_dec rfl) ?_
              refine Ops_guard_t rfl rfl (lt_dec rfl) ?_
              refine Ops_p (p_move rfl) (lt_dec rfl) ?_
              refine Ops_guard_t rfl rfl (lt_dec rfl) ?_
              refine Ops_p (p_fieldAddr rfl rfl rfl rfl rfl rfl) (lt_dec rfl) ?_
              refine Ops_guard_t rfl rfl (lt_dec rfl) ?_
              refine Ops_p (p_ixN 10 _ rfl rfl rfl rfl rfl rfl (by first | (first | omega | (dsimp only; omega)) | exact Fin.isLt _)) (lt_dec rfl) ?_
              refine Ops_guard_t rfl rfl (lt_dec rfl) ?_
              first | refine Ops_p (p_ix1 _ rfl rfl rfl rfl rfl rfl (by first | (first | omega | (dsimp only; omega)) | exact Fin.isLt _)) (lt_dec rfl) ?_ | refine Ops_p (p_ix1s _ rfl rfl rfl rfl rfl rfl (by first | (first | omega | (dsimp only; omega)) | exact Fin.isLt _)) (lt_dec rfl) ?_
              refine Ops_guard_t rfl rfl (lt_dec rfl) ?_
              refine Ops_q (q_load rfl rfl m0 rfl (by first | exact True.intro | trivial | (first | omega | (dsimp only; omega)) | exact Fin.isLt _ | (dsimp only; omega))) (lt_dec rfl) ?_
              refine Ops_guard_t rfl rfl (lt_dec rfl) ?_
              first | refine Ops_p (p_neq_8 rfl rfl) (lt_dec rfl) ?_ | refine Ops_p (p_neq rfl rfl) (lt_dec rfl) ?_
              refine Ops_p (p_pick_t rfl rfl) (lt_dec rfl) ?_
              refine Ops_nil ?_
              refine W_cond rfl (fun h9 => ?_) (fun h9 => ?_)
              · try simp only [bs] at h9
                refine W_seq ?_
                refine W_region ?_
                refine Ops_p (p_assign rfl) (lt_dec rfl) ?_
                refine Ops_nil ?_
                refine W_ret ?_
                refine Exists.intro _ (And.intro (.cons (.tmp rfl) .nil) ?_)
                first | rfl | (refine veq_bool ?_; simp_all; done) | (refine veq_bool ?_; simp; omega) | (refine veq_bool ?_; rw [eq_comm, decide_eq_false_iff_not]; omega) | (refine veq_bool ?_; rw [eq_comm, decide_eq_true_iff]; omega) | (refine veq_int ?_; omega) | (refine veq_arr8 fun j hj => ?_; (try dsimp only); first | (simp; done) | (simp; omega) | ((repeat' split) <;> first | rfl | (exfalso; omega) | (congr 1; omega) | (simp_all; done))) | (exact veq_bool (isSq_f (not_sq_n (by first | omega | (simp_all; omega))))) | (exact veq_bool (isSq_f (not_sq_zero (x := x) (y := y) (by omega) (by omega) (by omega) (by assumption)))) | (exact veq_bool (isSq_f (not_sq_row (x := x) (y := y) (by omega) (by omega) (by omega) (by omega) (by omega)))) | (exact veq_bool (isSq_f (not_sq_col (x := x) (y := y) (by omega) (by omega) (by omega) (by omega) (by omega)))) | (exact veq_bool (isSq_f (not_sq_full (x := x) (by omega) hA (by omega) (by obtain ⟨e1, e2⟩ := hB (by omega); subst e1; subst e2; first | exact .inl (by assumption) | exact .inr (by assumption))))) | (obtain rfl : x = 10 := (by omega); exact veq_bool (isSq_t (sq_of_XP h1 hX)))
              · try simp only [bs] at h9
                refine W_skip ?_
                refine W_seq ?_
                refine W_region ?_
                refine Ops_p (p_move rfl) (lt_dec rfl) ?_
                refine Ops_p (p_move rfl) (lt_dec rfl) ?_
                refine Ops_p (p_lss rfl rfl) (lt_dec rfl) ?_
                refine Ops_p (p_move rfl) (lt_dec rfl) ?_
                refine Ops_guard rfl rfl (lt_dec rfl) (fun hg7 => ?_) (fun hg7 => ?_)
                · try simp only [bs] at hg7
                  refine Ops_p (p_move rfl) (lt_dec rfl) ?_
                  refine Ops_guard_t rfl rfl (lt_dec rfl) ?_
                  refine Ops_p (p_move rfl) (lt_dec rfl) ?_
                  refine Ops_guard_t rfl rfl (lt_dec rfl) ?_
                  refine Ops_p (p_lss rfl rfl) (lt_dec rfl) ?_
                  refine Ops_p (p_pick_t rfl rfl) (lt_dec rfl) ?_
                  refine Ops_nil ?_
                  refine W_cond rfl (fun h10 => ?_) (fun h10 => ?_)
                  · try simp only [bs] at h10
                    obtain ⟨rfl, rfl⟩ := hB (by omega)
                    refine W_seq ?_
                    refine W_seq ?_
                    refine W_region ?_
                    refine Ops_p (p_move rfl) (lt_dec rfl) ?_
                    refine Ops_p (p_move rfl) (lt_dec rfl) ?_
                    refine Ops_p (p_fieldAddr rfl rfl rfl rfl rfl rfl) (lt_dec rfl) ?_
                    refine Ops_p (p_ixN 10 _ rfl rfl rfl rfl rfl rfl (by first | (first | omega | (dsimp only; omega)) | exact Fin.isLt _)) (lt_dec rfl) ?_
                    first | refine Ops_p (p_ix1 _ rfl rfl rfl rfl rfl rfl (by first | (first | omega | (dsimp only; omega)) | exact Fin.isLt _)) (lt_dec rfl) ?_ | refine Ops_p (p_ix1s _ rfl rfl rfl rfl rfl rfl (by first | (first | omega | (dsimp only; omega)) | exact Fin.isLt _)) (lt_dec rfl) ?_
                    refine Ops_q (q_load rfl rfl m0 rfl (by first | exact True.intro | trivial | (first | omega | (dsimp only; omega)) | exact Fin.isLt _ | (dsimp only; omega))) (lt_dec rfl) ?_
                    first | refine Ops_p (p_conv8 rfl rfl rfl (by decide)) (lt_dec rfl) ?_ | refine Ops_p (p_conv rfl rfl rfl (by exact ⟨(by first | omega | (dsimp only; omega)), (by first | omega | (dsimp only; omega))⟩)) (lt_dec rfl) ?_
                    refine Ops_p (p_move rfl) (lt_dec rfl) ?_
                    refine Ops_p (p_geq rfl rfl) (lt_dec rfl) ?_
                    refine Ops_p (p_move rfl) (lt_dec rfl) ?_
                    refine Ops_guard rfl rfl (lt_dec rfl) (fun hg8 => ?_) (fun hg8 => ?_)
                    · try simp only [bs] at hg8
                      refine Ops_p (p_move rfl) (lt_dec rfl) ?_
                      refine Ops_guard_t rfl rfl (lt_dec rfl) ?_
                      refine Ops_p (p_move rfl) (lt_dec rfl) ?_
                      refine Ops_guard_t rfl rfl (lt_dec rfl) ?_
                      refine Ops_p (p_fieldAddr rfl rfl rfl rfl rfl rfl) (lt_dec rfl) ?_
                      refine Ops_guard_t rfl rfl (lt_dec rfl) ?_
                      refine Ops_p (p_ixN 10 _ rfl rfl rfl rfl rfl rfl (by first | (first | omega | (dsimp only; omega)) | exact Fin.isLt _)) (lt_dec rfl) ?_
                      refine Ops_guard_t rfl rfl (lt_dec rfl) ?_
                      first | refine Ops_p (p_ix1 _ rfl rfl rfl rfl rfl rfl (by first | (first | omega | (dsimp only; omega)) | exact Fin.isLt _)) (lt_dec rfl) ?_ | refine Ops_p (p_ix1s _ rfl rfl rfl rfl rfl rfl (by first | (first | omega | (dsimp only; omega)) | exact Fin.isLt _)) (lt_dec rfl) ?_
                      refine Ops_guard_t rfl rfl (lt_dec rfl) ?_
                      refine Ops_q (q_load rfl rfl m0 rfl (by first | exact True.intro | trivial | (first | omega | (dsimp only; omega)) | exact Fin.isLt _ | (dsimp only; omega))) (lt_dec rfl) ?_
                      refine Ops_guard_t rfl rfl (lt_dec rfl) ?_
                      first | refine Ops_p (p_conv8 rfl rfl rfl (by decide)) (lt_dec rfl) ?_ | refine Ops_p (p_conv rfl rfl rfl (by exact ⟨(by first | omega | (dsimp only; omega)), (by first | omega | (dsimp only; omega))⟩)) (lt_dec rfl) ?_
                      refine Ops_guard_t rfl rfl (lt_dec rfl) ?_
                      refine Ops_p (p_move rfl) (lt_dec rfl) ?_
                      refine Ops_guard_t rfl rfl (lt_dec rfl) ?_
                      refine Ops_p (p_geq rfl rfl) (lt_dec rfl) ?_
                      refine Ops_p (p_pick_f rfl rfl) (lt_dec rfl) ?_
                      refine Ops_nil ?_
                      refine W_cond rfl (fun h11 => ?_) (fun h11 => ?_)
                      · try simp only [bs] at h11
                        refine W_seq ?_
                        refine W_region ?_
                        refine Ops_p (p_assign rfl) (lt_dec rfl) ?_
                        refine Ops_nil ?_
                        refine W_ret ?_
                        refine Exists.intro _ (And.intro (.cons (.tmp rfl) .nil) ?_)
                        first | rfl | (refine veq_bool ?_; simp_all; done) | (refine veq_bool ?_; simp; omega) | (refine veq_bool ?_; rw [eq_comm, decide_eq_false_iff_not]; omega) | (refine veq_bool ?_; rw [eq_comm, decide_eq_true_iff]; omega) | (refine veq_int ?_; omega) | (refine veq_arr8 fun j hj => ?_; (try dsimp only); first | (simp; done) | (simp; omega) | ((repeat' split) <;> first | rfl | (exfalso; omega) | (congr 1; omega) | (simp_all; done))) | (exact veq_bool (isSq_f (not_sq_n (by first | omega | (simp_all; omega))))) | (exact veq_bool (isSq_f (not_sq_zero (x := x) (y := y) (by omega) (by omega) (by omega) (by assumption)))) | (exact veq_bool (isSq_f (not_sq_row (x := x) (y := y) (by omega) (by omega) (by omega) (by omega) (by omega)))) | (exact veq_bool (isSq_f (not_sq_col (x := x) (y := y) (by omega) (by omega) (by omega) (by omega) (by omega)))) | (exact veq_bool (isSq_f (not_sq_full (x := x) (by omega) hA (by omega) (by obtain ⟨e1, e2⟩ := hB (by omega); subst e1; subst e2; first | exact .inl (by assumption) | exact .inr (by assumption))))) | (obtain rfl : x = 10 := (by omega); exact veq_bool (isSq_t (sq_of_XP h1 hX)))
                      · try simp only [bs] at h11
                        refine W_skip ?_
                        refine W_seq ?_
                        refine W_region ?_
                        refine Ops_p (p_move rfl) (lt_dec rfl) ?_
                        refine Ops_p (p_move rfl) (lt_dec rfl) ?_
                        refine Ops_p (p_move rfl) (lt_dec rfl) ?_
                        refine Ops_p (p_fieldAddr rfl rfl rfl rfl rfl rfl) (lt_dec rfl) ?_
                        refine Ops_p (p_ixN 10 _ rfl rfl rfl rfl rfl rfl (by first | (first | omega | (dsimp only; omega)) | exact Fin.isLt _)) (lt_dec rfl) ?_
                        first | refine Ops_p (p_ix1 _ rfl rfl rfl rfl rfl rfl (by first | (first | omega | (dsimp only; omega)) | exact Fin.isLt _)) (lt_dec rfl) ?_ | refine Ops_p (p_ix1s _ rfl rfl rfl rfl rfl rfl (by first | (first | omega | (dsimp only; omega)) | exact Fin.isLt _)) (lt_dec rfl) ?_
                        refine Ops_q (q_load rfl rfl m0 rfl (by first | exact True.intro | trivial | (first | omega | (dsimp only; omega)) | exact Fin.isLt _ | (dsimp only; omega))) (lt_dec rfl) ?_
                        refine Ops_p (p_shl rfl rfl (by omega) (by simp only [IntKind.bits]; omega) (shl_in (by omega) (by omega))) (lt_dec rfl) ?_
                        refine Ops_p (p_or_bits (p := rowOf t x) rfl rfl ((hA.1 (by omega)).1) (by omega) (by omega) (by unfold rowOf; omega)) (lt_dec rfl) ?_
                        refine Ops_p (p_assign rfl) (lt_dec rfl) ?_
                        refine Ops_nil ?_
                        refine W_region ?_
                        refine Ops_p (p_move rfl) (lt_dec rfl) ?_
                        refine Ops_p (p_move rfl) (lt_dec rfl) ?_
                        refine Ops_p (p_move rfl) (lt_dec rfl) ?_
                        refine Ops_p (p_fieldAddr rfl rfl rfl rfl rfl rfl) (lt_dec rfl) ?_
                        refine Ops_p (p_ixN 10 _ rfl rfl rfl rfl rfl rfl (by first | (first | omega | (dsimp only; omega)) | exact Fin.isLt _)) (lt_dec rfl) ?_
                        first | refine Ops_p (p_ix1 _ rfl rfl rfl rfl rfl rfl (by first | (first | omega | (dsimp only; omega)) | exact Fin.isLt _)) (lt_dec rfl) ?_ | refine Ops_p (p_ix1s _ rfl rfl rfl rfl rfl rfl (by first | (first | omega | (dsimp only; omega)) | exact Fin.isLt _)) (lt_dec rfl) ?_
                        refine Ops_q (q_load rfl rfl m0 rfl (by first | exact True.intro | trivial | (first | omega | (dsimp only; omega)) | exact Fin.isLt _ | (dsimp only; omega))) (lt_dec rfl) ?_
                        refine Ops_p (p_shl rfl rfl (by omega) (by simp only [IntKind.bits]; omega) (shl_in (by omega) (by omega))) (lt_dec rfl) ?_
                        refine Ops_p (p_or_col (p := colOf t x) rfl rfl ((hA.1 (by omega)).2) (by omega) (by omega) (by unfold colOf; omega)) (lt_dec rfl) ?_
                        refine Ops_p (p_assign rfl) (lt_dec rfl) ?_
                        refine Ops_nil ?_
                        refine W_region ?_
                        refine Ops_p (p_add rfl rfl (by exact ⟨(by first | omega | (dsimp only; omega)), (by first | omega | (dsimp only; omega))⟩)) (lt_dec rfl) ?_
                        refine Ops_p (p_move rfl) (lt_dec rfl) ?_
                        refine Ops_nil ?_
                        refine Exists.intro (y + 1, ?n1u7, ?n2u7) (And.intro ?hru7 (And.intro ?hmu7 ?hwu7))
                        case hwu7 => exact Wk.intro (.cons rfl (by first | rfl | exact veq_int (by first | omega | (dsimp only; omega))) (.cons rfl (by first | rfl | exact veq_int (by first | omega | (dsimp only; omega))) (.cons rfl (by first | rfl | exact veq_int (by first | omega | (dsimp only; omega))) (.cons rfl (by first | rfl | exact veq_int (by first | omega | (dsimp only; omega))) (.cons rfl (by first | rfl | exact veq_int (by first | omega | (dsimp only; omega))) (.cons rfl (by first | rfl | exact veq_int (by first | omega | (dsimp only; omega))) (.cons rfl (by first | rfl | exact veq_int (by first | omega | (dsimp only; omega))) (.cons rfl (by first | rfl | exact veq_int (by first | omega | (dsimp only; omega))) (.cons rfl (by first | rfl | exact veq_int (by first | omega | (dsimp only; omega))) (.cons rfl (by first | rfl | exact veq_int (by first | omega | (dsimp only; omega))) (.cons rfl (by first | rfl | exact veq_int (by first | omega | (dsimp only; omega))) (.cons rfl (by first | rfl | exact veq_int (by first | omega | (dsimp only; omega))) .nil)))))))))))) (.keep rfl rfl (fun _ h => h) .nil)
                        case hru7 => first | (exfalso; omega) | (exact ⟨by show y + 1 ≤ 10; omega, hA.step_lo (by omega) (by omega) (by omega) (by omega), fun _ => ⟨rfl, rfl⟩⟩) | (exact ⟨by show y + 1 ≤ 10; omega, hA.step_hi (by omega) (by assumption), fun hh => ⟨(hB hh).1.trans (bits_hiN (by omega)), (hB hh).2.trans (bits_hiN (by omega))⟩⟩)
                        case hmu7 => show _ < _; omega
                    · try simp only [bs] at hg8
                      refine Ops_guard_f rfl rfl rfl (lt_dec rfl) ?_
                      refine Ops_guard_f rfl rfl rfl (lt_dec rfl) ?_
                      refine Ops_guard_f rfl rfl rfl (lt_dec rfl) ?_
                      refine Ops_guard_f rfl rfl rfl (lt_dec rfl) ?_
                      refine Ops_guard_f rfl rfl rfl (lt_dec rfl) ?_
                      refine Ops_guard_f rfl rfl rfl (lt_dec rfl) ?_
                      refine Ops_guard_f rfl rfl rfl (lt_dec rfl) ?_
                      refine Ops_guard_f rfl rfl rfl (lt_dec rfl) ?_
                      refine Ops_p (p_pick_t rfl rfl) (lt_dec rfl) ?_
                      refine Ops_nil ?_
                      refine W_true rfl ?_
                      refine W_seq ?_
                      refine W_region ?_
                      refine Ops_p (p_assign rfl) (lt_dec rfl) ?_
                      refine Ops_nil ?_
                      refine W_ret ?_
                      refine Exists.intro _ (And.intro (.cons (.tmp rfl) .nil) ?_)
                      first | rfl | (refine veq_bool ?_; simp_all; done) | (refine veq_bool ?_; simp; omega) | (refine veq_bool ?_; rw [eq_comm, decide_eq_false_iff_not]; omega) | (refine veq_bool ?_; rw [eq_comm, decide_eq_true_iff]; omega) | (refine veq_int ?_; omega) | (refine veq_arr8 fun j hj => ?_; (try dsimp only); first | (simp; done) | (simp; omega) | ((repeat' split) <;> first | rfl | (exfalso; omega) | (congr 1; omega) | (simp_all; done))) | (exact veq_bool (isSq_f (not_sq_n (by first | omega | (simp_all; omega))))) | (exact veq_bool (isSq_f (not_sq_zero (x := x) (y := y) (by omega) (by omega) (by omega) (by assumption)))) | (exact veq_bool (isSq_f (not_sq_row (x := x) (y := y) (by omega) (by omega) (by omega) (by omega) (by omega)))) | (exact veq_bool (isSq_f (not_sq_col (x := x) (y := y) (by omega) (by omega) (by omega) (by omega) (by omega)))) | (exact veq_bool (isSq_f (not_sq_full (x := x) (by omega) hA (by omega) (by obtain ⟨e1, e2⟩ := hB (by omega); subst e1; subst e2; first | exact .inl (by assumption) | exact .inr (by assumption))))) | (obtain rfl : x = 10 := (by omega); exact veq_bool (isSq_t (sq_of_XP h1 hX)))
                  · try simp only [bs] at h10
                    refine W_skip ?_
                    refine W_region ?_
                    refine Ops_p (p_add rfl rfl (by exact ⟨(by first | omega | (dsimp only; omega)), (by first | omega | (dsimp only; omega))⟩)) (lt_dec rfl) ?_
                    refine Ops_p (p_move rfl) (lt_dec rfl) ?_
                    refine Ops_nil ?_
                    refine Exists.intro (y + 1, ?n1u8, ?n2u8) (And.intro ?hru8 (And.intro ?hmu8 ?hwu8))
                    case hwu8 => exact Wk.intro (.cons rfl (by first | rfl | exact veq_int (by first | omega | (dsimp only; omega))) (.cons rfl (by first | rfl | exact veq_int (by first | omega | (dsimp only; omega))) (.cons rfl (by first | rfl | exact veq_int (by first | omega | (dsimp only; omega))) (.cons rfl (by first | rfl | exact veq_int (by first | omega | (dsimp only; omega))) (.cons rfl (by first | rfl | exact veq_int (by first | omega | (dsimp only; omega))) (.cons rfl (by first | rfl | exact veq_int (by first | omega | (dsimp only; omega))) (.cons rfl (by first | rfl | exact veq_int (by first | omega | (dsimp only; omega))) (.cons rfl (by first | rfl | exact veq_int (by first | omega | (dsimp only; omega))) (.cons rfl (by first | rfl | exact veq_int (by first | omega | (dsimp only; omega))) (.cons rfl (by first | rfl | exact veq_int (by first | omega | (dsimp only; omega))) (.cons rfl (by first | rfl | exact veq_int (by first | omega | (dsimp only; omega))) (.cons rfl (by first | rfl | exact veq_int (by first | omega | (dsimp only; omega))) .nil)))))))))))) (.keep rfl rfl (fun _ h => h) .nil)
                    case hru8 => first | (exfalso; omega) | (exact ⟨by show y + 1 ≤ 10; omega, hA.step_lo (by omega) (by omega) (by omega) (by omega), fun _ => ⟨rfl, rfl⟩⟩) | (exact ⟨by show y + 1 ≤ 10; omega, hA.step_hi (by omega) (by assumption), fun hh => ⟨(hB hh).1.trans (bits_hiN (by omega)), (hB hh).2.trans (bits_hiN (by omega))⟩⟩)
                    case hmu8 => show _ < _; omega
                · try simp only [bs] at hg7
                  refine Ops_guard_f rfl rfl rfl (lt_dec rfl) ?_
                  refine Ops_guard_f rfl rfl rfl (lt_dec rfl) ?_
                  refine Ops_p (p_pick_f rfl rfl) (lt_dec rfl) ?_
                  refine Ops_nil ?_
                  refine W_false rfl ?_
                  refine W_skip ?_
                  refine W_region ?_
                  refine Ops_p (p_add rfl rfl (by exact ⟨(by first | omega | (dsimp only; omega)), (by first | omega | (dsimp only; omega))⟩)) (lt_dec rfl) ?_
                  refine Ops_p (p_move rfl) (lt_dec rfl) ?_
                  refine Ops_nil ?_
                  refine Exists.intro (y + 1, ?n1u9, ?n2u9) (And.intro ?hru9 (And.intro ?hmu9 ?hwu9))
                  case hwu9 => exact Wk.intro (.cons rfl (by first | rfl | exact veq_int (by first | omega | (dsimp only; omega))) (.cons rfl (by first | rfl | exact veq_int (by first | omega | (dsimp only; omega))) (.cons rfl (by first | rfl | exact veq_int (by first | omega | (dsimp only; omega))) (.cons rfl (by first | rfl | exact veq_int (by first | omega | (dsimp only; omega))) (.cons rfl (by first | rfl | exact veq_int (by first | omega | (dsimp only; omega))) (.cons rfl (by first | rfl | exact veq_int (by first | omega | (dsimp only; omega))) (.cons rfl (by first | rfl | exact veq_int (by first | omega | (dsimp only; omega))) (.cons rfl (by first | rfl | exact veq_int (by first | omega | (dsimp only; omega))) (.cons rfl (by first | rfl | exact veq_int (by first | omega | (dsimp only; omega))) (.cons rfl (by first | rfl | exact veq_int (by first | omega | (dsimp only; omega))) (.cons rfl (by first | rfl | exact veq_int (by first | omega | (dsimp only; omega))) (.cons rfl (by first | rfl | exact veq_int (by first | omega | (dsimp only; omega))) .nil)))))))))))) (.keep rfl rfl (fun _ h => h) .nil)
                  case hru9 => first | (exfalso; omega) | (exact ⟨by show y + 1 ≤ 10; omega, hA.step_lo (by omega) (by omega) (by omega) (by omega), fun _ => ⟨rfl, rfl⟩⟩) | (exact ⟨by show y + 1 ≤ 10; omega, hA.step_hi (by omega) (by assumption), fun hh => ⟨(hB hh).1.trans (bits_hiN (by omega)), (hB hh).2.trans (bits_hiN (by omega))⟩⟩)
                  case hmu9 => show _ < _; omega
          · try simp only [bs] at h3
            obtain rfl : y = 10 := (by omega)
            refine W_exit ?_
            refine W_seq ?_
            refine W_region ?_
            refine Ops_p (p_move rfl) (lt_dec rfl) ?_
            refine Ops_p (p_move rfl) (lt_dec rfl) ?_
            refine Ops_p (p_lss rfl rfl) (lt_dec rfl) ?_
            refine Ops_p (p_move rfl) (lt_dec rfl) ?_
            refine Ops_guard rfl rfl (lt_dec rfl) (fun hg9 => ?_) (fun hg9 => ?_)
            · try simp only [bs] at hg9
              refine Ops_p (p_move rfl) (lt_dec rfl) ?_
              refine Ops_guard_t rfl rfl (lt_dec rfl) ?_
              refine Ops_p (p_move rfl) (lt_dec rfl) ?_
              refine Ops_guard_t rfl rfl (lt_dec rfl) ?_
              refine Ops_p (p_shl rfl rfl (by omega) (by simp only [IntKind.bits]; omega) (shl_in (by omega) (by omega))) (lt_dec rfl) ?_
              refine Ops_guard_t rfl rfl (lt_dec rfl) ?_
              refine Ops_p (p_sub rfl rfl (shl_in1 (by omega) (by omega))) (lt_dec rfl) ?_
              refine Ops_guard_t rfl rfl (lt_dec rfl) ?_
              refine Ops_p (p_neq rfl rfl) (lt_dec rfl) ?_
              refine Ops_guard_t rfl rfl (lt_dec rfl) ?_
              refine Ops_p (p_move rfl) (lt_dec rfl) ?_
              refine Ops_guard rfl rfl (lt_dec rfl) (fun hg10 => ?_) (fun hg10 => ?_)
              · try simp only [bs] at hg10
                refine Ops_p (p_move rfl) (lt_dec rfl) ?_
                refine Ops_guard_t rfl rfl (lt_dec rfl) ?_
                refine Ops_p (p_move rfl) (lt_dec rfl) ?_
                refine Ops_guard_t rfl rfl (lt_dec rfl) ?_
                refine Ops_p (p_shl rfl rfl (by omega) (by simp only [IntKind.bits]; omega) (shl_in (by omega) (by omega))) (lt_dec rfl) ?_
                refine Ops_guard_t rfl rfl (lt_dec rfl) ?_
                refine Ops_p (p_sub rfl rfl (shl_in1 (by omega) (by omega))) (lt_dec rfl) ?_
                refine Ops_guard_t rfl rfl (lt_dec rfl) ?_
                refine Ops_p (p_neq rfl rfl) (lt_dec rfl) ?_
                refine Ops_guard_t rfl rfl (lt_dec rfl) ?_
                refine Ops_p (p_pick_f rfl rfl) (lt_dec rfl) ?_
                refine Ops_p (p_pick_t rfl rfl) (lt_dec rfl) ?_
                refine Ops_nil ?_
                refine W_cond rfl (fun h12 => ?_) (fun h12 => ?_)
                · try simp only [bs] at h12
                  refine W_seq ?_
                  refine W_region ?_
                  refine Ops_p (p_assign rfl) (lt_dec rfl) ?_
                  refine Ops_nil ?_
                  refine W_ret ?_
                  refine Exists.intro _ (And.intro (.cons (.tmp rfl) .nil) ?_)
                  first | rfl | (refine veq_bool ?_; simp_all; done) | (refine veq_bool ?_; simp; omega) | (refine veq_bool ?_; rw [eq_comm, decide_eq_false_iff_not]; omega) | (refine veq_bool ?_; rw [eq_comm, decide_eq_true_iff]; omega) | (refine veq_int ?_; omega) | (refine veq_arr8 fun j hj => ?_; (try dsimp only); first | (simp; done) | (simp; omega) | ((repeat' split) <;> first | rfl | (exfalso; omega) | (congr 1; omega) | (simp_all; done))) | (exact veq_bool (isSq_f (not_sq_n (by first | omega | (simp_all; omega))))) | (exact veq_bool (isSq_f (not_sq_zero (x := x) (y := y) (by omega) (by omega) (by omega) (by assumption)))) | (exact veq_bool (isSq_f (not_sq_row (x := x) (y := y) (by omega) (by omega) (by omega) (by omega) (by omega)))) | (exact veq_bool (isSq_f (not_sq_col (x := x) (y := y) (by omega) (by omega) (by omega) (by omega) (by omega)))) | (exact veq_bool (isSq_f (not_sq_full (x := x) (by omega) hA (by omega) (by obtain ⟨e1, e2⟩ := hB (by omega); subst e1; subst e2; first | exact .inl (by assumption) | exact .inr (by assumption))))) | (obtain rfl : x = 10 := (by omega); exact veq_bool (isSq_t (sq_of_XP h1 hX)))
                · try simp only [bs] at h12
                  refine W_skip ?_
                  refine W_region ?_
                  refine Ops_p (p_add rfl rfl (by exact ⟨(by first | omega | (dsimp only; omega)), (by first | omega | (dsimp only; omega))⟩)) (lt_dec rfl) ?_
                  refine Ops_p (p_move rfl) (lt_dec rfl) ?_
                  refine Ops_nil ?_
                  refine Exists.intro (x + 1) (And.intro ?_ (And.intro ?_ ?_))
                  · first | (refine ⟨by omega, fun z h => if e : z = x then e ▸ XP_hi hA (by omega) else hX z (by omega)⟩) | (refine ⟨by omega, fun z h => if e : z = x then e ▸ XP_lo h1 hA (by omega) (by rw [← (hB (by omega)).1]; assumption) (by rw [← (hB (by omega)).2]; assumption) else hX z (by omega)⟩)
                  · show _ < _; omega
                  · exact Wk.intro (.cons rfl (by first | rfl | exact veq_int (by first | omega | (dsimp only; omega))) (.cons rfl (by first | rfl | exact veq_int (by first | omega | (dsimp only; omega))) (.cons rfl (by first | rfl | exact veq_int (by first | omega | (dsimp only; omega))) (.cons rfl (by first | rfl | exact veq_int (by first | omega | (dsimp only; omega))) (.cons rfl (by first | rfl | exact veq_int (by first | omega | (dsimp only; omega))) (.cons rfl (by first | rfl | exact veq_int (by first | omega | (dsimp only; omega))) (.cons rfl (by first | rfl | exact veq_int (by first | omega | (dsimp only; omega))) .nil))))))) (.keep rfl rfl (fun _ h => h) .nil)
              · try simp only [bs] at hg10
                refine Ops_guard_f rfl rfl rfl (lt_dec rfl) ?_
                refine Ops_guard_f rfl rfl rfl (lt_dec rfl) ?_
                refine Ops_guard_f rfl rfl rfl (lt_dec rfl) ?_
                refine Ops_guard_f rfl rfl rfl (lt_dec rfl) ?_
                refine Ops_guard_t rfl rfl (lt_dec rfl) ?_
                refine Ops_p (p_pick_t rfl rfl) (lt_dec rfl) ?_
                refine Ops_p (p_pick_t rfl rfl) (lt_dec rfl) ?_
                refine Ops_nil ?_
                refine W_true rfl ?_
                refine W_seq ?_
                refine W_region ?_
                refine Ops_p (p_assign rfl) (lt_dec rfl) ?_
                refine Ops_nil ?_
                refine W_ret ?_
                refine Exists.intro _ (And.intro (.cons (.tmp rfl) .nil) ?_)
                first | rfl | (refine veq_bool ?_; simp_all; done) | (refine veq_bool ?_; simp; omega) | (refine veq_bool ?_; rw [eq_comm, decide_eq_false_iff_not]; omega) | (refine veq_bool ?_; rw [eq_comm, decide_eq_true_iff]; omega) | (refine veq_int ?_; omega) | (refine veq_arr8 fun j hj => ?_; (try dsimp only); first | (simp; done) | (simp; omega) | ((repeat' split) <;> first | rfl | (exfalso; omega) | (congr 1; omega) | (simp_all; done))) | (exact veq_bool (isSq_f (not_sq_n (by first | omega | (simp_all; omega))))) | (exact veq_bool (isSq_f (not_sq_zero (x := x) (y := y) (by omega) (by omega) (by omega) (by assumption)))) | (exact veq_bool (isSq_f (not_sq_row (x := x) (y := y) (by omega) (by omega) (by omega) (by omega) (by omega)))) | (exact veq_bool (isSq_f (not_sq_col (x := x) (y := y) (by omega) (by omega) (by omega) (by omega) (by omega)))) | (exact veq_bool (isSq_f (not_sq_full (x := x) (by omega) hA (by omega) (by obtain ⟨e1, e2⟩ := hB (by omega); subst e1; subst e2; first | exact .inl (by assumption) | exact .inr (by assumption))))) | (obtain rfl : x = 10 := (by omega); exact veq_bool (isSq_t (sq_of_XP h1 hX)))
            · try simp only [bs] at hg9
              refine Ops_guard_f rfl rfl rfl (lt_dec rfl) ?_
              refine Ops_guard_f rfl rfl rfl (lt_dec rfl) ?_
              refine Ops_guard_f rfl rfl rfl (lt_dec rfl) ?_
              refine Ops_guard_f rfl rfl rfl (lt_dec rfl) ?_
              refine Ops_guard_f rfl rfl rfl (lt_dec rfl) ?_
              refine Ops_guard_u rfl rfl (lt_dec rfl) ?_
              refine Ops_guard_u rfl rfl (lt_dec rfl) ?_
              refine Ops_guard_u rfl rfl (lt_dec rfl) ?_
              refine Ops_guard_u rfl rfl (lt_dec rfl) ?_
              refine Ops_guard_u rfl rfl (lt_dec rfl) ?_
              refine Ops_guard_f rfl rfl rfl (lt_dec rfl) ?_
              refine Ops_p (p_pick_f rfl rfl) (lt_dec rfl) ?_
              refine Ops_nil ?_
              refine W_false rfl ?_
              refine W_skip ?_
              refine W_region ?_
              refine Ops_p (p_add rfl rfl (by exact ⟨(by first | omega | (dsimp only; omega)), (by first | omega | (dsimp only; omega))⟩)) (lt_dec rfl) ?_
              refine Ops_p (p_move rfl) (lt_dec rfl) ?_
              refine Ops_nil ?_
              refine Exists.intro (x + 1) (And.intro ?_ (And.intro ?_ ?_))
              · first | (refine ⟨by omega, fun z h => if e : z = x then e ▸ XP_hi hA (by omega) else hX z (by omega)⟩) | (refine ⟨by omega, fun z h => if e : z = x then e ▸ XP_lo h1 hA (by omega) (by rw [← (hB (by omega)).1]; assumption) (by rw [← (hB (by omega)).2]; assumption) else hX z (by omega)⟩)
              · show _ < _; omega
              · exact Wk.intro (.cons rfl (by first | rfl | exact veq_int (by first | omega | (dsimp only; omega))) (.cons rfl (by first | rfl | exact veq_int (by first | omega | (dsimp only; omega))) (.cons rfl (by first | rfl | exact veq_int (by first | omega | (dsimp only; omega))) (.cons rfl (by first | rfl | exact veq_int (by first | omega | (dsimp only; omega))) (.cons rfl (by first | rfl | exact veq_int (by first | omega | (dsimp only; omega))) (.cons rfl (by first | rfl | exact veq_int (by first | omega | (dsimp only; omega))) (.cons rfl (by first | rfl | exact veq_int (by first | omega | (dsimp only; omega))) .nil))))))) (.keep rfl rfl (fun _ h => h) .nil)
      · try simp only [bs] at h2
        refine W_exit ?_
        refine W_seq ?_
        refine W_region ?_
        refine Ops_p (p_assign rfl) (lt_dec rfl) ?_
        refine Ops_nil ?_
        refine W_ret ?_
        refine Exists.intro _ (And.intro (.cons (.tmp rfl) .nil) ?_)
        first | rfl | (refine veq_bool ?_; simp_all; done) | (refine veq_bool ?_; simp; omega) | (refine veq_bool ?_; rw [eq_comm, decide_eq_false_iff_not]; omega) | (refine veq_bool ?_; rw [eq_comm, decide_eq_true_iff]; omega) | (refine veq_int ?_; omega) | (refine veq_arr8 fun j hj => ?_; (try dsimp only); first | (simp; done) | (simp; omega) | ((repeat' split) <;> first | rfl | (exfalso; omega) | (congr 1; omega) | (simp_all; done))) | (exact veq_bool (isSq_f (not_sq_n (by first | omega | (simp_all; omega))))) | (exact veq_bool (isSq_f (not_sq_zero (x := x) (y := y) (by omega) (by omega) (by omega) (by assumption)))) | (exact veq_bool (isSq_f (not_sq_row (x := x) (y := y) (by omega) (by omega) (by omega) (by omega) (by omega)))) | (exact veq_bool (isSq_f (not_sq_col (x := x) (y := y) (by omega) (by omega) (by omega) (by omega) (by omega)))) | (exact veq_bool (isSq_f (not_sq_full (x := x) (by omega) hA (by omega) (by obtain ⟨e1, e2⟩ := hB (by omega); subst e1; subst e2; first | exact .inl (by assumption) | exact .inr (by assumption))))) | (obtain rfl : x = 10 := (by omega); exact veq_bool (isSq_t (sq_of_XP h1 hX)))
end Go.Proofs.Ytdcpggdbjllmpaa
