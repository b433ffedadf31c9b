/- What the Go function impl.QuadraticSquare does, shown of its loaded text; its conditions stand in the statement. -/
import Derived.Test.YtebcapplclgaeaaTy
import Derived.Test.YtebcapplclgaeaaFimplQuadraticSquareX1
import Derived.Test.YtebcapplclgaeaaFimplisSquareOf
import Derived.Test.YtebcapplclgaeaaFimplmade
import Derived.Test.YtebcapplclgaeaaFimplwithin
import Derived.Test.YtebcapplclgaeaaM12
namespace Go.Proofs.Ytebcapplclgaeaa
open Go Gx
set_option linter.unusedVariables false
theorem en_impl_QuadraticSquare : Enters Try.prog 16 := enters_of Try.func16 (by kernel_rfl) (by kernel_rfl)
set_option maxRecDepth 100000 in
set_option maxHeartbeats 1000000 in
theorem w_impl_QuadraticSquare {p a b : Int}  : CR Try.prog 16 (vals [.int .i64 p, .int .i64 a, .int .i64 b]) [] (.tup [.agg [.int .i64 (bif (qin p a b && qok p a b) then p else 0), .arr8 100 (bif (qin p a b && qok p a b) then part p.toNat (qg p a b) p.toNat 0 else fun _ => 0)], .int .i64 (bif qin p a b then (bif qok p a b then 0 else 5) else 2)]) := by
  refine CR_intro (rs := [.cell 6 26, .tmp 7]) tt tok Try.func16 rfl rfl rfl (by first | rfl | assumption) fun w => ?_
  refine W_seq ?_
  refine W_region ?_
  refine Ops_x rfl (x_box rfl rfl (lt_dec rfl) fun b3_1 => ?_)
  refine Ops_x rfl (x_box rfl rfl (lt_dec rfl) fun b4_1 => ?_)
  refine Ops_x rfl (x_box rfl rfl (lt_dec rfl) fun b5_1 => ?_)
  refine Ops_x rfl (x_alloc rfl (lt_dec rfl) fun b6_1 => ?_)
  refine Ops_p (p_assign rfl) (lt_dec rfl) ?_
  refine Ops_nil ?_
  refine W_seq ?_
  refine W_seq ?_
  refine W_region ?_
  refine Ops_q (q_load rfl rfl m3 rfl (by first | trivial | (first | omega | (dsimp only; omega)) | exact Fin.isLt _ | (dsimp only; omega))) (lt_dec rfl) ?_
  refine Ops_p (p_neq rfl rfl) (lt_dec rfl) ?_
  refine Ops_p (p_move rfl) (lt_dec rfl) ?_
  refine Ops_guard rfl rfl (lt_dec rfl) (fun hg1 => ?_) (fun hg1 => ?_)
  · try simp only [bs] at hg1
    refine Ops_q (q_load rfl rfl m3 rfl (by first | trivial | (first | omega | (dsimp only; omega)) | exact Fin.isLt _ | (dsimp only; omega))) (lt_dec rfl) ?_
    refine Ops_guard_t rfl rfl (lt_dec rfl) ?_
    refine Ops_p (p_neq rfl rfl) (lt_dec rfl) ?_
    refine Ops_p (p_pick_t rfl rfl) (lt_dec rfl) ?_
    refine Ops_p (p_move rfl) (lt_dec rfl) ?_
    refine Ops_guard rfl rfl (lt_dec rfl) (fun hg2 => ?_) (fun hg2 => ?_)
    · try simp only [bs] at hg2
      refine Ops_q (q_load rfl rfl m3 rfl (by first | trivial | (first | omega | (dsimp only; omega)) | exact Fin.isLt _ | (dsimp only; omega))) (lt_dec rfl) ?_
      refine Ops_guard_t rfl rfl (lt_dec rfl) ?_
      refine Ops_p (p_neq rfl rfl) (lt_dec rfl) ?_
      refine Ops_p (p_pick_t rfl rfl) (lt_dec rfl) ?_
      refine Ops_p (p_move rfl) (lt_dec rfl) ?_
      refine Ops_guard rfl rfl (lt_dec rfl) (fun hg3 => ?_) (fun hg3 => ?_)
      · try simp only [bs] at hg3
        refine Ops_q (q_load rfl rfl m2 rfl (by first | trivial | (first | omega | (dsimp only; omega)) | exact Fin.isLt _ | (dsimp only; omega))) (lt_dec rfl) ?_
        refine Ops_guard_t rfl rfl (lt_dec rfl) ?_
        refine Ops_q (q_load rfl rfl m3 rfl (by first | trivial | (first | omega | (dsimp only; omega)) | exact Fin.isLt _ | (dsimp only; omega))) (lt_dec rfl) ?_
        refine Ops_guard_t rfl rfl (lt_dec rfl) ?_
        refine Ops_p (p_sub rfl rfl (by exact ⟨(by first | omega | (dsimp only; omega)), (by first | omega | (dsimp only; omega))⟩)) (lt_dec rfl) ?_
        refine Ops_guard_t rfl rfl (lt_dec rfl) ?_
        refine Ops_q (q_call en_impl_within rfl (w_impl_within) (View.none _)) (lt_dec rfl) ?_
        refine Ops_guard_t rfl rfl (lt_dec rfl) ?_
        refine Ops_p (p_not rfl) (lt_dec rfl) ?_
        refine Ops_p (p_pick_f rfl rfl) (lt_dec rfl) ?_
        refine Ops_p (p_move rfl) (lt_dec rfl) ?_
        refine Ops_guard rfl rfl (lt_dec rfl) (fun hg4 => ?_) (fun hg4 => ?_)
        · try simp only [bs] at hg4
          refine Ops_q (q_load rfl rfl m1 rfl (by first | trivial | (first | omega | (dsimp only; omega)) | exact Fin.isLt _ | (dsimp only; omega))) (lt_dec rfl) ?_
          refine Ops_guard_t rfl rfl (lt_dec rfl) ?_
          refine Ops_q (q_load rfl rfl m3 rfl (by first | trivial | (first | omega | (dsimp only; omega)) | exact Fin.isLt _ | (dsimp only; omega))) (lt_dec rfl) ?_
          refine Ops_guard_t rfl rfl (lt_dec rfl) ?_
          refine Ops_p (p_sub rfl rfl (by exact ⟨(by first | omega | (dsimp only; omega)), (by first | omega | (dsimp only; omega))⟩)) (lt_dec rfl) ?_
          refine Ops_guard_t rfl rfl (lt_dec rfl) ?_
          refine Ops_q (q_call en_impl_within rfl (w_impl_within) (View.none _)) (lt_dec rfl) ?_
          refine Ops_guard_t rfl rfl (lt_dec rfl) ?_
          refine Ops_p (p_not rfl) (lt_dec rfl) ?_
          refine Ops_p (p_pick_f rfl rfl) (lt_dec rfl) ?_
          refine Ops_nil ?_
          refine W_cond rfl (fun h1 => ?_) (fun h1 => ?_)
          · try simp only [bs] at h1
            refine W_seq ?_
            have h0 : qin p a b = false := qin_f (by omega)
            refine W_region ?_
            refine Ops_p (p_build rfl rfl rfl rfl (by first | trivial | (first | omega | (dsimp only; omega)) | exact Fin.isLt _ | (dsimp only; omega))) (lt_dec rfl) ?_
            refine Ops_x rfl (x_store rfl rfl rfl rfl rfl HpRep.head rfl (by first | trivial | (first | (first | omega | (dsimp only; omega)) | exact Fin.isLt _)) ?_)
            refine Ops_p (p_assign rfl) (lt_dec rfl) ?_
            refine Ops_nil ?_
            refine W_ret ?_
            refine Exists.intro _ (And.intro (.cons (.cell rfl rfl m0 rfl trivial) (.cons (.tmp rfl) .nil)) ?_)
            first | rfl | (refine veq_bool ?_; simp_all; done) | (refine veq_bool ?_; simp; omega) | (refine veq_bool ?_; rw [eq_comm, decide_eq_false_iff_not]; omega) | (refine veq_bool ?_; rw [eq_comm, decide_eq_true_iff]; omega) | (refine veq_int ?_; omega) | (refine veq_arr8 fun j hj => ?_; (try dsimp only); first | (simp; done) | (simp; omega) | ((repeat' split) <;> first | rfl | (exfalso; omega) | (congr 1; omega) | (simp_all; done))) | (rw [h0]; rfl) | (rw [h0, h1]; rfl)
          · try simp only [bs] at h1
            refine W_skip ?_
            refine W_seq ?_
            refine W_seq ?_
            have hp : qP p := (by unfold qP; omega)
            have ha : 0 ≤ a ∧ a ≤ p - 1 := (by first | assumption | omega)
            have hb : 0 ≤ b ∧ b ≤ p - 1 := (by first | assumption | omega)
            have hpb := qP_b hp
            have h0 : qin p a b = true := qin_t hp ha hb
            have hm1 := mulb (a := a) (b := b) hp (by omega) (by omega)
            have hm2 := mulb (a := a - 1) (b := b - 1) hp (by omega) (by omega)
            refine W_region ?_
            refine Ops_q (q_load rfl rfl m2 rfl (by first | trivial | (first | omega | (dsimp only; omega)) | exact Fin.isLt _ | (dsimp only; omega))) (lt_dec rfl) ?_
            refine Ops_q (q_load rfl rfl m1 rfl (by first | trivial | (first | omega | (dsimp only; omega)) | exact Fin.isLt _ | (dsimp only; omega))) (lt_dec rfl) ?_
            refine Ops_p (p_mul rfl rfl (by exact ⟨(by first | omega | (dsimp only; omega)), (by first | omega | (dsimp only; omega))⟩)) (lt_dec rfl) ?_
            refine Ops_q (q_load rfl rfl m2 rfl (by first | trivial | (first | omega | (dsimp only; omega)) | exact Fin.isLt _ | (dsimp only; omega))) (lt_dec rfl) ?_
            refine Ops_p (p_sub rfl rfl (by exact ⟨(by first | omega | (dsimp only; omega)), (by first | omega | (dsimp only; omega))⟩)) (lt_dec rfl) ?_
            refine Ops_q (q_load rfl rfl m1 rfl (by first | trivial | (first | omega | (dsimp only; omega)) | exact Fin.isLt _ | (dsimp only; omega))) (lt_dec rfl) ?_
            refine Ops_p (p_sub rfl rfl (by exact ⟨(by first | omega | (dsimp only; omega)), (by first | omega | (dsimp only; omega))⟩)) (lt_dec rfl) ?_
            refine Ops_p (p_mul rfl rfl (by exact ⟨(by first | omega | (dsimp only; omega)), (by first | omega | (dsimp only; omega))⟩)) (lt_dec rfl) ?_
            refine Ops_p ((p_build_arr rfl rfl rfl rfl (by simp only [mulS_eq]; (repeat' apply And.intro) <;> first | trivial | omega)).eq (veq_arr (g := qn a b) fun j hj => (by rcases j with _ | _ | j <;> first | rfl | omega))) (lt_dec rfl) ?_
            refine Ops_p (p_move rfl) (lt_dec rfl) ?_
            refine Ops_nil ?_
            refine W_block ?_
            refine W_loop (α := Nat) (fun i => ⟨[(0, .int .i64 p), (1, .int .i64 a), (2, .int .i64 b), (3, .ptr b3_1 0 none), (4, .ptr b4_1 0 none), (5, .ptr b5_1 0 none), (6, .ptr b6_1 0 none), (10, .int .i64 p), (13, .int .i64 p), (17, .int .i64 p), (21, .int .i64 a), (22, .int .i64 p), (23, .int .i64 (p - 1)), (28, .int .i64 b), (29, .int .i64 p), (30, .int .i64 (p - 1)), (35, .int .i64 a), (36, .int .i64 b), (37, .int .i64 (a * b)), (38, .int .i64 a), (39, .int .i64 (a - 1)), (40, .int .i64 b), (41, .int .i64 (b - 1)), (42, .int .i64 ((a - 1) * (b - 1))), (43, .arr .i64 2 (qn a b)), (44, .int .i64 (i : Int))], [.var b6_1 (.agg [.int .i64 0, .arr8 100 fun _ => 0]), .var b5_1 (.int .i64 b), .var b4_1 (.int .i64 a), .var b3_1 (.int .i64 p)]⟩) (fun i => i ≤ 2 ∧ ∀ j, j < i → okq p (qn a b j) = true) (fun i => 2 - i) 0 ?_ ?_ ?_
            · exact ⟨by omega, fun j h => by omega⟩
            · exact Wk.intro (.cons rfl (by first | rfl | exact veq_int (by first | omega | (dsimp only; omega))) (.cons rfl (by first | rfl | exact veq_int (by first | omega | (dsimp only; omega))) (.cons rfl (by first | rfl | exact veq_int (by first | omega | (dsimp only; omega))) (.cons rfl (by first | rfl | exact veq_int (by first | omega | (dsimp only; omega))) (.cons rfl (by first | rfl | exact veq_int (by first | omega | (dsimp only; omega))) (.cons rfl (by first | rfl | exact veq_int (by first | omega | (dsimp only; omega))) (.cons rfl (by first | rfl | exact veq_int (by first | omega | (dsimp only; omega))) (.cons rfl (by first | rfl | exact veq_int (by first | omega | (dsimp only; omega))) (.cons rfl (by first | rfl | exact veq_int (by first | omega | (dsimp only; omega))) (.cons rfl (by first | rfl | exact veq_int (by first | omega | (dsimp only; omega))) (.cons rfl (by first | rfl | exact veq_int (by first | omega | (dsimp only; omega))) (.cons rfl (by first | rfl | exact veq_int (by first | omega | (dsimp only; omega))) (.cons rfl (by first | rfl | exact veq_int (by first | omega | (dsimp only; omega))) (.cons rfl (by first | rfl | exact veq_int (by first | omega | (dsimp only; omega))) (.cons rfl (by first | rfl | exact veq_int (by first | omega | (dsimp only; omega))) (.cons rfl (by first | rfl | exact veq_int (by first | omega | (dsimp only; omega))) (.cons rfl (by first | rfl | exact veq_int (by first | omega | (dsimp only; omega))) (.cons rfl (by first | rfl | exact veq_int (by first | omega | (dsimp only; omega))) (.cons rfl (by first | rfl | exact veq_int (by first | omega | (dsimp only; omega))) (.cons rfl (by first | rfl | exact veq_int (by first | omega | (dsimp only; omega))) (.cons rfl (by first | rfl | exact veq_int (by first | omega | (dsimp only; omega))) (.cons rfl (by first | rfl | exact veq_int (by first | omega | (dsimp only; omega))) (.cons rfl (by first | rfl | exact veq_int (by first | omega | (dsimp only; omega))) (.cons rfl (by first | rfl | exact veq_int (by first | omega | (dsimp only; omega))) (.cons rfl (by first | rfl | exact veq_int (by first | omega | (dsimp only; omega))) (.cons rfl (by first | rfl | exact veq_int (by first | omega | (dsimp only; omega))) .nil)))))))))))))))))))))))))) (.keep rfl rfl (fun _ h => h) (.keep rfl rfl (fun _ h => h) (.keep rfl rfl (fun _ h => h) (.keep rfl rfl (fun _ h => h) .nil))))
            · rintro i ⟨hi, hI⟩
              refine W_seq ?_
              refine W_region ?_
              refine Ops_p (p_lss rfl rfl) (lt_dec rfl) ?_
              refine Ops_nil ?_
              refine W_seq ?_
              refine W_cond rfl (fun h2 => ?_) (fun h2 => ?_)
              · try simp only [bs] at h2
                refine W_skip ?_
                refine W_seq ?_
                refine W_block ?_
                refine W_seq ?_
                refine W_region ?_
                refine Ops_p (p_index _ rfl rfl rfl rfl rfl rfl (by first | (first | omega | (dsimp only; omega)) | exact Fin.isLt _) (Nat.le_refl _)) (lt_dec rfl) ?_
                refine Ops_p (p_assign rfl) (lt_dec rfl) ?_
                refine Ops_nil ?_
                refine W_seq ?_
                have hqn : -49 ≤ qn a b i ∧ qn a b i ≤ 49 := (by unfold qn; split <;> assumption)
                have htm := tmod_in (a := qn a b i) hp
                refine W_region ?_
                refine Ops_p (p_move rfl) (lt_dec rfl) ?_
                refine Ops_q (q_load rfl rfl m3 rfl (by first | trivial | (first | omega | (dsimp only; omega)) | exact Fin.isLt _ | (dsimp only; omega))) (lt_dec rfl) ?_
                refine Ops_p (p_rem_t rfl rfl (qP_ne hp)) (lt_dec rfl) ?_
                refine Ops_p (p_eql rfl rfl) (lt_dec rfl) ?_
                refine Ops_p (p_move rfl) (lt_dec rfl) ?_
                refine Ops_guard rfl rfl (lt_dec rfl) (fun hg5 => ?_) (fun hg5 => ?_)
                · try simp only [bs] at hg5
                  refine Ops_p (p_move rfl) (lt_dec rfl) ?_
                  refine Ops_guard_t rfl rfl (lt_dec rfl) ?_
                  refine Ops_q (q_load rfl rfl m3 rfl (by first | trivial | (first | omega | (dsimp only; omega)) | exact Fin.isLt _ | (dsimp only; omega))) (lt_dec rfl) ?_
                  refine Ops_guard_t rfl rfl (lt_dec rfl) ?_
                  refine Ops_q (q_call en_impl_isSquareOf rfl (w_impl_isSquareOf hp (by omega)) (View.none _)) (lt_dec rfl) ?_
                  refine Ops_guard_t rfl rfl (lt_dec rfl) ?_
                  refine Ops_p (p_not rfl) (lt_dec rfl) ?_
                  refine Ops_p (p_pick_f rfl rfl) (lt_dec rfl) ?_
                  refine Ops_nil ?_
                  refine W_cond rfl (fun h3 => ?_) (fun h3 => ?_)
                  · try simp only [bs] at h3
                    refine W_seq ?_
                    have h1 : qok p a b = false := qok_bad (i := i) (by omega) (by unfold okq; simp_all)
                    refine W_region ?_
                    refine Ops_p (p_build rfl rfl rfl rfl (by first | trivial | (first | omega | (dsimp only; omega)) | exact Fin.isLt _ | (dsimp only; omega))) (lt_dec rfl) ?_
                    refine Ops_x rfl (x_store rfl rfl rfl rfl rfl HpRep.head rfl (by first | trivial | (first | (first | omega | (dsimp only; omega)) | exact Fin.isLt _)) ?_)
                    refine Ops_p (p_assign rfl) (lt_dec rfl) ?_
                    refine Ops_nil ?_
                    refine W_ret ?_
                    refine Exists.intro _ (And.intro (.cons (.cell rfl rfl m0 rfl trivial) (.cons (.tmp rfl) .nil)) ?_)
                    first | rfl | (refine veq_bool ?_; simp_all; done) | (refine veq_bool ?_; simp; omega) | (refine veq_bool ?_; rw [eq_comm, decide_eq_false_iff_not]; omega) | (refine veq_bool ?_; rw [eq_comm, decide_eq_true_iff]; omega) | (refine veq_int ?_; omega) | (refine veq_arr8 fun j hj => ?_; (try dsimp only); first | (simp; done) | (simp; omega) | ((repeat' split) <;> first | rfl | (exfalso; omega) | (congr 1; omega) | (simp_all; done))) | (rw [h0]; rfl) | (rw [h0, h1]; rfl)
                  · try simp only [bs] at h3
                    refine W_skip ?_
                    refine W_region ?_
                    refine Ops_p (p_add rfl rfl (by exact ⟨(by first | omega | (dsimp only; omega)), (by first | omega | (dsimp only; omega))⟩)) (lt_dec rfl) ?_
                    refine Ops_p (p_move rfl) (lt_dec rfl) ?_
                    refine Ops_nil ?_
                    refine Exists.intro (i + 1) (And.intro ?_ (And.intro ?_ ?_))
                    · exact ⟨by omega, fun j h => if e : j = i then (by subst e; unfold okq; simp_all) else hI j (by omega)⟩
                    · show _ < _; omega
                    · exact Wk.intro (.cons rfl (by first | rfl | exact veq_int (by first | omega | (dsimp only; omega))) (.cons rfl (by first | rfl | exact veq_int (by first | omega | (dsimp only; omega))) (.cons rfl (by first | rfl | exact veq_int (by first | omega | (dsimp only; omega))) (.cons rfl (by first | rfl | exact veq_int (by first | omega | (dsimp only; omega))) (.cons rfl (by first | rfl | exact veq_int (by first | omega | (dsimp only; omega))) (.cons rfl (by first | rfl | exact veq_int (by first | omega | (dsimp only; omega))) (.cons rfl (by first | rfl | exact veq_int (by first | omega | (dsimp only; omega))) (.cons rfl (by first | rfl | exact veq_int (by first | omega | (dsimp only; omega))) (.cons rfl (by first | rfl | exact veq_int (by first | omega | (dsimp only; omega))) (.cons rfl (by first | rfl | exact veq_int (by first | omega | (dsimp only; omega))) (.cons rfl (by first | rfl | exact veq_int (by first | omega | (dsimp only; omega))) (.cons rfl (by first | rfl | exact veq_int (by first | omega | (dsimp only; omega))) (.cons rfl (by first | rfl | exact veq_int (by first | omega | (dsimp only; omega))) (.cons rfl (by first | rfl | exact veq_int (by first | omega | (dsimp only; omega))) (.cons rfl (by first | rfl | exact veq_int (by first | omega | (dsimp only; omega))) (.cons rfl (by first | rfl | exact veq_int (by first | omega | (dsimp only; omega))) (.cons rfl (by first | rfl | exact veq_int (by first | omega | (dsimp only; omega))) (.cons rfl (by first | rfl | exact veq_int (by first | omega | (dsimp only; omega))) (.cons rfl (by first | rfl | exact veq_int (by first | omega | (dsimp only; omega))) (.cons rfl (by first | rfl | exact veq_int (by first | omega | (dsimp only; omega))) (.cons rfl (by first | rfl | exact veq_int (by first | omega | (dsimp only; omega))) (.cons rfl (by first | rfl | exact veq_int (by first | omega | (dsimp only; omega))) (.cons rfl (by first | rfl | exact veq_int (by first | omega | (dsimp only; omega))) (.cons rfl (by first | rfl | exact veq_int (by first | omega | (dsimp only; omega))) (.cons rfl (by first | rfl | exact veq_int (by first | omega | (dsimp only; omega))) (.cons rfl (by first | rfl | exact veq_int (by first | omega | (dsimp only; omega))) .nil)))))))))))))))))))))))))) (.keep rfl rfl (fun _ h => h) (.keep rfl rfl (fun _ h => h) (.keep rfl rfl (fun _ h => h) (.keep rfl rfl (fun _ h => h) .nil))))
                · try simp only [bs] at hg5
                  refine Ops_guard_f rfl rfl rfl (lt_dec rfl) ?_
                  refine Ops_guard_f rfl rfl rfl (lt_dec rfl) ?_
                  refine Ops_guard_f rfl rfl rfl (lt_dec rfl) ?_
                  refine Ops_p (p_pick_t rfl rfl) (lt_dec rfl) ?_
                  refine Ops_nil ?_
                  refine W_true rfl ?_
                  refine W_seq ?_
                  have h1 : qok p a b = false := qok_bad (i := i) (by omega) (by unfold okq; simp_all)
                  refine W_region ?_
                  refine Ops_p (p_build rfl rfl rfl rfl (by first | trivial | (first | omega | (dsimp only; omega)) | exact Fin.isLt _ | (dsimp only; omega))) (lt_dec rfl) ?_
                  refine Ops_x rfl (x_store rfl rfl rfl rfl rfl HpRep.head rfl (by first | trivial | (first | (first | omega | (dsimp only; omega)) | exact Fin.isLt _)) ?_)
                  refine Ops_p (p_assign rfl) (lt_dec rfl) ?_
                  refine Ops_nil ?_
                  refine W_ret ?_
                  refine Exists.intro _ (And.intro (.cons (.cell rfl rfl m0 rfl trivial) (.cons (.tmp rfl) .nil)) ?_)
                  first | rfl | (refine veq_bool ?_; simp_all; done) | (refine veq_bool ?_; simp; omega) | (refine veq_bool ?_; rw [eq_comm, decide_eq_false_iff_not]; omega) | (refine veq_bool ?_; rw [eq_comm, decide_eq_true_iff]; omega) | (refine veq_int ?_; omega) | (refine veq_arr8 fun j hj => ?_; (try dsimp only); first | (simp; done) | (simp; omega) | ((repeat' split) <;> first | rfl | (exfalso; omega) | (congr 1; omega) | (simp_all; done))) | (rw [h0]; rfl) | (rw [h0, h1]; rfl)
              · try simp only [bs] at h2
                obtain rfl : i = 2 := (by omega)
                refine W_exit ?_
                refine W_seq ?_
                have h1 : qok p a b = true := qok_all hI
                refine W_region ?_
                refine Ops_q (q_load rfl rfl m3 rfl (by first | trivial | (first | omega | (dsimp only; omega)) | exact Fin.isLt _ | (dsimp only; omega))) (lt_dec rfl) ?_
                refine Ops_p (p_makeFunc rfl rfl) (lt_dec rfl) ?_
                refine Ops_q (q_call en_impl_made rfl (w_impl_made (need := [.rvar b5_1 (.int .i64 b), .rvar b3_1 (.int .i64 p), .rvar b4_1 (.int .i64 a)]) (g := qg p a b) (by omega) en_impl_QuadraticSquareX1 rfl (fun x y hx hy => w_impl_QuadraticSquareX1 (bb := b5_1) (bp := b3_1) (ba := b4_1) hp ha hb (by omega) (by omega))) (View.cons (View.var m1) (View.cons (View.var m3) (View.var m2) rfl rfl) rfl rfl)) (lt_dec rfl) ?_
                refine Ops_x rfl (x_store rfl rfl rfl rfl rfl HpRep.head rfl (by first | trivial | (first | (first | omega | (dsimp only; omega)) | exact Fin.isLt _)) ?_)
                refine Ops_p (p_assign rfl) (lt_dec rfl) ?_
                refine Ops_nil ?_
                refine W_ret ?_
                refine Exists.intro _ (And.intro (.cons (.cell rfl rfl m0 rfl trivial) (.cons (.tmp rfl) .nil)) ?_)
                first | rfl | (refine veq_bool ?_; simp_all; done) | (refine veq_bool ?_; simp; omega) | (refine veq_bool ?_; rw [eq_comm, decide_eq_false_iff_not]; omega) | (refine veq_bool ?_; rw [eq_comm, decide_eq_true_iff]; omega) | (refine veq_int ?_; omega) | (refine veq_arr8 fun j hj => ?_; (try dsimp only); first | (simp; done) | (simp; omega) | ((repeat' split) <;> first | rfl | (exfalso; omega) | (congr 1; omega) | (simp_all; done))) | (rw [h0]; rfl) | (rw [h0, h1]; rfl)
        · try simp only [bs] at hg4
          refine Ops_guard_f rfl rfl rfl (lt_dec rfl) ?_
          refine Ops_guard_f rfl rfl rfl (lt_dec rfl) ?_
          refine Ops_guard_f rfl rfl rfl (lt_dec rfl) ?_
          refine Ops_guard_f rfl rfl rfl (lt_dec rfl) ?_
          refine Ops_p (p_pick_t rfl rfl) (lt_dec rfl) ?_
          refine Ops_nil ?_
          refine W_true rfl ?_
          refine W_seq ?_
          have h0 : qin p a b = false := qin_f (by omega)
          refine W_region ?_
          refine Ops_p (p_build rfl rfl rfl rfl (by first | trivial | (first | omega | (dsimp only; omega)) | exact Fin.isLt _ | (dsimp only; omega))) (lt_dec rfl) ?_
          refine Ops_x rfl (x_store rfl rfl rfl rfl rfl HpRep.head rfl (by first | trivial | (first | (first | omega | (dsimp only; omega)) | exact Fin.isLt _)) ?_)
          refine Ops_p (p_assign rfl) (lt_dec rfl) ?_
          refine Ops_nil ?_
          refine W_ret ?_
          refine Exists.intro _ (And.intro (.cons (.cell rfl rfl m0 rfl trivial) (.cons (.tmp rfl) .nil)) ?_)
          first | rfl | (refine veq_bool ?_; simp_all; done) | (refine veq_bool ?_; simp; omega) | (refine veq_bool ?_; rw [eq_comm, decide_eq_false_iff_not]; omega) | (refine veq_bool ?_; rw [eq_comm, decide_eq_true_iff]; omega) | (refine veq_int ?_; omega) | (refine veq_arr8 fun j hj => ?_; (try dsimp only); first | (simp; done) | (simp; omega) | ((repeat' split) <;> first | rfl | (exfalso; omega) | (congr 1; omega) | (simp_all; done))) | (rw [h0]; rfl) | (rw [h0, h1]; rfl)
      · try simp only [bs] at hg3
        refine Ops_guard_f rfl rfl rfl (lt_dec rfl) ?_
        refine Ops_guard_f rfl rfl rfl (lt_dec rfl) ?_
        refine Ops_guard_f rfl rfl rfl (lt_dec rfl) ?_
        refine Ops_guard_f rfl rfl rfl (lt_dec rfl) ?_
        refine Ops_p (p_pick_t rfl rfl) (lt_dec rfl) ?_
        refine Ops_p (p_move rfl) (lt_dec rfl) ?_
        refine Ops_guard_f rfl rfl rfl (lt_dec rfl) ?_
        refine Ops_guard_f rfl rfl rfl (lt_dec rfl) ?_
        refine Ops_guard_f rfl rfl rfl (lt_dec rfl) ?_
        refine Ops_guard_f rfl rfl rfl (lt_dec rfl) ?_
        refine Ops_guard_f rfl rfl rfl (lt_dec rfl) ?_
        refine Ops_p (p_pick_t rfl rfl) (lt_dec rfl) ?_
        refine Ops_nil ?_
        refine W_true rfl ?_
        refine W_seq ?_
        have h0 : qin p a b = false := qin_f (by omega)
        refine W_region ?_
        refine Ops_p (p_build rfl rfl rfl rfl (by first | trivial | (first | omega | (dsimp only; omega)) | exact Fin.isLt _ | (dsimp only; omega))) (lt_dec rfl) ?_
        refine Ops_x rfl (x_store rfl rfl rfl rfl rfl HpRep.head rfl (by first | trivial | (first | (first | omega | (dsimp only; omega)) | exact Fin.isLt _)) ?_)
        refine Ops_p (p_assign rfl) (lt_dec rfl) ?_
        refine Ops_nil ?_
        refine W_ret ?_
        refine Exists.intro _ (And.intro (.cons (.cell rfl rfl m0 rfl trivial) (.cons (.tmp rfl) .nil)) ?_)
        first | rfl | (refine veq_bool ?_; simp_all; done) | (refine veq_bool ?_; simp; omega) | (refine veq_bool ?_; rw [eq_comm, decide_eq_false_iff_not]; omega) | (refine veq_bool ?_; rw [eq_comm, decide_eq_true_iff]; omega) | (refine veq_int ?_; omega) | (refine veq_arr8 fun j hj => ?_; (try dsimp only); first | (simp; done) | (simp; omega) | ((repeat' split) <;> first | rfl | (exfalso; omega) | (congr 1; omega) | (simp_all; done))) | (rw [h0]; rfl) | (rw [h0, h1]; rfl)
    · try simp only [bs] at hg2
      refine Ops_guard_f rfl rfl rfl (lt_dec rfl) ?_
      refine Ops_p (p_pick_f rfl rfl) (lt_dec rfl) ?_
      refine Ops_p (p_move rfl) (lt_dec rfl) ?_
      refine Ops_guard_t rfl rfl (lt_dec rfl) ?_
      refine Ops_q (q_load rfl rfl m2 rfl (by first | trivial | (first | omega | (dsimp only; omega)) | exact Fin.isLt _ | (dsimp only; omega))) (lt_dec rfl) ?_
      refine Ops_guard_t rfl rfl (lt_dec rfl) ?_
      refine Ops_q (q_load rfl rfl m3 rfl (by first | trivial | (first | omega | (dsimp only; omega)) | exact Fin.isLt _ | (dsimp only; omega))) (lt_dec rfl) ?_
      refine Ops_guard_t rfl rfl (lt_dec rfl) ?_
      refine Ops_p (p_sub rfl rfl (by exact ⟨(by first | omega | (dsimp only; omega)), (by first | omega | (dsimp only; omega))⟩)) (lt_dec rfl) ?_
      refine Ops_guard_t rfl rfl (lt_dec rfl) ?_
      refine Ops_q (q_call en_impl_within rfl (w_impl_within) (View.none _)) (lt_dec rfl) ?_
      refine Ops_guard_t rfl rfl (lt_dec rfl) ?_
      refine Ops_p (p_not rfl) (lt_dec rfl) ?_
      refine Ops_p (p_pick_f rfl rfl) (lt_dec rfl) ?_
      refine Ops_p (p_move rfl) (lt_dec rfl) ?_
      refine Ops_guard rfl rfl (lt_dec rfl) (fun hg6 => ?_) (fun hg6 => ?_)
      · try simp only [bs] at hg6
        refine Ops_q (q_load rfl rfl m1 rfl (by first | trivial | (first | omega | (dsimp only; omega)) | exact Fin.isLt _ | (dsimp only; omega))) (lt_dec rfl) ?_
        refine Ops_guard_t rfl rfl (lt_dec rfl) ?_
        refine Ops_q (q_load rfl rfl m3 rfl (by first | trivial | (first | omega | (dsimp only; omega)) | exact Fin.isLt _ | (dsimp only; omega))) (lt_dec rfl) ?_
        refine Ops_guard_t rfl rfl (lt_dec rfl) ?_
        refine Ops_p (p_sub rfl rfl (by exact ⟨(by first | omega | (dsimp only; omega)), (by first | omega | (dsimp only; omega))⟩)) (lt_dec rfl) ?_
        refine Ops_guard_t rfl rfl (lt_dec rfl) ?_
        refine Ops_q (q_call en_impl_within rfl (w_impl_within) (View.none _)) (lt_dec rfl) ?_
        refine Ops_guard_t rfl rfl (lt_dec rfl) ?_
        refine Ops_p (p_not rfl) (lt_dec rfl) ?_
        refine Ops_p (p_pick_f rfl rfl) (lt_dec rfl) ?_
        refine Ops_nil ?_
        refine W_cond rfl (fun h4 => ?_) (fun h4 => ?_)
        · try simp only [bs] at h4
          refine W_seq ?_
          have h0 : qin p a b = false := qin_f (by omega)
          refine W_region ?_
          refine Ops_p (p_build rfl rfl rfl rfl (by first | trivial | (first | omega | (dsimp only; omega)) | exact Fin.isLt _ | (dsimp only; omega))) (lt_dec rfl) ?_
          refine Ops_x rfl (x_store rfl rfl rfl rfl rfl HpRep.head rfl (by first | trivial | (first | (first | omega | (dsimp only; omega)) | exact Fin.isLt _)) ?_)
          refine Ops_p (p_assign rfl) (lt_dec rfl) ?_
          refine Ops_nil ?_
          refine W_ret ?_
          refine Exists.intro _ (And.intro (.cons (.cell rfl rfl m0 rfl trivial) (.cons (.tmp rfl) .nil)) ?_)
          first | rfl | (refine veq_bool ?_; simp_all; done) | (refine veq_bool ?_; simp; omega) | (refine veq_bool ?_; rw [eq_comm, decide_eq_false_iff_not]; omega) | (refine veq_bool ?_; rw [eq_comm, decide_eq_true_iff]; omega) | (refine veq_int ?_; omega) | (refine veq_arr8 fun j hj => ?_; (try dsimp only); first | (simp; done) | (simp; omega) | ((repeat' split) <;> first | rfl | (exfalso; omega) | (congr 1; omega) | (simp_all; done))) | (rw [h0]; rfl) | (rw [h0, h1]; rfl)
        · try simp only [bs] at h4
          refine W_skip ?_
          refine W_seq ?_
          refine W_seq ?_
          have hp : qP p := (by unfold qP; omega)
          have ha : 0 ≤ a ∧ a ≤ p - 1 := (by first | assumption | omega)
          have hb : 0 ≤ b ∧ b ≤ p - 1 := (by first | assumption | omega)
          have hpb := qP_b hp
          have h0 : qin p a b = true := qin_t hp ha hb
          have hm1 := mulb (a := a) (b := b) hp (by omega) (by omega)
          have hm2 := mulb (a := a - 1) (b := b - 1) hp (by omega) (by omega)
          refine W_region ?_
          refine Ops_q (q_load rfl rfl m2 rfl (by first | trivial | (first | omega | (dsimp only; omega)) | exact Fin.isLt _ | (dsimp only; omega))) (lt_dec rfl) ?_
          refine Ops_q (q_load rfl rfl m1 rfl (by first | trivial | (first | omega | (dsimp only; omega)) | exact Fin.isLt _ | (dsimp only; omega))) (lt_dec rfl) ?_
          refine Ops_p (p_mul rfl rfl (by exact ⟨(by first | omega | (dsimp only; omega)), (by first | omega | (dsimp only; omega))⟩)) (lt_dec rfl) ?_
          refine Ops_q (q_load rfl rfl m2 rfl (by first | trivial | (first | omega | (dsimp only; omega)) | exact Fin.isLt _ | (dsimp only; omega))) (lt_dec rfl) ?_
          refine Ops_p (p_sub rfl rfl (by exact ⟨(by first | omega | (dsimp only; omega)), (by first | omega | (dsimp only; omega))⟩)) (lt_dec rfl) ?_
          refine Ops_q (q_load rfl rfl m1 rfl (by first | trivial | (first | omega | (dsimp only; omega)) | exact Fin.isLt _ | (dsimp only; omega))) (lt_dec rfl) ?_
          refine Ops_p (p_sub rfl rfl (by exact ⟨(by first | omega | (dsimp only; omega)), (by first | omega | (dsimp only; omega))⟩)) (lt_dec rfl) ?_
          refine Ops_p (p_mul rfl rfl (by exact ⟨(by first | omega | (dsimp only; omega)), (by first | omega | (dsimp only; omega))⟩)) (lt_dec rfl) ?_
          refine Ops_p ((p_build_arr rfl rfl rfl rfl (by simp only [mulS_eq]; (repeat' apply And.intro) <;> first | trivial | omega)).eq (veq_arr (g := qn a b) fun j hj => (by rcases j with _ | _ | j <;> first | rfl | omega))) (lt_dec rfl) ?_
          refine Ops_p (p_move rfl) (lt_dec rfl) ?_
          refine Ops_nil ?_
          refine W_block ?_
          refine W_loop (α := Nat) (fun i => ⟨[(0, .int .i64 p), (1, .int .i64 a), (2, .int .i64 b), (3, .ptr b3_1 0 none), (4, .ptr b4_1 0 none), (5, .ptr b5_1 0 none), (6, .ptr b6_1 0 none), (10, .int .i64 p), (13, .int .i64 p), (21, .int .i64 a), (22, .int .i64 p), (23, .int .i64 (p - 1)), (28, .int .i64 b), (29, .int .i64 p), (30, .int .i64 (p - 1)), (35, .int .i64 a), (36, .int .i64 b), (37, .int .i64 (a * b)), (38, .int .i64 a), (39, .int .i64 (a - 1)), (40, .int .i64 b), (41, .int .i64 (b - 1)), (42, .int .i64 ((a - 1) * (b - 1))), (43, .arr .i64 2 (qn a b)), (44, .int .i64 (i : Int))], [.var b6_1 (.agg [.int .i64 0, .arr8 100 fun _ => 0]), .var b5_1 (.int .i64 b), .var b4_1 (.int .i64 a), .var b3_1 (.int .i64 p)]⟩) (fun i => i ≤ 2 ∧ ∀ j, j < i → okq p (qn a b j) = true) (fun i => 2 - i) 0 ?_ ?_ ?_
          · exact ⟨by omega, fun j h => by omega⟩
          · exact Wk.intro (.cons rfl (by first | rfl | exact veq_int (by first | omega | (dsimp only; omega))) (.cons rfl (by first | rfl | exact veq_int (by first | omega | (dsimp only; omega))) (.cons rfl (by first | rfl | exact veq_int (by first | omega | (dsimp only; omega))) (.cons rfl (by first | rfl | exact veq_int (by first | omega | (dsimp only; omega))) (.cons rfl (by first | rfl | exact veq_int (by first | omega | (dsimp only; omega))) (.cons rfl (by first | rfl | exact veq_int (by first | omega | (dsimp only; omega))) (.cons rfl (by first | rfl | exact veq_int (by first | omega | (dsimp only; omega))) (.cons rfl (by first | rfl | exact veq_int (by first | omega | (dsimp only; omega))) (.cons rfl (by first | rfl | exact veq_int (by first | omega | (dsimp only; omega))) (.cons rfl (by first | rfl | exact veq_int (by first | omega | (dsimp only; omega))) (.cons rfl (by first | rfl | exact veq_int (by first | omega | (dsimp only; omega))) (.cons rfl (by first | rfl | exact veq_int (by first | omega | (dsimp only; omega))) (.cons rfl (by first | rfl | exact veq_int (by first | omega | (dsimp only; omega))) (.cons rfl (by first | rfl | exact veq_int (by first | omega | (dsimp only; omega))) (.cons rfl (by first | rfl | exact veq_int (by first | omega | (dsimp only; omega))) (.cons rfl (by first | rfl | exact veq_int (by first | omega | (dsimp only; omega))) (.cons rfl (by first | rfl | exact veq_int (by first | omega | (dsimp only; omega))) (.cons rfl (by first | rfl | exact veq_int (by first | omega | (dsimp only; omega))) (.cons rfl (by first | rfl | exact veq_int (by first | omega | (dsimp only; omega))) (.cons rfl (by first | rfl | exact veq_int (by first | omega | (dsimp only; omega))) (.cons rfl (by first | rfl | exact veq_int (by first | omega | (dsimp only; omega))) (.cons rfl (by first | rfl | exact veq_int (by first | omega | (dsimp only; omega))) (.cons rfl (by first | rfl | exact veq_int (by first | omega | (dsimp only; omega))) (.cons rfl (by first | rfl | exact veq_int (by first | omega | (dsimp only; omega))) (.cons rfl (by first | rfl | exact veq_int (by first | omega | (dsimp only; omega))) .nil))))))))))))))))))))))))) (.keep rfl rfl (fun _ h => h) (.keep rfl rfl (fun _ h => h) (.keep rfl rfl (fun _ h => h) (.keep rfl rfl (fun _ h => h) .nil))))
          · rintro i ⟨hi, hI⟩
            refine W_seq ?_
            refine W_region ?_
            refine Ops_p (p_lss rfl rfl) (lt_dec rfl) ?_
            refine Ops_nil ?_
            refine W_seq ?_
            refine W_cond rfl (fun h5 => ?_) (fun h5 => ?_)
            · try simp only [bs] at h5
              refine W_skip ?_
              refine W_seq ?_
              refine W_block ?_
              refine W_seq ?_
              refine W_region ?_
              refine Ops_p (p_index _ rfl rfl rfl rfl rfl rfl (by first | (first | omega | (dsimp only; omega)) | exact Fin.isLt _) (Nat.le_refl _)) (lt_dec rfl) ?_
              refine Ops_p (p_assign rfl) (lt_dec rfl) ?_
              refine Ops_nil ?_
              refine W_seq ?_
              have hqn : -49 ≤ qn a b i ∧ qn a b i ≤ 49 := (by unfold qn; split <;> assumption)
              have htm := tmod_in (a := qn a b i) hp
              refine W_region ?_
              refine Ops_p (p_move rfl) (lt_dec rfl) ?_
              refine Ops_q (q_load rfl rfl m3 rfl (by first | trivial | (first | omega | (dsimp only; omega)) | exact Fin.isLt _ | (dsimp only; omega))) (lt_dec rfl) ?_
              refine Ops_p (p_rem_t rfl rfl (qP_ne hp)) (lt_dec rfl) ?_
              refine Ops_p (p_eql rfl rfl) (lt_dec rfl) ?_
              refine Ops_p (p_move rfl) (lt_dec rfl) ?_
              refine Ops_guard rfl rfl (lt_dec rfl) (fun hg7 => ?_) (fun hg7 => ?_)
              · try simp only [bs] at hg7
                refine Ops_p (p_move rfl) (lt_dec rfl) ?_
                refine Ops_guard_t rfl rfl (lt_dec rfl) ?_
                refine Ops_q (q_load rfl rfl m3 rfl (by first | trivial | (first | omega | (dsimp only; omega)) | exact Fin.isLt _ | (dsimp only; omega))) (lt_dec rfl) ?_
                refine Ops_guard_t rfl rfl (lt_dec rfl) ?_
                refine Ops_q (q_call en_impl_isSquareOf rfl (w_impl_isSquareOf hp (by omega)) (View.none _)) (lt_dec rfl) ?_
                refine Ops_guard_t rfl rfl (lt_dec rfl) ?_
                refine Ops_p (p_not rfl) (lt_dec rfl) ?_
                refine Ops_p (p_pick_f rfl rfl) (lt_dec rfl) ?_
                refine Ops_nil ?_
                refine W_cond rfl (fun h6 => ?_) (fun h6 => ?_)
                · try simp only [bs] at h6
                  refine W_seq ?_
                  have h1 : qok p a b = false := qok_bad (i := i) (by omega) (by unfold okq; simp_all)
                  refine W_region ?_
                  refine Ops_p (p_build rfl rfl rfl rfl (by first | trivial | (first | omega | (dsimp only; omega)) | exact Fin.isLt _ | (dsimp only; omega))) (lt_dec rfl) ?_
                  refine Ops_x rfl (x_store rfl rfl rfl rfl rfl HpRep.head rfl (by first | trivial | (first | (first | omega | (dsimp only; omega)) | exact Fin.isLt _)) ?_)
                  refine Ops_p (p_assign rfl) (lt_dec rfl) ?_
                  refine Ops_nil ?_
                  refine W_ret ?_
                  refine Exists.intro _ (And.intro (.cons (.cell rfl rfl m0 rfl trivial) (.cons (.tmp rfl) .nil)) ?_)
                  first | rfl | (refine veq_bool ?_; simp_all; done) | (refine veq_bool ?_; simp; omega) | (refine veq_bool ?_; rw [eq_comm, decide_eq_false_iff_not]; omega) | (refine veq_bool ?_; rw [eq_comm, decide_eq_true_iff]; omega) | (refine veq_int ?_; omega) | (refine veq_arr8 fun j hj => ?_; (try dsimp only); first | (simp; done) | (simp; omega) | ((repeat' split) <;> first | rfl | (exfalso; omega) | (congr 1; omega) | (simp_all; done))) | (rw [h0]; rfl) | (rw [h0, h1]; rfl)
                · try simp only [bs] at h6
                  refine W_skip ?_
                  refine W_region ?_
                  refine Ops_p (p_add rfl rfl (by exact ⟨(by first | omega | (dsimp only; omega)), (by first | omega | (dsimp only; omega))⟩)) (lt_dec rfl) ?_
                  refine Ops_p (p_move rfl) (lt_dec rfl) ?_
                  refine Ops_nil ?_
                  refine Exists.intro (i + 1) (And.intro ?_ (And.intro ?_ ?_))
                  · exact ⟨by omega, fun j h => if e : j = i then (by subst e; unfold okq; simp_all) else hI j (by omega)⟩
                  · show _ < _; omega
                  · exact Wk.intro (.cons rfl (by first | rfl | exact veq_int (by first | omega | (dsimp only; omega))) (.cons rfl (by first | rfl | exact veq_int (by first | omega | (dsimp only; omega))) (.cons rfl (by first | rfl | exact veq_int (by first | omega | (dsimp only; omega))) (.cons rfl (by first | rfl | exact veq_int (by first | omega | (dsimp only; omega))) (.cons rfl (by first | rfl | exact veq_int (by first | omega | (dsimp only; omega))) (.cons rfl (by first | rfl | exact veq_int (by first | omega | (dsimp only; omega))) (.cons rfl (by first | rfl | exact veq_int (by first | omega | (dsimp only; omega))) (.cons rfl (by first | rfl | exact veq_int (by first | omega | (dsimp only; omega))) (.cons rfl (by first | rfl | exact veq_int (by first | omega | (dsimp only; omega))) (.cons rfl (by first | rfl | exact veq_int (by first | omega | (dsimp only; omega))) (.cons rfl (by first | rfl | exact veq_int (by first | omega | (dsimp only; omega))) (.cons rfl (by first | rfl | exact veq_int (by first | omega | (dsimp only; omega))) (.cons rfl (by first | rfl | exact veq_int (by first | omega | (dsimp only; omega))) (.cons rfl (by first | rfl | exact veq_int (by first | omega | (dsimp only; omega))) (.cons rfl (by first | rfl | exact veq_int (by first | omega | (dsimp only; omega))) (.cons rfl (by first | rfl | exact veq_int (by first | omega | (dsimp only; omega))) (.cons rfl (by first | rfl | exact veq_int (by first | omega | (dsimp only; omega))) (.cons rfl (by first | rfl | exact veq_int (by first | omega | (dsimp only; omega))) (.cons rfl (by first | rfl | exact veq_int (by first | omega | (dsimp only; omega))) (.cons rfl (by first | rfl | exact veq_int (by first | omega | (dsimp only; omega))) (.cons rfl (by first | rfl | exact veq_int (by first | omega | (dsimp only; omega))) (.cons rfl (by first | rfl | exact veq_int (by first | omega | (dsimp only; omega))) (.cons rfl (by first | rfl | exact veq_int (by first | omega | (dsimp only; omega))) (.cons rfl (by first | rfl | exact veq_int (by first | omega | (dsimp only; omega))) (.cons rfl (by first | rfl | exact veq_int (by first | omega | (dsimp only; omega))) .nil))))))))))))))))))))))))) (.keep rfl rfl (fun _ h => h) (.keep rfl rfl (fun _ h => h) (.keep rfl rfl (fun _ h => h) (.keep rfl rfl (fun _ h => h) .nil))))
              · try simp only [bs] at hg7
                refine Ops_guard_f rfl rfl rfl (lt_dec rfl) ?_
                refine Ops_guard_f rfl rfl rfl (lt_dec rfl) ?_
                refine Ops_guard_f rfl rfl rfl (lt_dec rfl) ?_
                refine Ops_p (p_pick_t rfl rfl) (lt_dec rfl) ?_
                refine Ops_nil ?_
                refine W_true rfl ?_
                refine W_seq ?_
                have h1 : qok p a b = false := qok_bad (i := i) (by omega) (by unfold okq; simp_all)
                refine W_region ?_
                refine Ops_p (p_build rfl rfl rfl rfl (by first | trivial | (first | omega | (dsimp only; omega)) | exact Fin.isLt _ | (dsimp only; omega))) (lt_dec rfl) ?_
                refine Ops_x rfl (x_store rfl rfl rfl rfl rfl HpRep.head rfl (by first | trivial | (first | (first | omega | (dsimp only; omega)) | exact Fin.isLt _)) ?_)
                refine Ops_p (p_assign rfl) (lt_dec rfl) ?_
                refine Ops_nil ?_
                refine W_ret ?_
                refine Exists.intro _ (And.intro (.cons (.cell rfl rfl m0 rfl trivial) (.cons (.tmp rfl) .nil)) ?_)
                first | rfl | (refine veq_bool ?_; simp_all; done) | (refine veq_bool ?_; simp; omega) | (refine veq_bool ?_; rw [eq_comm, decide_eq_false_iff_not]; omega) | (refine veq_bool ?_; rw [eq_comm, decide_eq_true_iff]; omega) | (refine veq_int ?_; omega) | (refine veq_arr8 fun j hj => ?_; (try dsimp only); first | (simp; done) | (simp; omega) | ((repeat' split) <;> first | rfl | (exfalso; omega) | (congr 1; omega) | (simp_all; done))) | (rw [h0]; rfl) | (rw [h0, h1]; rfl)
            · try simp only [bs] at h5
              obtain rfl : i = 2 := (by omega)
              refine W_exit ?_
              refine W_seq ?_
              have h1 : qok p a b = true := qok_all hI
              refine W_region ?_
              refine Ops_q (q_load rfl rfl m3 rfl (by first | trivial | (first | omega | (dsimp only; omega)) | exact Fin.isLt _ | (dsimp only; omega))) (lt_dec rfl) ?_
              refine Ops_p (p_makeFunc rfl rfl) (lt_dec rfl) ?_
              refine Ops_q (q_call en_impl_made rfl (w_impl_made (need := [.rvar b5_1 (.int .i64 b), .rvar b3_1 (.int .i64 p), .rvar b4_1 (.int .i64 a)]) (g := qg p a b) (by omega) en_impl_QuadraticSquareX1 rfl (fun x y hx hy => w_impl_QuadraticSquareX1 (bb := b5_1) (bp := b3_1) (ba := b4_1) hp ha hb (by omega) (by omega))) (View.cons (View.var m1) (View.cons (View.var m3) (View.var m2) rfl rfl) rfl rfl)) (lt_dec rfl) ?_
              refine Ops_x rfl (x_store rfl rfl rfl rfl rfl HpRep.head rfl (by first | trivial | (first | (first | omega | (dsimp only; omega)) | exact Fin.isLt _)) ?_)
              refine Ops_p (p_assign rfl) (lt_dec rfl) ?_
              refine Ops_nil ?_
              refine W_ret ?_
              refine Exists.intro _ (And.intro (.cons (.cell rfl rfl m0 rfl trivial) (.cons (.tmp rfl) .nil)) ?_)
              first | rfl | (refine veq_bool ?_; simp_all; done) | (refine veq_bool ?_; simp; omega) | (refine veq_bool ?_; rw [eq_comm, decide_eq_false_iff_not]; omega) | (refine veq_bool ?_; rw [eq_comm, decide_eq_true_iff]; omega) | (refine veq_int ?_; omega) | (refine veq_arr8 fun j hj => ?_; (try dsimp only); first | (simp; done) | (simp; omega) | ((repeat' split) <;> first | rfl | (exfalso; omega) | (congr 1; omega) | (simp_all; done))) | (rw [h0]; rfl) | (rw [h0, h1]; rfl)
      · try simp only [bs] at hg6
        refine Ops_guard_f rfl rfl rfl (lt_dec rfl) ?_
        refine Ops_guard_f rfl rfl rfl (lt_dec rfl) ?_
        refine Ops_guard_f rfl rfl rfl (lt_dec rfl) ?_
        refine Ops_guard_f rfl rfl rfl (lt_dec rfl) ?_
        refine Ops_p (p_pick_t rfl rfl) (lt_dec rfl) ?_
        refine Ops_nil ?_
        refine W_true rfl ?_
        refine W_seq ?_
        have h0 : qin p a b = false := qin_f (by omega)
        refine W_region ?_
        refine Ops_p (p_build rfl rfl rfl rfl (by first | trivial | (first | omega | (dsimp only; omega)) | exact Fin.isLt _ | (dsimp only; omega))) (lt_dec rfl) ?_
        refine Ops_x rfl (x_store rfl rfl rfl rfl rfl HpRep.head rfl (by first | trivial | (first | (first | omega | (dsimp only; omega)) | exact Fin.isLt _)) ?_)
        refine Ops_p (p_assign rfl) (lt_dec rfl) ?_
        refine Ops_nil ?_
        refine W_ret ?_
        refine Exists.intro _ (And.intro (.cons (.cell rfl rfl m0 rfl trivial) (.cons (.tmp rfl) .nil)) ?_)
        first | rfl | (refine veq_bool ?_; simp_all; done) | (refine veq_bool ?_; simp; omega) | (refine veq_bool ?_; rw [eq_comm, decide_eq_false_iff_not]; omega) | (refine veq_bool ?_; rw [eq_comm, decide_eq_true_iff]; omega) | (refine veq_int ?_; omega) | (refine veq_arr8 fun j hj => ?_; (try dsimp only); first | (simp; done) | (simp; omega) | ((repeat' split) <;> first | rfl | (exfalso; omega) | (congr 1; omega) | (simp_all; done))) | (rw [h0]; rfl) | (rw [h0, h1]; rfl)
  · try simp only [bs] at hg1
    refine Ops_guard_f rfl rfl rfl (lt_dec rfl) ?_
    refine Ops_p (p_pick_f rfl rfl) (lt_dec rfl) ?_
    refine Ops_p (p_move rfl) (lt_dec rfl) ?_
    refine Ops_guard_f rfl rfl rfl (lt_dec rfl) ?_
    refine Ops_guard_f rfl rfl rfl (lt_dec rfl) ?_
    refine Ops_p (p_pick_f rfl rfl) (lt_dec rfl) ?_
    refine Ops_p (p_move rfl) (lt_dec rfl) ?_
    refine Ops_guard_t rfl rfl (lt_dec rfl) ?_
    refine Ops_q (q_load rfl rfl m2 rfl (by first | trivial | (first | omega | (dsimp only; omega)) | exact Fin.isLt _ | (dsimp only; omega))) (lt_dec rfl) ?_
    refine Ops_guard_t rfl rfl (lt_dec rfl) ?_
    refine Ops_q (q_load rfl rfl m3 rfl (by first | trivial | (first | omega | (dsimp only; omega)) | exact Fin.isLt _ | (dsimp only; omega))) (lt_dec rfl) ?_
    refine Ops_guard_t rfl rfl (lt_dec rfl) ?_
    refine Ops_p (p_sub rfl rfl (by exact ⟨(by first | omega | (dsimp only; omega)), (by first | omega | (dsimp only; omega))⟩)) (lt_dec rfl) ?_
    refine Ops_guard_t rfl rfl (lt_dec rfl) ?_
    refine Ops_q (q_call en_impl_within rfl (w_impl_within) (View.none _)) (lt_dec rfl) ?_
    refine Ops_guard_t rfl rfl (lt_dec rfl) ?_
    refine Ops_p (p_not rfl) (lt_dec rfl) ?_
    refine Ops_p (p_pick_f rfl rfl) (lt_dec rfl) ?_
    refine Ops_p (p_move rfl) (lt_dec rfl) ?_
    refine Ops_guard rfl rfl (lt_dec rfl) (fun hg8 => ?_) (fun hg8 => ?_)
    · try simp only [bs] at hg8
      refine Ops_q (q_load rfl rfl m1 rfl (by first | trivial | (first | omega | (dsimp only; omega)) | exact Fin.isLt _ | (dsimp only; omega))) (lt_dec rfl) ?_
      refine Ops_guard_t rfl rfl (lt_dec rfl) ?_
      refine Ops_q (q_load rfl rfl m3 rfl (by first | trivial | (first | omega | (dsimp only; omega)) | exact Fin.isLt _ | (dsimp only; omega))) (lt_dec rfl) ?_
      refine Ops_guard_t rfl rfl (lt_dec rfl) ?_
      refine Ops_p (p_sub rfl rfl (by exact ⟨(by first | omega | (dsimp only; omega)), (by first | omega | (dsimp only; omega))⟩)) (lt_dec rfl) ?_
      refine Ops_guard_t rfl rfl (lt_dec rfl) ?_
      refine Ops_q (q_call en_impl_within rfl (w_impl_within) (View.none _)) (lt_dec rfl) ?_
      refine Ops_guard_t rfl rfl (lt_dec rfl) ?_
      refine Ops_p (p_not rfl) (lt_dec rfl) ?_
      refine Ops_p (p_pick_f rfl rfl) (lt_dec rfl) ?_
      refine Ops_nil ?_
      refine W_cond rfl (fun h7 => ?_) (fun h7 => ?_)
      · try simp only [bs] at h7
        refine W_seq ?_
        have h0 : qin p a b = false := qin_f (by omega)
        refine W_region ?_
        refine Ops_p (p_build rfl rfl rfl rfl (by first | trivial | (first | omega | (dsimp only; omega)) | exact Fin.isLt _ | (dsimp only; omega))) (lt_dec rfl) ?_
        refine Ops_x rfl (x_store rfl rfl rfl rfl rfl HpRep.head rfl (by first | trivial | (first | (first | omega | (dsimp only; omega)) | exact Fin.isLt _)) ?_)
        refine Ops_p (p_assign rfl) (lt_dec rfl) ?_
        refine Ops_nil ?_
        refine W_ret ?_
        refine Exists.intro _ (And.intro (.cons (.cell rfl rfl m0 rfl trivial) (.cons (.tmp rfl) .nil)) ?_)
        first | rfl | (refine veq_bool ?_; simp_all; done) | (refine veq_bool ?_; simp; omega) | (refine veq_bool ?_; rw [eq_comm, decide_eq_false_iff_not]; omega) | (refine veq_bool ?_; rw [eq_comm, decide_eq_true_iff]; omega) | (refine veq_int ?_; omega) | (refine veq_arr8 fun j hj => ?_; (try dsimp only); first | (simp; done) | (simp; omega) | ((repeat' split) <;> first | rfl | (exfalso; omega) | (congr 1; omega) | (simp_all; done))) | (rw [h0]; rfl) | (rw [h0, h1]; rfl)
      · try simp only [bs] at h7
        refine W_skip ?_
        refine W_seq ?_
        refine W_seq ?_
        have hp : qP p := (by unfold qP; omega)
        have ha : 0 ≤ a ∧ a ≤ p - 1 := (by first | assumption | omega)
        have hb : 0 ≤ b ∧ b ≤ p - 1 := (by first | assumption | omega)
        have hpb := qP_b hp
        have h0 : qin p a b = true := qin_t hp ha hb
        have hm1 := mulb (a := a) (b := b) hp (by omega) (by omega)
        have hm2 := mulb (a := a - 1) (b := b - 1) hp (by omega) (by omega)
        refine W_region ?_
        refine Ops_q (q_load rfl rfl m2 rfl (by first | trivial | (first | omega | (dsimp only; omega)) | exact Fin.isLt _ | (dsimp only; omega))) (lt_dec rfl) ?_
        refine Ops_q (q_load rfl rfl m1 rfl (by first | trivial | (first | omega | (dsimp only; omega)) | exact Fin.isLt _ | (dsimp only; omega))) (lt_dec rfl) ?_
        refine Ops_p (p_mul rfl rfl (by exact ⟨(by first | omega | (dsimp only; omega)), (by first | omega | (dsimp only; omega))⟩)) (lt_dec rfl) ?_
        refine Ops_q (q_load rfl rfl m2 rfl (by first | trivial | (first | omega | (dsimp only; omega)) | exact Fin.isLt _ | (dsimp only; omega))) (lt_dec rfl) ?_
        refine Ops_p (p_sub rfl rfl (by exact ⟨(by first | omega | (dsimp only; omega)), (by first | omega | (dsimp only; omega))⟩)) (lt_dec rfl) ?_
        refine Ops_q (q_load rfl rfl m1 rfl (by first | trivial | (first | omega | (dsimp only; omega)) | exact Fin.isLt _ | (dsimp only; omega))) (lt_dec rfl) ?_
        refine Ops_p (p_sub rfl rfl (by exact ⟨(by first | omega | (dsimp only; omega)), (by first | omega | (dsimp only; omega))⟩)) (lt_dec rfl) ?_
        refine Ops_p (p_mul rfl rfl (by exact ⟨(by first | omega | (dsimp only; omega)), (by first | omega | (dsimp only; omega))⟩)) (lt_dec rfl) ?_
        refine Ops_p ((p_build_arr rfl rfl rfl rfl (by simp only [mulS_eq]; (repeat' apply And.intro) <;> first | trivial | omega)).eq (veq_arr (g := qn a b) fun j hj => (by rcases j with _ | _ | j <;> first | rfl | omega))) (lt_dec rfl) ?_
        refine Ops_p (p_move rfl) (lt_dec rfl) ?_
        refine Ops_nil ?_
        refine W_block ?_
        refine W_loop (α := Nat) (fun i => ⟨[(0, .int .i64 p), (1, .int .i64 a), (2, .int .i64 b), (3, .ptr b3_1 0 none), (4, .ptr b4_1 0 none), (5, .ptr b5_1 0 none), (6, .ptr b6_1 0 none), (10, .int .i64 p), (21, .int .i64 a), (22, .int .i64 p), (23, .int .i64 (p - 1)), (28, .int .i64 b), (29, .int .i64 p), (30, .int .i64 (p - 1)), (35, .int .i64 a), (36, .int .i64 b), (37, .int .i64 (a * b)), (38, .int .i64 a), (39, .int .i64 (a - 1)), (40, .int .i64 b), (41, .int .i64 (b - 1)), (42, .int .i64 ((a - 1) * (b - 1))), (43, .arr .i64 2 (qn a b)), (44, .int .i64 (i : Int))], [.var b6_1 (.agg [.int .i64 0, .arr8 100 fun _ => 0]), .var b5_1 (.int .i64 b), .var b4_1 (.int .i64 a), .var b3_1 (.int .i64 p)]⟩) (fun i => i ≤ 2 ∧ ∀ j, j < i → okq p (qn a b j) = true) (fun i => 2 - i) 0 ?_ ?_ ?_
        · exact ⟨by omega, fun j h => by omega⟩
        · exact Wk.intro (.cons rfl (by first | rfl | exact veq_int (by first | omega | (dsimp only; omega))) (.cons rfl (by first | rfl | exact veq_int (by first | omega | (dsimp only; omega))) (.cons rfl (by first | rfl | exact veq_int (by first | omega | (dsimp only; omega))) (.cons rfl (by first | rfl | exact veq_int (by first | omega | (dsimp only; omega))) (.cons rfl (by first | rfl | exact veq_int (by first | omega | (dsimp only; omega))) (.cons rfl (by first | rfl | exact veq_int (by first | omega | (dsimp only; omega))) (.cons rfl (by first | rfl | exact veq_int (by first | omega | (dsimp only; omega))) (.cons rfl (by first | rfl | exact veq_int (by first | omega | (dsimp only; omega))) (.cons rfl (by first | rfl | exact veq_int (by first | omega | (dsimp only; omega))) (.cons rfl (by first | rfl | exact veq_int (by first | omega | (dsimp only; omega))) (.cons rfl (by first | rfl | exact veq_int (by first | omega | (dsimp only; omega))) (.cons rfl (by first | rfl | exact veq_int (by first | omega | (dsimp only; omega))) (.cons rfl (by first | rfl | exact veq_int (by first | omega | (dsimp only; omega))) (.cons rfl (by first | rfl | exact veq_int (by first | omega | (dsimp only; omega))) (.cons rfl (by first | rfl | exact veq_int (by first | omega | (dsimp only; omega))) (.cons rfl (by first | rfl | exact veq_int (by first | omega | (dsimp only; omega))) (.cons rfl (by first | rfl | exact veq_int (by first | omega | (dsimp only; omega))) (.cons rfl (by first | rfl | exact veq_int (by first | omega | (dsimp only; omega))) (.cons rfl (by first | rfl | exact veq_int (by first | omega | (dsimp only; omega))) (.cons rfl (by first | rfl | exact veq_int (by first | omega | (dsimp only; omega))) (.cons rfl (by first | rfl | exact veq_int (by first | omega | (dsimp only; omega))) (.cons rfl (by first | rfl | exact veq_int (by first | omega | (dsimp only; omega))) (.cons rfl (by first | rfl | exact veq_int (by first | omega | (dsimp only; omega))) (.cons rfl (by first | rfl | exact veq_int (by first | omega | (dsimp only; omega))) .nil)))))))))))))))))))))))) (.keep rfl rfl (fun _ h => h) (.keep rfl rfl (fun _ h => h) (.keep rfl rfl (fun _ h => h) (.keep rfl rfl (fun _ h => h) .nil))))
        · rintro i ⟨hi, hI⟩
          refine W_seq ?_
          refine W_region ?_
          refine Ops_p (p_lss rfl rfl) (lt_dec rfl) ?_
          refine Ops_nil ?_
          refine W_seq ?_
          refine W_cond rfl (fun h8 => ?_) (fun h8 => ?_)
          · try simp only [bs] at h8
            refine W_skip ?_
            refine W_seq ?_
            refine W_block ?_
            refine W_seq ?_
            refine W_region ?_
            refine Ops_p (p_index _ rfl rfl rfl rfl rfl rfl (by first | (first | omega | (dsimp only; omega)) | exact Fin.isLt _) (Nat.le_refl _)) (lt_dec rfl) ?_
            refine Ops_p (p_assign rfl) (lt_dec rfl) ?_
            refine Ops_nil ?_
            refine W_seq ?_
            have hqn : -49 ≤ qn a b i ∧ qn a b i ≤ 49 := (by unfold qn; split <;> assumption)
            have htm := tmod_in (a := qn a b i) hp
            refine W_region ?_
            refine Ops_p (p_move rfl) (lt_dec rfl) ?_
            refine Ops_q (q_load rfl rfl m3 rfl (by first | trivial | (first | omega | (dsimp only; omega)) | exact Fin.isLt _ | (dsimp only; omega))) (lt_dec rfl) ?_
            refine Ops_p (p_rem_t rfl rfl (qP_ne hp)) (lt_dec rfl) ?_
            refine Ops_p (p_eql rfl rfl) (lt_dec rfl) ?_
            refine Ops_p (p_move rfl) (lt_dec rfl) ?_
            refine Ops_guard rfl rfl (lt_dec rfl) (fun hg9 => ?_) (fun hg9 => ?_)
            · try simp only [bs] at hg9
              refine Ops_p (p_move rfl) (lt_dec rfl) ?_
              refine Ops_guard_t rfl rfl (lt_dec rfl) ?_
              refine Ops_q (q_load rfl rfl m3 rfl (by first | trivial | (first | omega | (dsimp only; omega)) | exact Fin.isLt _ | (dsimp only; omega))) (lt_dec rfl) ?_
              refine Ops_guard_t rfl rfl (lt_dec rfl) ?_
              refine Ops_q (q_call en_impl_isSquareOf rfl (w_impl_isSquareOf hp (by omega)) (View.none _)) (lt_dec rfl) ?_
              refine Ops_guard_t rfl rfl (lt_dec rfl) ?_
              refine Ops_p (p_not rfl) (lt_dec rfl) ?_
              refine Ops_p (p_pick_f rfl rfl) (lt_dec rfl) ?_
              refine Ops_nil ?_
              refine W_cond rfl (fun h9 => ?_) (fun h9 => ?_)
              · try simp only [bs] at h9
                refine W_seq ?_
                have h1 : qok p a b = false := qok_bad (i := i) (by omega) (by unfold okq; simp_all)
                refine W_region ?_
                refine Ops_p (p_build rfl rfl rfl rfl (by first | trivial | (first | omega | (dsimp only; omega)) | exact Fin.isLt _ | (dsimp only; omega))) (lt_dec rfl) ?_
                refine Ops_x rfl (x_store rfl rfl rfl rfl rfl HpRep.head rfl (by first | trivial | (first | (first | omega | (dsimp only; omega)) | exact Fin.isLt _)) ?_)
                refine Ops_p (p_assign rfl) (lt_dec rfl) ?_
                refine Ops_nil ?_
                refine W_ret ?_
                refine Exists.intro _ (And.intro (.cons (.cell rfl rfl m0 rfl trivial) (.cons (.tmp rfl) .nil)) ?_)
                first | rfl | (refine veq_bool ?_; simp_all; done) | (refine veq_bool ?_; simp; omega) | (refine veq_bool ?_; rw [eq_comm, decide_eq_false_iff_not]; omega) | (refine veq_bool ?_; rw [eq_comm, decide_eq_true_iff]; omega) | (refine veq_int ?_; omega) | (refine veq_arr8 fun j hj => ?_; (try dsimp only); first | (simp; done) | (simp; omega) | ((repeat' split) <;> first | rfl | (exfalso; omega) | (congr 1; omega) | (simp_all; done))) | (rw [h0]; rfl) | (rw [h0, h1]; rfl)
              · try simp only [bs] at h9
                refine W_skip ?_
                refine W_region ?_
                refine Ops_p (p_add rfl rfl (by exact ⟨(by first | omega | (dsimp only; omega)), (by first | omega | (dsimp only; omega))⟩)) (lt_dec rfl) ?_
                refine Ops_p (p_move rfl) (lt_dec rfl) ?_
                refine Ops_nil ?_
                refine Exists.intro (i + 1) (And.intro ?_ (And.intro ?_ ?_))
                · exact ⟨by omega, fun j h => if e : j = i then (by subst e; unfold okq; simp_all) else hI j (by omega)⟩
                · show _ < _; omega
                · exact Wk.intro (.cons rfl (by first | rfl | exact veq_int (by first | omega | (dsimp only; omega))) (.cons rfl (by first | rfl | exact veq_int (by first | omega | (dsimp only; omega))) (.cons rfl (by first | rfl | exact veq_int (by first | omega | (dsimp only; omega))) (.cons rfl (by first | rfl | exact veq_int (by first | omega | (dsimp only; omega))) (.cons rfl (by first | rfl | exact veq_int (by first | omega | (dsimp only; omega))) (.cons rfl (by first | rfl | exact veq_int (by first | omega | (dsimp only; omega))) (.cons rfl (by first | rfl | exact veq_int (by first | omega | (dsimp only; omega))) (.cons rfl (by first | rfl | exact veq_int (by first | omega | (dsimp only; omega))) (.cons rfl (by first | rfl | exact veq_int (by first | omega | (dsimp only; omega))) (.cons rfl (by first | rfl | exact veq_int (by first | omega | (dsimp only; omega))) (.cons rfl (by first | rfl | exact veq_int (by first | omega | (dsimp only; omega))) (.cons rfl (by first | rfl | exact veq_int (by first | omega | (dsimp only; omega))) (.cons rfl (by first | rfl | exact veq_int (by first | omega | (dsimp only; omega))) (.cons rfl (by first | rfl | exact veq_int (by first | omega | (dsimp only; omega))) (.cons rfl (by first | rfl | exact veq_int (by first | omega | (dsimp only; omega))) (.cons rfl (by first | rfl | exact veq_int (by first | omega | (dsimp only; omega))) (.cons rfl (by first | rfl | exact veq_int (by first | omega | (dsimp only; omega))) (.cons rfl (by first | rfl | exact veq_int (by first | omega | (dsimp only; omega))) (.cons rfl (by first | rfl | exact veq_int (by first | omega | (dsimp only; omega))) (.cons rfl (by first | rfl | exact veq_int (by first | omega | (dsimp only; omega))) (.cons rfl (by first | rfl | exact veq_int (by first | omega | (dsimp only; omega))) (.cons rfl (by first | rfl | exact veq_int (by first | omega | (dsimp only; omega))) (.cons rfl (by first | rfl | exact veq_int (by first | omega | (dsimp only; omega))) (.cons rfl (by first | rfl | exact veq_int (by first | omega | (dsimp only; omega))) .nil)))))))))))))))))))))))) (.keep rfl rfl (fun _ h => h) (.keep rfl rfl (fun _ h => h) (.keep rfl rfl (fun _ h => h) (.keep rfl rfl (fun _ h => h) .nil))))
            · try simp only [bs] at hg9
              refine Ops_guard_f rfl rfl rfl (lt_dec rfl) ?_
              refine Ops_guard_f rfl rfl rfl (lt_dec rfl) ?_
              refine Ops_guard_f rfl rfl rfl (lt_dec rfl) ?_
              refine Ops_p (p_pick_t rfl rfl) (lt_dec rfl) ?_
              refine Ops_nil ?_
              refine W_true rfl ?_
              refine W_seq ?_
              have h1 : qok p a b = false := qok_bad (i := i) (by omega) (by unfold okq; simp_all)
              refine W_region ?_
              refine Ops_p (p_build rfl rfl rfl rfl (by first | trivial | (first | omega | (dsimp only; omega)) | exact Fin.isLt _ | (dsimp only; omega))) (lt_dec rfl) ?_
              refine Ops_x rfl (x_store rfl rfl rfl rfl rfl HpRep.head rfl (by first | trivial | (first | (first | omega | (dsimp only; omega)) | exact Fin.isLt _)) ?_)
              refine Ops_p (p_assign rfl) (lt_dec rfl) ?_
              refine Ops_nil ?_
              refine W_ret ?_
              refine Exists.intro _ (And.intro (.cons (.cell rfl rfl m0 rfl trivial) (.cons (.tmp rfl) .nil)) ?_)
              first | rfl | (refine veq_bool ?_; simp_all; done) | (refine veq_bool ?_; simp; omega) | (refine veq_bool ?_; rw [eq_comm, decide_eq_false_iff_not]; omega) | (refine veq_bool ?_; rw [eq_comm, decide_eq_true_iff]; omega) | (refine veq_int ?_; omega) | (refine veq_arr8 fun j hj => ?_; (try dsimp only); first | (simp; done) | (simp; omega) | ((repeat' split) <;> first | rfl | (exfalso; omega) | (congr 1; omega) | (simp_all; done))) | (rw [h0]; rfl) | (rw [h0, h1]; rfl)
          · try simp only [bs] at h8
            obtain rfl : i = 2 := (by omega)
            refine W_exit ?_
            refine W_seq ?_
            have h1 : qok p a b = true := qok_all hI
            refine W_region ?_
            refine Ops_q (q_load rfl rfl m3 rfl (by first | trivial | (first | omega | (dsimp only; omega)) | exact Fin.isLt _ | (dsimp only; omega))) (lt_dec rfl) ?_
            refine Ops_p (p_makeFunc rfl rfl) (lt_dec rfl) ?_
            refine Ops_q (q_call en_impl_made rfl (w_impl_made (need := [.rvar b5_1 (.int .i64 b), .rvar b3_1 (.int .i64 p), .rvar b4_1 (.int .i64 a)]) (g := qg p a b) (by omega) en_impl_QuadraticSquareX1 rfl (fun x y hx hy => w_impl_QuadraticSquareX1 (bb := b5_1) (bp := b3_1) (ba := b4_1) hp ha hb (by omega) (by omega))) (View.cons (View.var m1) (View.cons (View.var m3) (View.var m2) rfl rfl) rfl rfl)) (lt_dec rfl) ?_
            refine Ops_x rfl (x_store rfl rfl rfl rfl rfl HpRep.head rfl (by first | trivial | (first | (first | omega | (dsimp only; omega)) | exact Fin.isLt _)) ?_)
            refine Ops_p (p_assign rfl) (lt_dec rfl) ?_
            refine Ops_nil ?_
            refine W_ret ?_
            refine Exists.intro _ (And.intro (.cons (.cell rfl rfl m0 rfl trivial) (.cons (.tmp rfl) .nil)) ?_)
            first | rfl | (refine veq_bool ?_; simp_all; done) | (refine veq_bool ?_; simp; omega) | (refine veq_bool ?_; rw [eq_comm, decide_eq_false_iff_not]; omega) | (refine veq_bool ?_; rw [eq_comm, decide_eq_true_iff]; omega) | (refine veq_int ?_; omega) | (refine veq_arr8 fun j hj => ?_; (try dsimp only); first | (simp; done) | (simp; omega) | ((repeat' split) <;> first | rfl | (exfalso; omega) | (congr 1; omega) | (simp_all; done))) | (rw [h0]; rfl) | (rw [h0, h1]; rfl)
    · try simp only [bs] at hg8
      refine Ops_guard_f rfl rfl rfl (lt_dec rfl) ?_
      refine Ops_guard_f rfl rfl rfl (lt_dec rfl) ?_
      refine Ops_guard_f rfl rfl rfl (lt_dec rfl) ?_
      refine Ops_guard_f rfl rfl rfl (lt_dec rfl) ?_
      refine Ops_p (p_pick_t rfl rfl) (lt_dec rfl) ?_
      refine Ops_nil ?_
      refine W_true rfl ?_
      refine W_seq ?_
      have h0 : qin p a b = false := qin_f (by omega)
      refine W_region ?_
      refine Ops_p (p_build rfl rfl rfl rfl (by first | trivial | (first | omega | (dsimp only; omega)) | exact Fin.isLt _ | (dsimp only; omega))) (lt_dec rfl) ?_
      refine Ops_x rfl (x_store rfl rfl rfl rfl rfl HpRep.head rfl (by first | trivial | (first | (first | omega | (dsimp only; omega)) | exact Fin.isLt _)) ?_)
      refine Ops_p (p_assign rfl) (lt_dec rfl) ?_
      refine Ops_nil ?_
      refine W_ret ?_
      refine Exists.intro _ (And.intro (.cons (.cell rfl rfl m0 rfl trivial) (.cons (.tmp rfl) .nil)) ?_)
      first | rfl | (refine veq_bool ?_; simp_all; done) | (refine veq_bool ?_; simp; omega) | (refine veq_bool ?_; rw [eq_comm, decide_eq_false_iff_not]; omega) | (refine veq_bool ?_; rw [eq_comm, decide_eq_true_iff]; omega) | (refine veq_int ?_; omega) | (refine veq_arr8 fun j hj => ?_; (try dsimp only); first | (simp; done) | (simp; omega) | ((repeat' split) <;> first | rfl | (exfalso; omega) | (congr 1; omega) | (simp_all; done))) | (rw [h0]; rfl) | (rw [h0, h1]; rfl)
end Go.Proofs.Ytebcapplclgaeaa
