/- What the Go function impl.sign does, shown of its loaded text; its conditions stand in the statement. -/
import Derived.Test.YtnfppiogmcoifaaTy
import Derived.Test.YtnfppiogmcoifaaM3
namespace Go.Proofs.Ytnfppiogmcoifaa
open Go Gx
set_option linter.unusedVariables false
theorem en_impl_sign : Enters Try.prog 63 := enters_of Try.func63 (by kernel_rfl) (by kernel_rfl)
set_option maxRecDepth 100000 in
theorem w_impl_sign {p : Nat → Fin 256} {n : Int} (hP : IsPerm p n) : CR Try.prog 63 (vals [.arr8 10 p, .int .i64 n]) [] (.int .i64 (sgn p n.toNat)) := by
  refine CR_intro (rs := [.tmp 4]) tt tok Try.func63 rfl rfl rfl rfl fun w => ?_
  have hn := hP.2.1
  refine W_seq ?_
  refine W_region ?_
  refine Ops_x rfl (x_box rfl rfl (lt_dec rfl) fun b2_1 => ?_)
  refine Ops_p (p_assign rfl) (lt_dec rfl) ?_
  refine Ops_nil ?_
  refine W_seq ?_
  refine W_region ?_
  refine Ops_p (p_assign rfl) (lt_dec rfl) ?_
  refine Ops_nil ?_
  refine W_seq ?_
  refine W_seq ?_
  refine W_region ?_
  refine Ops_p (p_move rfl) (lt_dec rfl) ?_
  refine Ops_p (p_move rfl) (lt_dec rfl) ?_
  refine Ops_nil ?_
  refine W_block ?_
  refine W_loop (α := Nat) (fun i => ⟨[(0, .arr8 10 p), (1, .int .i64 n), (2, .ptr b2_1 0 none), (5, .int .i64 (sgn p i)), (8, .int .i64 n), (9, .int .i64 (i : Int))], [.var b2_1 (.arr8 10 p)]⟩) (fun i => i ≤ n.toNat) (fun i => n.toNat - i) 0 ?_ ?_ ?_
  · show _ ≤ _; omega
  · exact Wk.intro (.cons rfl (by first | rfl | exact veq_int (by omega)) (.cons rfl (by first | rfl | exact veq_int (by omega)) (.cons rfl (by first | rfl | exact veq_int (by omega)) (.cons rfl (by first | rfl | exact veq_int (by omega)) (.cons rfl (by first | rfl | exact veq_int (by omega)) (.cons rfl (by first | rfl | exact veq_int (by omega)) .nil)))))) (.keep rfl rfl (fun _ h => h) .nil)
  · rintro i hR
    refine W_seq ?_
    refine W_region ?_
    refine Ops_p (p_lss rfl rfl) (lt_dec rfl) ?_
    refine Ops_nil ?_
    refine W_seq ?_
    refine W_cond rfl (fun h1 => ?_) (fun h1 => ?_)
    · try simp only [bs] at h1
      refine W_skip ?_
      refine W_seq ?_
      refine W_block ?_
      refine W_seq ?_
      refine W_region ?_
      refine Ops_p (p_move rfl) (lt_dec rfl) ?_
      refine Ops_p (p_assign rfl) (lt_dec rfl) ?_
      refine Ops_nil ?_
      refine W_seq ?_
      refine W_region ?_
      refine Ops_p (p_move rfl) (lt_dec rfl) ?_
      refine Ops_p (p_move rfl) (lt_dec rfl) ?_
      refine Ops_nil ?_
      refine W_block ?_
      refine W_loop (α := Nat) (fun j => ⟨[(0, .arr8 10 p), (1, .int .i64 n), (2, .ptr b2_1 0 none), (5, .int .i64 (sgnI p i (sgn p i) j)), (6, .int .i64 (i : Int)), (8, .int .i64 n), (9, .int .i64 (i : Int)), (11, .int .i64 (i : Int)), (12, .int .i64 (i : Int)), (13, .int .i64 (j : Int))], [.var b2_1 (.arr8 10 p)]⟩) (fun j => j ≤ i) (fun j => i - j) 0 ?_ ?_ ?_
      · show _ ≤ _; omega
      · exact Wk.intro (.cons rfl (by first | rfl | exact veq_int (by omega)) (.cons rfl (by first | rfl | exact veq_int (by omega)) (.cons rfl (by first | rfl | exact veq_int (by omega)) (.cons rfl (by first | rfl | exact veq_int (by omega)) (.cons rfl (by first | rfl | exact veq_int (by omega)) (.cons rfl (by first | rfl | exact veq_int (by omega)) (.cons rfl (by first | rfl | exact veq_int (by omega)) (.cons rfl (by first | rfl | exact veq_int (by omega)) (.cons rfl (by first | rfl | exact veq_int (by omega)) (.cons rfl (by first | rfl | exact veq_int (by omega)) .nil)))))))))) (.keep rfl rfl (fun _ h => h) .nil)
      · rintro j hR
        have hs := sgnI_one (p := p) (i := i) (sgn_one (p := p) i) j
        refine W_seq ?_
        refine W_region ?_
        refine Ops_p (p_lss rfl rfl) (lt_dec rfl) ?_
        refine Ops_nil ?_
        refine W_seq ?_
        refine W_cond rfl (fun h2 => ?_) (fun h2 => ?_)
        · try simp only [bs] at h2
          refine W_skip ?_
          refine W_seq ?_
          refine W_block ?_
          refine W_seq ?_
          refine W_region ?_
          refine Ops_p (p_move rfl) (lt_dec rfl) ?_
          refine Ops_p (p_assign rfl) (lt_dec rfl) ?_
          refine Ops_nil ?_
          refine W_seq ?_
          refine W_draw (by kernel_rfl) ?_
          show RA _ _ 7 _ _ _
          refine RA_quiet (g := 0) [0, 1, 2, 3, 4, 5, 6] (by kernel_rfl) (by kernel_rfl) (by kernel_rfl) (by kernel_rfl) ?_
          refine WQ_cons rfl rfl rfl ((p_move rfl).q) (lt_dec rfl) ?_
          first | refine WQ_cons rfl rfl rfl ((p_ix1 _ rfl rfl rfl rfl rfl rfl (by first | (omega) | exact Fin.isLt _)).q) (lt_dec rfl) ?_ | refine WQ_cons rfl rfl rfl ((p_ix1s _ rfl rfl rfl rfl rfl rfl (by first | (omega) | exact Fin.isLt _)).q) (lt_dec rfl) ?_
          refine WQ_cons rfl rfl rfl ((q_load rfl rfl m0 rfl (by first | trivial | (omega) | exact Fin.isLt _ | (dsimp only; omega)))) (lt_dec rfl) ?_
          refine WQ_cons rfl rfl rfl ((p_move rfl).q) (lt_dec rfl) ?_
          first | refine WQ_cons rfl rfl rfl ((p_ix1 _ rfl rfl rfl rfl rfl rfl (by first | (omega) | exact Fin.isLt _)).q) (lt_dec rfl) ?_ | refine WQ_cons rfl rfl rfl ((p_ix1s _ rfl rfl rfl rfl rfl rfl (by first | (omega) | exact Fin.isLt _)).q) (lt_dec rfl) ?_
          refine WQ_cons rfl rfl rfl ((q_load rfl rfl m0 rfl (by first | trivial | (omega) | exact Fin.isLt _ | (dsimp only; omega)))) (lt_dec rfl) ?_
          refine WQ_cons rfl rfl rfl ((p_gtr rfl rfl).q) (lt_dec rfl) ?_
          refine WQ_nil ?_
          refine RA_done (by kernel_rfl) ?_
          refine W_cond rfl (fun h3 => ?_) (fun h3 => ?_)
          · try simp only [bs] at h3
            refine W_region ?_
            refine Ops_p (p_move rfl) (lt_dec rfl) ?_
            refine Ops_p (p_neg rfl ⟨(by omega), (by omega)⟩) (lt_dec rfl) ?_
            refine Ops_p (p_assign rfl) (lt_dec rfl) ?_
            refine Ops_nil ?_
            refine W_region ?_
            refine Ops_p (p_add rfl rfl ⟨(by omega), (by omega)⟩) (lt_dec rfl) ?_
            refine Ops_p (p_move rfl) (lt_dec rfl) ?_
            refine Ops_nil ?_
            refine Exists.intro (j + 1) (And.intro ?_ (And.intro ?_ ?_))
            · show _ ≤ _; omega
            · show _ < _; omega
            · exact Wk.intro (.cons rfl (by first | rfl | exact veq_int (by omega)) (.cons rfl (by first | rfl | exact veq_int (by omega)) (.cons rfl (by first | rfl | exact veq_int (by omega)) (.cons rfl (by first | exact veq_int (sgnI_t (by omega)) | exact veq_int (sgnI_f (by omega))) (.cons rfl (by first | rfl | exact veq_int (by omega)) (.cons rfl (by first | rfl | exact veq_int (by omega)) (.cons rfl (by first | rfl | exact veq_int (by omega)) (.cons rfl (by first | rfl | exact veq_int (by omega)) (.cons rfl (by first | rfl | exact veq_int (by omega)) (.cons rfl (by first | rfl | exact veq_int (by omega)) .nil)))))))))) (.keep rfl rfl (fun _ h => h) .nil)
          · try simp only [bs] at h3
            refine W_skip ?_
            refine W_region ?_
            refine Ops_p (p_add rfl rfl ⟨(by omega), (by omega)⟩) (lt_dec rfl) ?_
            refine Ops_p (p_move rfl) (lt_dec rfl) ?_
            refine Ops_nil ?_
            refine Exists.intro (j + 1) (And.intro ?_ (And.intro ?_ ?_))
            · show _ ≤ _; omega
            · show _ < _; omega
            · exact Wk.intro (.cons rfl (by first | rfl | exact veq_int (by omega)) (.cons rfl (by first | rfl | exact veq_int (by omega)) (.cons rfl (by first | rfl | exact veq_int (by omega)) (.cons rfl (by first | exact veq_int (sgnI_t (by omega)) | exact veq_int (sgnI_f (by omega))) (.cons rfl (by first | rfl | exact veq_int (by omega)) (.cons rfl (by first | rfl | exact veq_int (by omega)) (.cons rfl (by first | rfl | exact veq_int (by omega)) (.cons rfl (by first | rfl | exact veq_int (by omega)) (.cons rfl (by first | rfl | exact veq_int (by omega)) (.cons rfl (by first | rfl | exact veq_int (by omega)) .nil)))))))))) (.keep rfl rfl (fun _ h => h) .nil)
        · try simp only [bs] at h2
          obtain rfl : i = j := (by omega)
          refine W_exit ?_
          refine W_region ?_
          refine Ops_p (p_add rfl rfl ⟨(by omega), (by omega)⟩) (lt_dec rfl) ?_
          refine Ops_p (p_move rfl) (lt_dec rfl) ?_
          refine Ops_nil ?_
          refine Exists.intro (i + 1) (And.intro ?_ (And.intro ?_ ?_))
          · show _ ≤ _; omega
          · show _ < _; omega
          · exact Wk.intro (.cons rfl (by first | rfl | exact veq_int (by omega)) (.cons rfl (by first | rfl | exact veq_int (by omega)) (.cons rfl (by first | rfl | exact veq_int (by omega)) (.cons rfl (by first | rfl | exact veq_int (by first | rfl | (subst_vars; rfl))) (.cons rfl (by first | rfl | exact veq_int (by omega)) (.cons rfl (by first | rfl | exact veq_int (by omega)) .nil)))))) (.keep rfl rfl (fun _ h => h) .nil)
    · try simp only [bs] at h1
      refine W_exit ?_
      refine W_seq ?_
      refine W_region ?_
      refine Ops_p (p_move rfl) (lt_dec rfl) ?_
      refine Ops_p (p_assign rfl) (lt_dec rfl) ?_
      refine Ops_nil ?_
      refine W_ret ?_
      refine Exists.intro _ (And.intro (.cons (.tmp rfl) .nil) ?_)
      first | rfl | (refine veq_bool ?_; simp_all; done) | (refine veq_bool ?_; simp; omega) | (refine veq_bool ?_; rw [eq_comm, decide_eq_false_iff_not]; omega) | (refine veq_bool ?_; rw [eq_comm, decide_eq_true_iff]; omega) | (refine veq_int ?_; omega) | (refine veq_arr8 fun j hj => ?_; (try dsimp only); first | (simp; done) | (simp; omega) | ((repeat' split) <;> first | rfl | (exfalso; omega) | (congr 1; omega) | (simp_all; done))) | (obtain rfl : i = n.toNat := (by omega); rfl)
end Go.Proofs.Ytnfppiogmcoifaa
