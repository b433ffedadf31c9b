/- What the Go function slices.Index[[]int64,int64] does, shown of its loaded text; its conditions stand in the statement. -/
import Derived.Test.YtdcpggdbjllmpabTy
import Derived.Test.YtdcpggdbjllmpabGx12
import Derived.Test.YtdcpggdbjllmpabM30
namespace Go.Proofs.Ytdcpggdbjllmpab
open Go Gx
set_option linter.unusedVariables false
theorem en_slices_IndexGSint64int64 : Enters Try.prog 114 := enters_of Try.func114 (by kernel_rfl) (by kernel_rfl)
set_option maxRecDepth 100000 in
theorem w_slices_IndexGSint64int64 {a : Value} {ha : a.oneCell' = true} {l : List Int} {v : Int} (hl : l.length ≤ 1000000) : CR Try.prog 114 (vals [.raw a ha, .int .i64 v]) [rd a (.ints .i64 l)] (.int .i64 (ixI l v)) := by
  refine CR_intro (rs := [.tmp 4]) tt tok Try.func114 rfl rfl rfl (by first | rfl | assumption) fun w => ?_
  refine W_seq ?_
  refine W_region ?_
  refine Ops_p (p_assign rfl) (lt_dec rfl) ?_
  refine Ops_nil ?_
  refine W_seq ?_
  refine W_seq ?_
  refine W_region ?_
  refine Ops_p (p_move rfl) (lt_dec rfl) ?_
  refine Ops_q ((q_lenR rfl rfl rfl (Rds.rd m0)).eq (d' := .int .i64 ((l.length : Nat) : Int)) rfl) (lt_dec rfl) ?_
  refine Ops_p (p_move rfl) (lt_dec rfl) ?_
  refine Ops_nil ?_
  refine W_block ?_
  refine W_loop (α := Nat) (fun i => ⟨[(0, .raw a ha), (1, .int .i64 v), (6, .raw a ha), (7, .int .i64 (l.length : Int)), (8, .int .i64 (i : Int))], [rd a (.ints .i64 l)]⟩) (fun i => i ≤ l.length ∧ ∀ j, j < i → ¬ v = l.getD j 0) (fun i => l.length - i) 0 ?_ ?_ ?_
  · exact ⟨by omega, fun j h => by omega⟩
  · exact Wk.intro (.cons rfl (by first | rfl | exact veq_int (by first | omega | (dsimp only; omega))) (.cons rfl (by first | rfl | exact veq_int (by first | omega | (dsimp only; omega))) (.cons rfl (by first | rfl | exact veq_int (by first | omega | (dsimp only; omega))) (.cons rfl (by first | rfl | exact veq_int (by first | omega | (dsimp only; omega))) (.cons rfl (by first | rfl | exact veq_int (by first | omega | (dsimp only; omega))) .nil))))) (.keep rfl rfl (fun _ h => h) .nil)
  · rintro i ⟨hi, hR⟩
    refine W_seq ?_
    refine W_region ?_
    refine Ops_p (p_lss rfl rfl) (lt_dec rfl) ?_
    refine Ops_nil ?_
    refine W_seq ?_
    refine W_cond rfl (fun h1 => ?_) (fun h1 => ?_)
    · try simp only [bs] at h1
      refine W_skip ?_
      refine W_seq ?_
      refine W_block ?_
      refine W_seq ?_
      refine W_region ?_
      refine Ops_p (p_move rfl) (lt_dec rfl) ?_
      refine Ops_p (p_assign rfl) (lt_dec rfl) ?_
      refine Ops_nil ?_
      refine W_seq ?_
      refine W_region ?_
      refine Ops_p (p_move rfl) (lt_dec rfl) ?_
      refine Ops_p (p_move rfl) (lt_dec rfl) ?_
      refine Ops_p (p_move rfl) (lt_dec rfl) ?_
      refine Ops_q (q_ixR _ rfl rfl rfl (Rds.rd m0) rfl rfl (by first | (show _ < List.length _; omega) | (show _ < List.length _; first | omega | (dsimp only; omega))) rfl) (lt_dec rfl) ?_
      refine Ops_q (q_loadR rfl rfl (Rds.rd m0) rfl rfl (by first | (show _ < List.length _; omega) | (show _ < List.length _; first | omega | (dsimp only; omega))) rfl rfl rfl) (lt_dec rfl) ?_
      refine Ops_p (p_eql rfl rfl) (lt_dec rfl) ?_
      refine Ops_nil ?_
      refine W_cond rfl (fun h2 => ?_) (fun h2 => ?_)
      · try simp only [bs] at h2
        refine W_seq ?_
        refine W_region ?_
        refine Ops_p (p_move rfl) (lt_dec rfl) ?_
        refine Ops_p (p_assign rfl) (lt_dec rfl) ?_
        refine Ops_nil ?_
        refine W_ret ?_
        refine Exists.intro _ (And.intro (.cons (.tmp rfl) .nil) ?_)
        first | rfl | (refine veq_bool ?_; simp_all; done) | (refine veq_bool ?_; simp; omega) | (refine veq_bool ?_; rw [eq_comm, decide_eq_false_iff_not]; omega) | (refine veq_bool ?_; rw [eq_comm, decide_eq_true_iff]; omega) | (refine veq_int ?_; omega) | (refine veq_arr8 fun j hj => ?_; (try dsimp only); first | (simp; done) | (simp; omega) | ((repeat' split) <;> first | rfl | (exfalso; omega) | (congr 1; omega) | (simp_all; done))) | (exact veq_int (ixI_t (by omega) (by assumption) hR)) | (exact veq_int (ixI_f hR))
      · try simp only [bs] at h2
        refine W_skip ?_
        refine W_region ?_
        refine Ops_p (p_add rfl rfl (by exact ⟨(by first | omega | (dsimp only; omega)), (by first | omega | (dsimp only; omega))⟩)) (lt_dec rfl) ?_
        refine Ops_p (p_move rfl) (lt_dec rfl) ?_
        refine Ops_nil ?_
        refine Exists.intro (i + 1) (And.intro ?_ (And.intro ?_ ?_))
        · exact ⟨by omega, fun j h => if e : j = i then by subst e; assumption else hR j (by omega)⟩
        · show _ < _; omega
        · exact Wk.intro (.cons rfl (by first | rfl | exact veq_int (by first | omega | (dsimp only; omega))) (.cons rfl (by first | rfl | exact veq_int (by first | omega | (dsimp only; omega))) (.cons rfl (by first | rfl | exact veq_int (by first | omega | (dsimp only; omega))) (.cons rfl (by first | rfl | exact veq_int (by first | omega | (dsimp only; omega))) (.cons rfl (by first | rfl | exact veq_int (by first | omega | (dsimp only; omega))) .nil))))) (.keep rfl rfl (fun _ h => h) .nil)
    · try simp only [bs] at h1
      obtain rfl : i = l.length := (by omega)
      refine W_exit ?_
      refine W_seq ?_
      refine W_region ?_
      refine Ops_p (p_assign rfl) (lt_dec rfl) ?_
      refine Ops_nil ?_
      refine W_ret ?_
      refine Exists.intro _ (And.intro (.cons (.tmp rfl) .nil) ?_)
      first | rfl | (refine veq_bool ?_; simp_all; done) | (refine veq_bool ?_; simp; omega) | (refine veq_bool ?_; rw [eq_comm, decide_eq_false_iff_not]; omega) | (refine veq_bool ?_; rw [eq_comm, decide_eq_true_iff]; omega) | (refine veq_int ?_; omega) | (refine veq_arr8 fun j hj => ?_; (try dsimp only); first | (simp; done) | (simp; omega) | ((repeat' split) <;> first | rfl | (exfalso; omega) | (congr 1; omega) | (simp_all; done))) | (exact veq_int (ixI_t (by omega) (by assumption) hR)) | (exact veq_int (ixI_f hR))
end Go.Proofs.Ytdcpggdbjllmpab
