/- What the Go function impl.IsTerm does, shown of its loaded text; its conditions stand in the statement. -/
import Derived.Test.YtdcpggdbjllmpaaTy
import Derived.Test.YtdcpggdbjllmpaaFimplisLeaf
import Derived.Test.YtdcpggdbjllmpaaFimplisOperation
import Derived.Test.YtdcpggdbjllmpaaGx12
import Derived.Test.YtdcpggdbjllmpaaM13
namespace Go.Proofs.Ytdcpggdbjllmpaa
open Go Gx
set_option linter.unusedVariables false
theorem en_impl_IsTerm : Enters Try.prog 38 := enters_of Try.func38 (by kernel_rfl) (by kernel_rfl)
set_option maxRecDepth 100000 in
theorem w_impl_IsTerm {a : Value} {ha : a.oneCell' = true} {l : List (Fin 256)} (hl : l.length ≤ 1048576) : CR Try.prog 38 (vals [.raw a ha]) [rd a (.u8s l)] (.bool (isTerm l)) := by
  refine CR_intro (rs := [.tmp 2]) tt tok Try.func38 rfl rfl rfl (by first | rfl | assumption) fun w => ?_
  refine W_seq ?_
  refine W_region ?_
  refine Ops_p (p_assign rfl) (lt_dec rfl) ?_
  refine Ops_nil ?_
  refine W_seq ?_
  refine W_region ?_
  refine Ops_p (p_assign rfl) (lt_dec rfl) ?_
  refine Ops_nil ?_
  refine W_seq ?_
  refine W_seq ?_
  refine W_region ?_
  refine Ops_p (p_move rfl) (lt_dec rfl) ?_
  refine Ops_q ((q_lenR rfl rfl rfl (Rds.rd m0)).eq (d' := .int .i64 ((l.length : Nat) : Int)) rfl) (lt_dec rfl) ?_
  refine Ops_p (p_move rfl) (lt_dec rfl) ?_
  refine Ops_nil ?_
  refine W_block ?_
  refine W_loop (α := Nat × Nat) (fun zz0 => ⟨[(0, .raw a ha), (3, .int .i64 ((zz0.2) : Int)), (6, .raw a ha), (7, .int .i64 (l.length : Int)), (8, .int .i64 ((zz0.1) : Int))], [rd a (.u8s l)]⟩) (fun zz0 => (zz0.1) ≤ l.length ∧ dep l (zz0.1) = some (zz0.2)) (fun zz0 => l.length - (zz0.1)) (0, 0) ?_ ?_ ?_
  · exact ⟨Nat.zero_le _, rfl⟩
  · exact Wk.intro (.cons rfl (by first | rfl | exact veq_int (by first | omega | (dsimp only; omega))) (.cons rfl (by first | rfl | exact veq_int (by first | omega | (dsimp only; omega))) (.cons rfl (by first | rfl | exact veq_int (by first | omega | (dsimp only; omega))) (.cons rfl (by first | rfl | exact veq_int (by first | omega | (dsimp only; omega))) (.cons rfl (by first | rfl | exact veq_int (by first | omega | (dsimp only; omega))) .nil))))) (.keep rfl rfl (fun _ h => h) .nil)
  · rintro ⟨i, d⟩ ⟨hi, hD⟩
    try dsimp only at *
    have hdl := dep_le hD
    refine W_seq ?_
    refine W_region ?_
    refine Ops_p (p_lss rfl rfl) (lt_dec rfl) ?_
    refine Ops_nil ?_
    refine W_seq ?_
    refine W_cond rfl (fun h1 => ?_) (fun h1 => ?_)
    · try simp only [bs] at h1
      refine W_skip ?_
      refine W_seq ?_
      refine W_block ?_
      refine W_seq ?_
      refine W_region ?_
      refine Ops_q (q_ixR _ rfl rfl rfl (Rds.rd m0) rfl rfl (by first | (show _ < List.length _; omega) | (show _ < List.length _; first | omega | (dsimp only; omega))) rfl) (lt_dec rfl) ?_
      refine Ops_q (q_loadR rfl rfl (Rds.rd m0) rfl rfl (by first | (show _ < List.length _; omega) | (show _ < List.length _; first | omega | (dsimp only; omega))) rfl rfl rfl) (lt_dec rfl) ?_
      refine Ops_p (p_assign rfl) (lt_dec rfl) ?_
      refine Ops_nil ?_
      refine W_block ?_
      refine W_seq ?_
      refine W_region ?_
      refine Ops_p (p_move rfl) (lt_dec rfl) ?_
      refine Ops_q (q_call en_impl_isLeaf rfl (w_impl_isLeaf) (View.none _)) (lt_dec rfl) ?_
      refine Ops_p (p_assign rfl) (lt_dec rfl) ?_
      refine Ops_nil ?_
      refine W_cond rfl (fun h2 => ?_) (fun h2 => ?_)
      · try simp only [bs] at h2
        refine W_region ?_
        refine Ops_p (p_move rfl) (lt_dec rfl) ?_
        refine Ops_p (p_add rfl rfl (by exact ⟨(by first | omega | (dsimp only; omega)), (by first | omega | (dsimp only; omega))⟩)) (lt_dec rfl) ?_
        refine Ops_p (p_assign rfl) (lt_dec rfl) ?_
        refine Ops_nil ?_
        refine W_region ?_
        refine Ops_p (p_add rfl rfl (by exact ⟨(by first | omega | (dsimp only; omega)), (by first | omega | (dsimp only; omega))⟩)) (lt_dec rfl) ?_
        refine Ops_p (p_move rfl) (lt_dec rfl) ?_
        refine Ops_nil ?_
        refine Exists.intro (i + 1, d + 1) (And.intro ?_ (And.intro ?_ ?_))
        · first | exact ⟨by show _ ≤ _; omega, dep_leaf hD (by simp_all)⟩ | exact ⟨by show _ ≤ _; omega, dep_op hD (by simp_all) (by simp_all) (by omega)⟩
        · show _ < _; omega
        · exact Wk.intro (.cons rfl (by first | rfl | exact veq_int (by first | omega | (dsimp only; omega))) (.cons rfl (by first | rfl | exact veq_int (by first | omega | (dsimp only; omega))) (.cons rfl (by first | rfl | exact veq_int (by first | omega | (dsimp only; omega))) (.cons rfl (by first | rfl | exact veq_int (by first | omega | (dsimp only; omega))) (.cons rfl (by first | rfl | exact veq_int (by first | omega | (dsimp only; omega))) .nil))))) (.keep rfl rfl (fun _ h => h) .nil)
      · try simp only [bs] at h2
        refine W_seq ?_
        refine W_region ?_
        refine Ops_p (p_move rfl) (lt_dec rfl) ?_
        refine Ops_q (q_call en_impl_isOperation rfl (w_impl_isOperation) (View.none _)) (lt_dec rfl) ?_
        refine Ops_p (p_move rfl) (lt_dec rfl) ?_
        refine Ops_guard rfl rfl (lt_dec rfl) (fun hg1 => ?_) (fun hg1 => ?_)
        · try simp only [bs] at hg1
          refine Ops_p (p_move rfl) (lt_dec rfl) ?_
          refine Ops_guard_t rfl rfl (lt_dec rfl) ?_
          refine Ops_p (p_geq rfl rfl) (lt_dec rfl) ?_
          refine Ops_p (p_pick_t rfl rfl) (lt_dec rfl) ?_
          refine Ops_p (p_assign rfl) (lt_dec rfl) ?_
          refine Ops_nil ?_
          refine W_cond rfl (fun h3 => ?_) (fun h3 => ?_)
          · try simp only [bs] at h3
            refine W_region ?_
            refine Ops_p (p_move rfl) (lt_dec rfl) ?_
            refine Ops_p (p_sub rfl rfl (by exact ⟨(by first | omega | (dsimp only; omega)), (by first | omega | (dsimp only; omega))⟩)) (lt_dec rfl) ?_
            refine Ops_p (p_assign rfl) (lt_dec rfl) ?_
            refine Ops_nil ?_
            refine W_region ?_
            refine Ops_p (p_add rfl rfl (by exact ⟨(by first | omega | (dsimp only; omega)), (by first | omega | (dsimp only; omega))⟩)) (lt_dec rfl) ?_
            refine Ops_p (p_move rfl) (lt_dec rfl) ?_
            refine Ops_nil ?_
            refine Exists.intro (i + 1, d - 1) (And.intro ?_ (And.intro ?_ ?_))
            · first | exact ⟨by show _ ≤ _; omega, dep_leaf hD (by simp_all)⟩ | exact ⟨by show _ ≤ _; omega, dep_op hD (by simp_all) (by simp_all) (by omega)⟩
            · show _ < _; omega
            · exact Wk.intro (.cons rfl (by first | rfl | exact veq_int (by first | omega | (dsimp only; omega))) (.cons rfl (by first | rfl | exact veq_int (by first | omega | (dsimp only; omega))) (.cons rfl (by first | rfl | exact veq_int (by first | omega | (dsimp only; omega))) (.cons rfl (by first | rfl | exact veq_int (by first | omega | (dsimp only; omega))) (.cons rfl (by first | rfl | exact veq_int (by first | omega | (dsimp only; omega))) .nil))))) (.keep rfl rfl (fun _ h => h) .nil)
          · try simp only [bs] at h3
            refine W_seq ?_
            refine W_region ?_
            refine Ops_p (p_assign rfl) (lt_dec rfl) ?_
            refine Ops_nil ?_
            refine W_ret ?_
            refine Exists.intro _ (And.intro (.cons (.tmp rfl) .nil) ?_)
            first | rfl | (refine veq_bool ?_; simp_all; done) | (refine veq_bool ?_; simp; omega) | (refine veq_bool ?_; rw [eq_comm, decide_eq_false_iff_not]; omega) | (refine veq_bool ?_; rw [eq_comm, decide_eq_true_iff]; omega) | (refine veq_int ?_; omega) | (refine veq_arr8 fun j hj => ?_; (try dsimp only); first | (simp; done) | (simp; omega) | ((repeat' split) <;> first | rfl | (exfalso; omega) | (congr 1; omega) | (simp_all; done))) | (exact veq_bool (isTerm_bad (i := i) (by omega) (dep_bad hD (by simp_all) (by first | exact .inr (by omega) | exact .inl (by simp_all))))) | (exact veq_bool (by rw [← isTerm_end2 hD (by omega)]; rw [Bool.eq_iff_iff]; simp only [decide_eq_true_eq]; omega)) | (exact veq_bool (isTerm_end1 hD (by omega)))
        · try simp only [bs] at hg1
          refine Ops_guard_f rfl rfl rfl (lt_dec rfl) ?_
          refine Ops_p (p_pick_f rfl rfl) (lt_dec rfl) ?_
          refine Ops_p (p_assign rfl) (lt_dec rfl) ?_
          refine Ops_nil ?_
          refine W_false rfl ?_
          refine W_seq ?_
          refine W_region ?_
          refine Ops_p (p_assign rfl) (lt_dec rfl) ?_
          refine Ops_nil ?_
          refine W_ret ?_
          refine Exists.intro _ (And.intro (.cons (.tmp rfl) .nil) ?_)
          first | rfl | (refine veq_bool ?_; simp_all; done) | (refine veq_bool ?_; simp; omega) | (refine veq_bool ?_; rw [eq_comm, decide_eq_false_iff_not]; omega) | (refine veq_bool ?_; rw [eq_comm, decide_eq_true_iff]; omega) | (refine veq_int ?_; omega) | (refine veq_arr8 fun j hj => ?_; (try dsimp only); first | (simp; done) | (simp; omega) | ((repeat' split) <;> first | rfl | (exfalso; omega) | (congr 1; omega) | (simp_all; done))) | (exact veq_bool (isTerm_bad (i := i) (by omega) (dep_bad hD (by simp_all) (by first | exact .inr (by omega) | exact .inl (by simp_all))))) | (exact veq_bool (by rw [← isTerm_end2 hD (by omega)]; rw [Bool.eq_iff_iff]; simp only [decide_eq_true_eq]; omega)) | (exact veq_bool (isTerm_end1 hD (by omega)))
    · try simp only [bs] at h1
      obtain rfl : i = l.length := (by omega)
      refine W_exit ?_
      refine W_seq ?_
      refine W_region ?_
      refine Ops_p (p_move rfl) (lt_dec rfl) ?_
      refine Ops_p (p_eql rfl rfl) (lt_dec rfl) ?_
      refine Ops_p (p_move rfl) (lt_dec rfl) ?_
      refine Ops_guard rfl rfl (lt_dec rfl) (fun hg2 => ?_) (fun hg2 => ?_)
      · try simp only [bs] at hg2
        refine Ops_p (p_move rfl) (lt_dec rfl) ?_
        refine Ops_guard_t rfl rfl (lt_dec rfl) ?_
        refine Ops_q ((q_lenR rfl rfl rfl (Rds.rd m0)).eq (d' := .int .i64 ((l.length : Nat) : Int)) rfl) (lt_dec rfl) ?_
        refine Ops_guard_t rfl rfl (lt_dec rfl) ?_
        refine Ops_p (p_leq rfl rfl) (lt_dec rfl) ?_
        refine Ops_p (p_pick_t rfl rfl) (lt_dec rfl) ?_
        refine Ops_p (p_assign rfl) (lt_dec rfl) ?_
        refine Ops_nil ?_
        refine W_ret ?_
        refine Exists.intro _ (And.intro (.cons (.tmp rfl) .nil) ?_)
        first | rfl | (refine veq_bool ?_; simp_all; done) | (refine veq_bool ?_; simp; omega) | (refine veq_bool ?_; rw [eq_comm, decide_eq_false_iff_not]; omega) | (refine veq_bool ?_; rw [eq_comm, decide_eq_true_iff]; omega) | (refine veq_int ?_; omega) | (refine veq_arr8 fun j hj => ?_; (try dsimp only); first | (simp; done) | (simp; omega) | ((repeat' split) <;> first | rfl | (exfalso; omega) | (congr 1; omega) | (simp_all; done))) | (exact veq_bool (isTerm_bad (i := i) (by omega) (dep_bad hD (by simp_all) (by first | exact .inr (by omega) | exact .inl (by simp_all))))) | (exact veq_bool (by rw [← isTerm_end2 hD (by omega)]; rw [Bool.eq_iff_iff]; simp only [decide_eq_true_eq]; omega)) | (exact veq_bool (isTerm_end1 hD (by omega)))
      · try simp only [bs] at hg2
        refine Ops_guard_f rfl rfl rfl (lt_dec rfl) ?_
        refine Ops_guard_f rfl rfl rfl (lt_dec rfl) ?_
        refine Ops_p (p_pick_f rfl rfl) (lt_dec rfl) ?_
        refine Ops_p (p_assign rfl) (lt_dec rfl) ?_
        refine Ops_nil ?_
        refine W_ret ?_
        refine Exists.intro _ (And.intro (.cons (.tmp rfl) .nil) ?_)
        first | rfl | (refine veq_bool ?_; simp_all; done) | (refine veq_bool ?_; simp; omega) | (refine veq_bool ?_; rw [eq_comm, decide_eq_false_iff_not]; omega) | (refine veq_bool ?_; rw [eq_comm, decide_eq_true_iff]; omega) | (refine veq_int ?_; omega) | (refine veq_arr8 fun j hj => ?_; (try dsimp only); first | (simp; done) | (simp; omega) | ((repeat' split) <;> first | rfl | (exfalso; omega) | (congr 1; omega) | (simp_all; done))) | (exact veq_bool (isTerm_bad (i := i) (by omega) (dep_bad hD (by simp_all) (by first | exact .inr (by omega) | exact .inl (by simp_all))))) | (exact veq_bool (by rw [← isTerm_end2 hD (by omega)]; rw [Bool.eq_iff_iff]; simp only [decide_eq_true_eq]; omega)) | (exact veq_bool (isTerm_end1 hD (by omega)))
end Go.Proofs.Ytdcpggdbjllmpaa
