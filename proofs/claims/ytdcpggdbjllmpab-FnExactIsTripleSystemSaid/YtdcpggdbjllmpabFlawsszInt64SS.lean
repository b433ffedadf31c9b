/- What the Go function laws.szInt64SS does, shown of its loaded text; its conditions stand in the statement. -/
import Derived.Test.YtdcpggdbjllmpabTy
import Derived.Test.YtdcpggdbjllmpabFlawsszInt64S
import Derived.Test.YtdcpggdbjllmpabGx12
import Derived.Test.YtdcpggdbjllmpabGx20
import Derived.Test.YtdcpggdbjllmpabM24
namespace Go.Proofs.Ytdcpggdbjllmpab
open Go Gx
set_option linter.unusedVariables false
theorem en_laws_szInt64SS : Enters Try.prog 19 := enters_of Try.func19 (by kernel_rfl) (by kernel_rfl)
set_option maxRecDepth 100000 in
theorem w_laws_szInt64SS {a : Value} {ha : a.oneCell' = true} {L : SL} {k : Int} (hl : L.length ≤ 9223372036854775807) (hi : ∀ i, (L.getD i sd).2.length ≤ 9223372036854775807) (hk : 0 ≤ k ∧ k ≤ 1048576) : CR Try.prog 19 (vals [.raw a ha, .int .i64 k]) [rss a L] (.int .i64 (szR (k - ((L.length : Nat) : Int) - sumL L L.length))) := by
  refine CR_intro (rs := [.tmp 4]) tt tok Try.func19 rfl rfl rfl (by first | rfl | assumption) fun w => ?_
  have hsm : ∀ i, i ≤ L.length → 0 ≤ sumL L i ∧ sumL L i ≤ sumL L L.length := fun i hi => ⟨sumL_nn L i, sumL_le L hi⟩
  have hi9 := hi
  refine W_seq ?_
  refine W_region ?_
  refine Ops_p (p_assign rfl) (lt_dec rfl) ?_
  refine Ops_nil ?_
  refine W_seq ?_
  refine W_region ?_
  refine Ops_p (p_move rfl) (lt_dec rfl) ?_
  refine Ops_p (p_move rfl) (lt_dec rfl) ?_
  refine Ops_q (q_lenO rfl rfl rfl (Rds.rssO m0)) (lt_dec rfl) ?_
  refine Ops_p (p_sub rfl rfl (by exact ⟨(by first | omega | (dsimp only; omega)), (by first | omega | (dsimp only; omega))⟩)) (lt_dec rfl) ?_
  refine Ops_p (p_assign rfl) (lt_dec rfl) ?_
  refine Ops_nil ?_
  refine W_seq ?_
  refine W_seq ?_
  refine W_region ?_
  refine Ops_p (p_move rfl) (lt_dec rfl) ?_
  refine Ops_p (p_lss rfl rfl) (lt_dec rfl) ?_
  refine Ops_nil ?_
  refine W_cond rfl (fun h1 => ?_) (fun h1 => ?_)
  · try simp only [bs] at h1
    refine W_seq ?_
    refine W_region ?_
    refine Ops_p (p_assign rfl) (lt_dec rfl) ?_
    refine Ops_nil ?_
    refine W_ret ?_
    refine Exists.intro _ (And.intro (.cons (.tmp rfl) .nil) ?_)
    first | rfl | (refine veq_bool ?_; simp_all; done) | (refine veq_bool ?_; simp; omega) | (refine veq_bool ?_; rw [eq_comm, decide_eq_false_iff_not]; omega) | (refine veq_bool ?_; rw [eq_comm, decide_eq_true_iff]; omega) | (refine veq_int ?_; omega) | (refine veq_arr8 fun j hj => ?_; (try dsimp only); first | (simp; done) | (simp; omega) | ((repeat' split) <;> first | rfl | (exfalso; omega) | (congr 1; omega) | (simp_all; done))) | (exact veq_int (Eq.symm (szR_n (by have := hsm L.length (by omega); omega)))) | (exact veq_int (Eq.symm (szR_n (by omega)))) | (exact veq_int (Eq.symm (szR_p (by omega))))
  · try simp only [bs] at h1
    refine W_skip ?_
    refine W_seq ?_
    refine W_seq ?_
    refine W_region ?_
    refine Ops_p (p_assign rfl) (lt_dec rfl) ?_
    refine Ops_nil ?_
    refine W_block ?_
    refine W_loop (α := Nat) (fun i => ⟨[(0, .raw a ha), (1, .int .i64 (k - ((L.length : Nat) : Int) - sumL L i)), (5, .int .i64 (i : Int)), (6, .int .i64 k), (7, .raw a ha), (8, .int .i64 ((L.length : Nat) : Int)), (9, .int .i64 (k - ((L.length : Nat) : Int))), (10, .int .i64 (k - ((L.length : Nat) : Int)))], [rss a L]⟩) (fun i => i ≤ L.length ∧ 0 ≤ (k - ((L.length : Nat) : Int) - sumL L i)) (fun i => L.length - i) 0 ?_ ?_ ?_
    · exact ⟨by omega, by show 0 ≤ k - ((L.length : Nat) : Int) - 0; omega⟩
    · exact Wk.intro (.cons rfl (by first | rfl | exact veq_int (by first | omega | (dsimp only; omega))) (.cons rfl (by exact veq_int (by show k - ((L.length : Nat) : Int) = k - ((L.length : Nat) : Int) - 0; omega)) (.cons rfl (by first | rfl | exact veq_int (by first | omega | (dsimp only; omega))) (.cons rfl (by first | rfl | exact veq_int (by first | omega | (dsimp only; omega))) (.cons rfl (by first | rfl | exact veq_int (by first | omega | (dsimp only; omega))) (.cons rfl (by first | rfl | exact veq_int (by first | omega | (dsimp only; omega))) (.cons rfl (by first | rfl | exact veq_int (by first | omega | (dsimp only; omega))) (.cons rfl (by first | rfl | exact veq_int (by first | omega | (dsimp only; omega))) .nil)))))))) (.keep rfl rfl (fun _ h => h) .nil)
    · rintro i ⟨hi, hS⟩
      have h9 := hsm i hi
      have h8 := hi9 i
      have h10 : i < L.length → sumL L (i + 1) ≤ sumL L L.length := fun h => (hsm (i + 1) h).2
      have h11 : sumL L (i + 1) = sumL L i + ((L.getD i sd).2.length : Int) := rfl
      refine W_seq ?_
      refine W_seq ?_
      refine W_region ?_
      refine Ops_p (p_move rfl) (lt_dec rfl) ?_
      refine Ops_p (p_move rfl) (lt_dec rfl) ?_
      refine Ops_q (q_lenO rfl rfl rfl (Rds.rssO m0)) (lt_dec rfl) ?_
      refine Ops_p (p_lss rfl rfl) (lt_dec rfl) ?_
      refine Ops_nil ?_
      refine W_cond rfl (fun h2 => ?_) (fun h2 => ?_)
      · try simp only [bs] at h2
        refine W_skip ?_
        refine W_seq ?_
        refine W_block ?_
        refine W_seq ?_
        refine W_region ?_
        refine Ops_p (p_move rfl) (lt_dec rfl) ?_
        refine Ops_p (p_move rfl) (lt_dec rfl) ?_
        refine Ops_q (q_ixR (i) rfl rfl rfl (Rds.rssO m0) rfl rfl (by rw [valsR_len]; first | omega | (dsimp only; omega)) rfl) (lt_dec rfl) ?_
        refine Ops_q (q_loadI (j := i) rfl rfl (Rds.rssO m0) rfl (by first | omega | assumption) rfl rfl) (lt_dec rfl) ?_
        refine Ops_p (p_move rfl) (lt_dec rfl) ?_
        refine Ops_q (q_call en_laws_szInt64S rfl (w_laws_szInt64S h8 (by omega)) (Vw.rdI (j := i) m0 (by omega) rfl).v) (lt_dec rfl) ?_
        refine Ops_p (p_assign rfl) (lt_dec rfl) ?_
        refine Ops_nil ?_
        refine W_seq ?_
        refine W_region ?_
        refine Ops_p (p_move rfl) (lt_dec rfl) ?_
        refine Ops_p (p_lss rfl rfl) (lt_dec rfl) ?_
        refine Ops_nil ?_
        refine W_cond rfl (fun h3 => ?_) (fun h3 => ?_)
        · try simp only [bs] at h3
          have hz := szR_neg h3
          refine W_seq ?_
          refine W_region ?_
          refine Ops_p (p_assign rfl) (lt_dec rfl) ?_
          refine Ops_nil ?_
          refine W_ret ?_
          refine Exists.intro _ (And.intro (.cons (.tmp rfl) .nil) ?_)
          first | rfl | (refine veq_bool ?_; simp_all; done) | (refine veq_bool ?_; simp; omega) | (refine veq_bool ?_; rw [eq_comm, decide_eq_false_iff_not]; omega) | (refine veq_bool ?_; rw [eq_comm, decide_eq_true_iff]; omega) | (refine veq_int ?_; omega) | (refine veq_arr8 fun j hj => ?_; (try dsimp only); first | (simp; done) | (simp; omega) | ((repeat' split) <;> first | rfl | (exfalso; omega) | (congr 1; omega) | (simp_all; done))) | (exact veq_int (Eq.symm (szR_n (by have := hsm L.length (by omega); omega)))) | (exact veq_int (Eq.symm (szR_n (by omega)))) | (exact veq_int (Eq.symm (szR_p (by omega))))
        · try simp only [bs] at h3
          have hz := szR_pos h3; have hz2 := szR_p hz
          refine W_skip ?_
          refine W_region ?_
          refine Ops_p (p_move rfl) (lt_dec rfl) ?_
          refine Ops_p (p_add rfl rfl (by exact ⟨(by first | omega | (dsimp only; omega)), (by first | omega | (dsimp only; omega))⟩)) (lt_dec rfl) ?_
          refine Ops_p (p_assign rfl) (lt_dec rfl) ?_
          refine Ops_nil ?_
          refine Exists.intro (i + 1) (And.intro ?_ (And.intro ?_ ?_))
          · exact ⟨by omega, by omega⟩
          · show _ < _; omega
          · exact Wk.intro (.cons rfl (by first | rfl | exact veq_int (by first | omega | (dsimp only; omega))) (.cons rfl (by exact veq_int (by omega)) (.cons rfl (by first | rfl | exact veq_int (by first | omega | (dsimp only; omega))) (.cons rfl (by first | rfl | exact veq_int (by first | omega | (dsimp only; omega))) (.cons rfl (by first | rfl | exact veq_int (by first | omega | (dsimp only; omega))) (.cons rfl (by first | rfl | exact veq_int (by first | omega | (dsimp only; omega))) (.cons rfl (by first | rfl | exact veq_int (by first | omega | (dsimp only; omega))) (.cons rfl (by first | rfl | exact veq_int (by first | omega | (dsimp only; omega))) .nil)))))))) (.keep rfl rfl (fun _ h => h) .nil)
      · try simp only [bs] at h2
        obtain rfl : i = L.length := (by omega)
        refine W_exit ?_
        refine W_seq ?_
        refine W_region ?_
        refine Ops_p (p_move rfl) (lt_dec rfl) ?_
        refine Ops_p (p_assign rfl) (lt_dec rfl) ?_
        refine Ops_nil ?_
        refine W_ret ?_
        refine Exists.intro _ (And.intro (.cons (.tmp rfl) .nil) ?_)
        first | rfl | (refine veq_bool ?_; simp_all; done) | (refine veq_bool ?_; simp; omega) | (refine veq_bool ?_; rw [eq_comm, decide_eq_false_iff_not]; omega) | (refine veq_bool ?_; rw [eq_comm, decide_eq_true_iff]; omega) | (refine veq_int ?_; omega) | (refine veq_arr8 fun j hj => ?_; (try dsimp only); first | (simp; done) | (simp; omega) | ((repeat' split) <;> first | rfl | (exfalso; omega) | (congr 1; omega) | (simp_all; done))) | (exact veq_int (Eq.symm (szR_n (by have := hsm L.length (by omega); omega)))) | (exact veq_int (Eq.symm (szR_n (by omega)))) | (exact veq_int (Eq.symm (szR_p (by omega))))
end Go.Proofs.Ytdcpggdbjllmpab
