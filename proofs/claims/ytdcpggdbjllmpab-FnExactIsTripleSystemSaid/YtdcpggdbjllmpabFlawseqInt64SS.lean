/- What the Go function laws.eqInt64SS does, shown of its loaded text; its conditions stand in the statement. -/
import Derived.Test.YtdcpggdbjllmpabTy
import Derived.Test.YtdcpggdbjllmpabFlawseqInt64S
import Derived.Test.YtdcpggdbjllmpabGx12
import Derived.Test.YtdcpggdbjllmpabGx20
namespace Go.Proofs.Ytdcpggdbjllmpab
open Go Gx
set_option linter.unusedVariables false
theorem en_laws_eqInt64SS : Enters Try.prog 23 := enters_of Try.func23 (by kernel_rfl) (by kernel_rfl)
set_option maxRecDepth 100000 in
theorem w_laws_eqInt64SS {a b : Value} {ha : a.oneCell' = true} {hb : b.oneCell' = true} {L M : SL} (hLM : L.map (·.2) = M.map (·.2)) (hn : L.length ≤ 1100000) (hB : ∀ i, (L.getD i sd).2.length ≤ 1100000) : CR Try.prog 23 (vals [.raw a ha, .raw b hb]) [rss a L, rss b M] (.bool true) := by
  refine CR_intro (rs := [.tmp 4]) tt tok Try.func23 rfl rfl rfl (by first | rfl | assumption) fun w => ?_
  have hlen := snd_len hLM
  refine W_seq ?_
  refine W_region ?_
  refine Ops_p (p_assign rfl) (lt_dec rfl) ?_
  refine Ops_nil ?_
  refine W_seq ?_
  refine W_seq ?_
  refine W_region ?_
  refine Ops_p (p_move rfl) (lt_dec rfl) ?_
  refine Ops_q (q_lenO rfl rfl rfl (Rds.rssO m0)) (lt_dec rfl) ?_
  refine Ops_p (p_move rfl) (lt_dec rfl) ?_
  refine Ops_q ((q_lenO rfl rfl rfl (Rds.rssO m1)).eq (d' := .int .i64 ((L.length : Nat) : Int)) (veq_int (by rw [hlen]))) (lt_dec rfl) ?_
  refine Ops_p (p_neq rfl rfl) (lt_dec rfl) ?_
  refine Ops_nil ?_
  refine W_cond rfl (fun h1 => ?_) (fun h1 => ?_)
  · try simp only [bs] at h1
    exfalso; exact h1 (by first | rfl | trivial)
  · try simp only [bs] at h1
    refine W_skip ?_
    refine W_seq ?_
    refine W_seq ?_
    refine W_region ?_
    refine Ops_p (p_assign rfl) (lt_dec rfl) ?_
    refine Ops_nil ?_
    refine W_block ?_
    refine W_loop (α := Nat) (fun i => ⟨[(0, .raw a ha), (1, .raw b hb), (5, .int .i64 (i : Int)), (6, .raw a ha), (7, .int .i64 ((L.length : Nat) : Int)), (8, .raw b hb), (9, .int .i64 ((L.length : Nat) : Int))], [rss a L, rss b M]⟩) (fun i => i ≤ L.length) (fun i => L.length - i) 0 ?_ ?_ ?_
    · show _ ≤ _; omega
    · exact Wk.intro (.cons rfl (by first | rfl | exact veq_int (by first | omega | (dsimp only; omega))) (.cons rfl (by first | rfl | exact veq_int (by first | omega | (dsimp only; omega))) (.cons rfl (by first | rfl | exact veq_int (by first | omega | (dsimp only; omega))) (.cons rfl (by first | rfl | exact veq_int (by first | omega | (dsimp only; omega))) (.cons rfl (by first | rfl | exact veq_int (by first | omega | (dsimp only; omega))) (.cons rfl (by first | rfl | exact veq_int (by first | omega | (dsimp only; omega))) (.cons rfl (by first | rfl | exact veq_int (by first | omega | (dsimp only; omega))) .nil))))))) (.keep rfl rfl (fun _ h => h) (.keep rfl rfl (fun _ h => h) .nil))
    · rintro i hR
      refine W_seq ?_
      refine W_seq ?_
      refine W_region ?_
      refine Ops_p (p_move rfl) (lt_dec rfl) ?_
      refine Ops_p (p_move rfl) (lt_dec rfl) ?_
      refine Ops_q (q_lenO rfl rfl rfl (Rds.rssO m0)) (lt_dec rfl) ?_
      refine Ops_p (p_lss rfl rfl) (lt_dec rfl) ?_
      refine Ops_nil ?_
      refine W_cond rfl (fun h2 => ?_) (fun h2 => ?_)
      · try simp only [bs] at h2
        refine W_skip ?_
        refine W_seq ?_
        refine W_block ?_
        refine W_seq ?_
        refine W_draw (by kernel_rfl) ?_
        show RA _ _ 10 _ _ _
        refine RA_quietF [0, 1, 2, 3, 4, 5, 6, 7, 8, 9] rfl rfl rfl (by kernel_rfl) (by kernel_rfl) ?_
        refine WQ_cons rfl rfl rfl ((p_move rfl).q) (lt_dec rfl) ?_
        refine WQ_cons rfl rfl rfl ((p_move rfl).q) (lt_dec rfl) ?_
        refine WQ_cons rfl rfl rfl ((q_ixR (i) rfl rfl rfl (Rds.rssO m0) rfl rfl (by rw [valsR_len]; first | omega | (dsimp only; omega)) rfl)) (lt_dec rfl) ?_
        refine WQ_cons rfl rfl rfl ((q_loadI (j := i) rfl rfl (Rds.rssO m0) rfl (by first | omega | assumption) rfl rfl)) (lt_dec rfl) ?_
        refine WQ_cons rfl rfl rfl ((p_move rfl).q) (lt_dec rfl) ?_
        refine WQ_cons rfl rfl rfl ((p_move rfl).q) (lt_dec rfl) ?_
        refine WQ_cons rfl rfl rfl ((q_ixR (i) rfl rfl rfl (Rds.rssO m1) rfl rfl (by rw [valsR_len]; first | omega | (dsimp only; omega)) rfl)) (lt_dec rfl) ?_
        refine WQ_cons rfl rfl rfl ((q_loadI (j := i) rfl rfl (Rds.rssO m1) rfl (by first | omega | assumption) rfl rfl)) (lt_dec rfl) ?_
        refine WQ_cons rfl rfl rfl ((q_call en_laws_eqInt64S rfl (w_laws_eqInt64S (l := (L.getD i sd).2) (by have := hB i; omega)) (Vw.cons (Vw.rdI (j := i) m0 (by omega) rfl) (Vw.rdI (j := i) m1 (by omega) (by rw [snd_getD hLM i]))).v)) (lt_dec rfl) ?_
        refine WQ_cons rfl rfl rfl ((p_not rfl).q) (lt_dec rfl) ?_
        refine WQ_nil ?_
        refine W_false rfl ?_
        refine W_skip ?_
        refine W_region ?_
        refine Ops_p (p_move rfl) (lt_dec rfl) ?_
        refine Ops_p (p_add rfl rfl (by exact ⟨(by first | omega | (dsimp only; omega)), (by first | omega | (dsimp only; omega))⟩)) (lt_dec rfl) ?_
        refine Ops_p (p_assign rfl) (lt_dec rfl) ?_
        refine Ops_nil ?_
        refine Exists.intro (i + 1) (And.intro ?_ (And.intro ?_ ?_))
        · show _ ≤ _; omega
        · show _ < _; omega
        · exact Wk.intro (.cons rfl (by first | rfl | exact veq_int (by first | omega | (dsimp only; omega))) (.cons rfl (by first | rfl | exact veq_int (by first | omega | (dsimp only; omega))) (.cons rfl (by first | rfl | exact veq_int (by first | omega | (dsimp only; omega))) (.cons rfl (by first | rfl | exact veq_int (by first | omega | (dsimp only; omega))) (.cons rfl (by first | rfl | exact veq_int (by first | omega | (dsimp only; omega))) (.cons rfl (by first | rfl | exact veq_int (by first | omega | (dsimp only; omega))) (.cons rfl (by first | rfl | exact veq_int (by first | omega | (dsimp only; omega))) .nil))))))) (.keep rfl rfl (fun _ h => h) (.keep rfl rfl (fun _ h => h) .nil))
      · try simp only [bs] at h2
        refine W_exit ?_
        refine W_seq ?_
        refine W_region ?_
        refine Ops_p (p_assign rfl) (lt_dec rfl) ?_
        refine Ops_nil ?_
        refine W_ret ?_
        refine Exists.intro _ (And.intro (.cons (.tmp rfl) .nil) ?_)
        first | rfl | (refine veq_bool ?_; simp_all; done) | (refine veq_bool ?_; simp; omega) | (refine veq_bool ?_; rw [eq_comm, decide_eq_false_iff_not]; omega) | (refine veq_bool ?_; rw [eq_comm, decide_eq_true_iff]; omega) | (refine veq_int ?_; omega) | (refine veq_arr8 fun j hj => ?_; (try dsimp only); first | (simp; done) | (simp; omega) | ((repeat' split) <;> first | rfl | (exfalso; omega) | (congr 1; omega) | (simp_all; done)))
end Go.Proofs.Ytdcpggdbjllmpab
