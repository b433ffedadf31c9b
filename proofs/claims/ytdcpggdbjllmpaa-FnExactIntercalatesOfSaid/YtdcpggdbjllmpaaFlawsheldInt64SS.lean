/- What the Go function laws.heldInt64SS does, shown of its loaded text; its conditions stand in the statement. -/
import Derived.Test.YtdcpggdbjllmpaaTy
import Derived.Test.YtdcpggdbjllmpaaFlawsheldInt64S
import Derived.Test.YtdcpggdbjllmpaaGx12
import Derived.Test.YtdcpggdbjllmpaaGx20
namespace Go.Proofs.Ytdcpggdbjllmpaa
open Go Gx
set_option linter.unusedVariables false
theorem en_laws_heldInt64SS : Enters Try.prog 33 := enters_of Try.func33 (by kernel_rfl) (by kernel_rfl)
set_option maxRecDepth 100000 in
theorem w_laws_heldInt64SS {a : Value} {ha : a.oneCell' = true} {L : SL} {k : Int} (hn : L.length ≤ 1100000) (hS : k + sumL L L.length ≤ 10000000) (hk : 0 ≤ k) : CR Try.prog 33 (vals [.raw a ha, .int .i64 k]) [rss a (markT k L (List.length L))] (.int .i64 (k + sumL L (List.length L))) := by
  refine CR_intro (rs := [.tmp 4]) tt tok Try.func33 rfl rfl rfl (by first | rfl | assumption) fun w => ?_
  have hsm : ∀ i, i ≤ L.length → 0 ≤ sumL L i ∧ sumL L i ≤ sumL L L.length := fun i hi => ⟨sumL_nn L i, sumL_le L hi⟩
  refine W_seq ?_
  refine W_region ?_
  refine Ops_p (p_assign rfl) (lt_dec rfl) ?_
  refine Ops_nil ?_
  refine W_seq ?_
  refine W_seq ?_
  refine W_region ?_
  refine Ops_p (p_assign rfl) (lt_dec rfl) ?_
  refine Ops_nil ?_
  refine W_block ?_
  refine W_loop (α := Nat) (fun i => ⟨[(0, .raw a ha), (1, .int .i64 (k + sumL L i)), (5, .int .i64 (i : Int))], [rss a (markT k L (List.length L))]⟩) (fun i => i ≤ L.length) (fun i => L.length - i) 0 ?_ ?_ ?_
  · show _ ≤ _; omega
  · exact Wk.intro (.cons rfl (by first | rfl | exact veq_int (by first | omega | (dsimp only; omega))) (.cons rfl (by exact veq_int (by show k = k + 0; omega)) (.cons rfl (by first | rfl | exact veq_int (by first | omega | (dsimp only; omega))) .nil))) (.keep rfl rfl (fun _ h => h) .nil)
  · rintro i hR
    have h9 := hsm i hR
    have h10 : i < L.length → sumL L (i + 1) ≤ sumL L L.length := fun h => (hsm (i + 1) h).2
    have h11 : sumL L (i + 1) = sumL L i + ((L.getD i sd).2.length : Int) := rfl
    refine W_seq ?_
    refine W_seq ?_
    refine W_region ?_
    refine Ops_p (p_move rfl) (lt_dec rfl) ?_
    refine Ops_p (p_move rfl) (lt_dec rfl) ?_
    refine Ops_q ((q_lenO rfl rfl rfl (Rds.rssO m0)).eq (d' := .int .i64 ((L.length : Nat) : Int)) (veq_int (by rw [markT_len]))) (lt_dec rfl) ?_
    refine Ops_p (p_lss rfl rfl) (lt_dec rfl) ?_
    refine Ops_nil ?_
    refine W_cond rfl (fun h1 => ?_) (fun h1 => ?_)
    · try simp only [bs] at h1
      refine W_skip ?_
      refine W_seq ?_
      refine W_block ?_
      refine W_seq ?_
      refine W_region ?_
      refine Ops_p (p_move rfl) (lt_dec rfl) ?_
      refine Ops_p (p_move rfl) (lt_dec rfl) ?_
      refine Ops_q (q_ixR (i) rfl rfl rfl (Rds.rssO m0) rfl rfl (by rw [valsR_len, markT_len]; omega) rfl) (lt_dec rfl) ?_
      refine Ops_q (q_loadI (j := i) rfl rfl (Rds.rssO m0) rfl (by rw [markT_len]; omega) rfl rfl) (lt_dec rfl) ?_
      refine Ops_p (p_move rfl) (lt_dec rfl) ?_
      refine Ops_q (q_call en_laws_heldInt64S rfl (w_laws_heldInt64S (n := (L.getD i sd).2.length) (k := k + sumL L i) (by omega) (by omega)) (Vw.rdI (j := i) m0 (by rw [markT_len]; omega) (congrArg (fun p : V1 × List Int => Rw.ints .i64 p.2) (markT_getD k L (n := L.length) (i := i) (by omega)).symm)).v) (lt_dec rfl) ?_
      refine Ops_p (p_assign rfl) (lt_dec rfl) ?_
      refine Ops_nil ?_
      refine W_seq ?_
      refine W_region ?_
      refine Ops_p (p_move rfl) (lt_dec rfl) ?_
      refine Ops_p (p_lss rfl rfl) (lt_dec rfl) ?_
      refine Ops_nil ?_
      refine W_cond rfl (fun h2 => ?_) (fun h2 => ?_)
      · try simp only [bs] at h2
        exfalso; omega
      · try simp only [bs] at h2
        refine W_skip ?_
        refine W_region ?_
        refine Ops_p (p_move rfl) (lt_dec rfl) ?_
        refine Ops_p (p_add rfl rfl (by exact ⟨(by first | omega | (dsimp only; omega)), (by first | omega | (dsimp only; omega))⟩)) (lt_dec rfl) ?_
        refine Ops_p (p_assign rfl) (lt_dec rfl) ?_
        refine Ops_nil ?_
        refine Exists.intro (i + 1) (And.intro ?_ (And.intro ?_ ?_))
        · show _ ≤ _; omega
        · show _ < _; omega
        · exact Wk.intro (.cons rfl (by first | rfl | exact veq_int (by first | omega | (dsimp only; omega))) (.cons rfl (by exact veq_int (by omega)) (.cons rfl (by first | rfl | exact veq_int (by first | omega | (dsimp only; omega))) .nil))) (.keep rfl rfl (fun _ h => h) .nil)
    · try simp only [bs] at h1
      obtain rfl : i = L.length := (by omega)
      refine W_exit ?_
      refine W_seq ?_
      refine W_region ?_
      refine Ops_p (p_move rfl) (lt_dec rfl) ?_
      refine Ops_p (p_assign rfl) (lt_dec rfl) ?_
      refine Ops_nil ?_
      refine W_ret ?_
      refine Exists.intro _ (And.intro (.cons (.tmp rfl) .nil) ?_)
      rfl
end Go.Proofs.Ytdcpggdbjllmpaa
