/- What the Go function laws.markInt64SS does, shown of its loaded text; its conditions stand in the statement. -/
import Derived.Test.YtdcpggdbjllmpaaTy
import Derived.Test.YtdcpggdbjllmpaaFlawsmarkInt64S
import Derived.Test.YtdcpggdbjllmpaaGx12
import Derived.Test.YtdcpggdbjllmpaaGx20
namespace Go.Proofs.Ytdcpggdbjllmpaa
open Go Gx
set_option linter.unusedVariables false
theorem en_laws_markInt64SS : Enters Try.prog 32 := enters_of Try.func32 (by kernel_rfl) (by kernel_rfl)
set_option maxRecDepth 100000 in
theorem w_laws_markInt64SS {a : Value} {ha : a.oneCell' = true} {L : SL} {k : Int} (hn : L.length ≤ 1100000) (hS : k + sumL L L.length ≤ 10000000) (hk : 0 ≤ k) : CT (X := Unit) Try.prog 32 (vals [.raw a ha, .int .i64 k]) [oss a 74 2 L] [] (fun x => True) (fun x => .int .i64 (k + sumL L (List.length L))) (fun x => [oss a 74 2 (markT k L (List.length L))]) := by
  refine CT_intro (rs := [.tmp 4]) tt tok Try.func32 rfl rfl rfl (by first | rfl | assumption) fun w => ?_
  show W _ _ _ ⟨tmOf 0 [.raw a ha, .int .i64 k], [oss a 74 2 L]⟩
  have hsm : ∀ i, i ≤ L.length → 0 ≤ sumL L i ∧ sumL L i ≤ sumL L L.length := fun i hi => ⟨sumL_nn L i, sumL_le L hi⟩
  refine W_seq ?_
  refine W_region ?_
  refine Ops_p (p_assign rfl) (lt_dec rfl) ?_
  refine Ops_nil ?_
  refine W_seq ?_
  refine W_seq ?_
  refine W_region ?_
  refine Ops_p (p_assign rfl) (lt_dec rfl) ?_
  refine Ops_nil ?_
  refine W_block ?_
  refine W_loop (α := Nat) (fun i => ⟨[(0, .raw a ha), (1, .int .i64 (k + sumL L i)), (4, .int .i64 0), (5, .int .i64 (i : Int))], [oss a 74 2 (markT k L i ++ L.drop i)]⟩) (fun i => i ≤ L.length) (fun i => L.length - i) 0 ?_ ?_ ?_
  · show _ ≤ _; omega
  · exact Wk.intro (.cons rfl (by first | rfl | exact veq_int (by first | omega | (dsimp only; omega))) (.cons rfl (by exact veq_int (by show k = k + 0; omega)) (.cons rfl (by first | rfl | exact veq_int (by first | omega | (dsimp only; omega))) (.cons rfl (by first | rfl | exact veq_int (by first | omega | (dsimp only; omega))) .nil)))) (.keep rfl rfl (oss_eq rfl) .nil)
  · rintro i hR
    have h9 := hsm i hR
    have h10 : i < L.length → sumL L (i + 1) ≤ sumL L L.length := fun h => (hsm (i + 1) h).2
    have h11 : sumL L (i + 1) = sumL L i + ((L.getD i sd).2.length : Int) := rfl
    refine W_seq ?_
    refine W_seq ?_
    refine W_region ?_
    refine Ops_p (p_move rfl) (lt_dec rfl) ?_
    refine Ops_p (p_move rfl) (lt_dec rfl) ?_
    refine Ops_q ((q_lenO rfl rfl rfl (Rds.ossO m0)).eq (d' := .int .i64 ((L.length : Nat) : Int)) (veq_int (by rw [markT_drop k hR]))) (lt_dec rfl) ?_
    refine Ops_p (p_lss rfl rfl) (lt_dec rfl) ?_
    refine Ops_nil ?_
    refine W_cond rfl (fun h1 => ?_) (fun h1 => ?_)
    · try simp only [bs] at h1
      refine W_skip ?_
      refine W_seq ?_
      refine W_block ?_
      refine W_region ?_
      refine Ops_p (p_move rfl) (lt_dec rfl) ?_
      refine Ops_p (p_move rfl) (lt_dec rfl) ?_
      refine Ops_q (q_ixR (i) rfl rfl rfl (Rds.ossO m0) rfl rfl (by rw [valsR_len, markT_drop k (by omega)]; omega) rfl) (lt_dec rfl) ?_
      refine Ops_q (q_loadI (j := i) rfl rfl (Rds.ossO m0) rfl (by rw [markT_drop k (by omega)]; omega) rfl rfl) (lt_dec rfl) ?_
      refine Ops_p (p_move rfl) (lt_dec rfl) ?_
      refine Ops_x rfl (x_callT en_laws_markInt64S rfl (CT.oss (i := i) (l2 := marks (k + sumL L i) (L.getD i sd).2.length) (by rw [markT_drop k (by omega)]; omega) (by rw [markT_at k (by omega)]; exact w_laws_markInt64S (by omega) (by omega))) (HpDels.cons HpDel.head HpDels.nil) (Vw.none _) (fun _ => (HpDels.cons HpDel.head HpDels.nil)) (lt_dec rfl) fun _ _ => ?_)
      refine Ops_p (p_assign rfl) (lt_dec rfl) ?_
      refine Ops_nil ?_
      refine W_region ?_
      refine Ops_p (p_move rfl) (lt_dec rfl) ?_
      refine Ops_p (p_add rfl rfl (by exact ⟨(by first | omega | (dsimp only; omega)), (by first | omega | (dsimp only; omega))⟩)) (lt_dec rfl) ?_
      refine Ops_p (p_assign rfl) (lt_dec rfl) ?_
      refine Ops_nil ?_
      refine Exists.intro (i + 1) (And.intro ?_ (And.intro ?_ ?_))
      · show _ ≤ _; omega
      · show _ < _; omega
      · exact Wk.intro (.cons rfl (by first | rfl | exact veq_int (by first | omega | (dsimp only; omega))) (.cons rfl (by exact veq_int (by omega)) (.cons rfl (by first | rfl | exact veq_int (by first | omega | (dsimp only; omega))) (.cons rfl (by first | rfl | exact veq_int (by first | omega | (dsimp only; omega))) .nil)))) (.keep (by rw [markT_set k (by omega)]) rfl (oss_eq (by rw [markT_set k (by omega)])) .nil)
    · try simp only [bs] at h1
      obtain rfl : i = L.length := (by omega)
      refine W_exit ?_
      refine W_seq ?_
      refine W_region ?_
      refine Ops_p (p_move rfl) (lt_dec rfl) ?_
      refine Ops_p (p_assign rfl) (lt_dec rfl) ?_
      refine Ops_nil ?_
      refine W_ret ?_
      refine Exists.intro _ (And.intro (.cons (.tmp rfl) .nil) (Exists.intro () (And.intro ?_ (And.intro ?_ (And.intro (.cons HpDel.head (by rw [List.drop_length, List.append_nil]) (oss_eq (by rw [List.drop_length, List.append_nil])) .nil) rfl)))))
      · trivial
      · rfl
end Go.Proofs.Ytdcpggdbjllmpaa
